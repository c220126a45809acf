/- Part of the library on which the proof stands: an abstract machine, its values and its soundness against the model; or what functions of the program do to such values. -/
import Derived.Test.YtnaehggpjfdenaaGreatAbsP
set_option linter.unusedVariables false
set_option linter.unusedSimpArgs false
namespace Go.Abs
open Go.RowKit
abbrev Fp:=List Nat × List Nat
def Ql7 (P:Program) (n0:Nat) (x:Ins) (E:Nat->V) (h:List O) (r:V) (h':List O) (fp:Fp):Prop :=
 h.length<=h'.length/\(∀id∈fp.1,id<h.length/\(id<n0∨∃a∈x.i.opnds,id∈(evF E a).ids2))/\(∀id∈fp.2,id∈fp.1)/\(∀id,id<h.length->id∉fp.2->h'[id]?=h[id]?) /\
 ((∀id∈fp.1,1<=x.i.cls)/\∀id∈fp.2,x.i.cls=2) /\
 ∀E2,(∀a∈x.i.opnds,evF E2 a=evF E a)->∀h2,h.length<=h2.length->(∀id∈fp.1,h2[id]?=h[id]?)->∃r2 hk,Wc P x.i E2 h2 (λr' h''=>r'=r2/\h''=Q5p h2 fp.2 h'++hk) /\
  ((hk=[]/\r2=r/\h'.length=h.length)∨(fp.2=[]/\r2.mv h2.length h.length=r/\hk.map (O.mv h2.length h.length)=h'.drop h.length))
def TLoc (P:Program) (n0:Nat) (x:Ins) (E:Nat->V) (h:List O) (r:V) (h':List O) (fp:Fp):Prop :=
 (∃t Z0 b,x.g=some (t,Z0)/\E t=b/\Skp b Z0/\r=.t []/\h'=h/\fp=([],[])) ∨
 ((x.g=none∨∃t Z0,x.g=some (t,Z0)/\E t=.b Z0)/\Ql7 P n0 x E h r h' fp)
theorem LCall.loc {P:Program} {n0:Nat} {al:List Nat} {f:FuncId} {vs:List V} {h h':List O} {r:V} {T W:List Nat} (hl:LCall P n0 al f vs h r h' T W) {x:Ins} {E:Nat->V} (hc:x.i.cls=2)
  (hal:∀id∈al,∃a∈x.i.opnds,id∈(evF E a).ids2) (hdo:∀E2,(∀a∈x.i.opnds,evF E2 a=evF E a)->∀h2 κ,ACall P f vs h2 κ->Wc P x.i E2 h2 κ):Ql7 P n0 x E h r h' (T,W):=by
 obtain⟨h1,h2,h3,h4,h5⟩:=hl;refine⟨h1,λid hid=>⟨(h2 id hid).1,(h2 id hid).2.imp (λh=>h) (hal id)⟩,h3,h4,⟨λ_ _=>by omega,λ_ _=>hc⟩,λE2 hE2 k hk ha=>?_⟩;obtain⟨r2,hk',h6,h7⟩:=h5 k hk ha;exact⟨r2,hk',hdo E2 hE2 k _ h6,h7⟩
theorem Qmx {P:Program} {i:I} {E:Nat->V} {h h':List O} {r:V} {κ:V->List O->Prop} (hsp:i.isSp=false) (hst:Q3 i (evF E) h=some (r,h')) (hκ:κ r h'):Wc P i E h κ:=by
 cases i
 case call=>simp[I.isSp]at hsp
 case callv=>simp[I.isSp]at hsp
 case mnx=>simp[I.isSp]at hsp
 case isn neg y =>
  simp only[Wc];have hf:(evF E y).empt=false:=by
   have h7:=hst;simp only[Q3]at h7;generalize evF E y=Y at h7;cases Y<;>first | rfl | (simp at h7;done) | skip
   rename_i sz els;cases els with
   | nil=>simp at h7
   | cons=>rfl
  rw[hf];simp only[hst];exact hκ
 all_goals
  simp only[Wc,hst];exact hκ
theorem Qr9 {P:Program} {n0:Nat} {x:Ins} {σ:St} {r:V} {h':List O} (hsp:x.i.isSp=false) (hst:Q3 x.i (A.ev σ.env) σ.h=some (r,h')) (hn:Z2 x.i σ.h h') :
  Ql7 P n0 x (λt=>get t σ.env) σ.h r h' (x.i.foot (A.ev σ.env)):=by
 obtain⟨l1,l2,l3,l4⟩:=Qqg hsp hst hn;refine⟨l1,λid hid=>⟨l2 id hid,.inr ?_⟩,λid hid=>Qy1 hid,l3,⟨λid hid=>foot_cls.1 id hid,λid hid=>foot_cls.2 id hid⟩,λE2 hE2 h2 hle ha=>?_⟩
 ·obtain⟨a,ha,hid⟩:=Qy6 hid;refine⟨a,ha,?_⟩;rw[Xv];generalize A.ev σ.env a=v at hid;cases v<;>simp[V.ids0]at hid<;>simpa[V.ids2,V.ids1,V.ids0]using hid
 ·obtain⟨r2,hk,h4,h5⟩:=l4 h2 hle ha;refine⟨r2,hk,?_,h5⟩;have h6:Q3 x.i (evF E2) h2=some (r2,Q5p h2 (x.i.foot (A.ev σ.env)).2 h'++hk):=by
   rw[Qiu (ev':=A.ev σ.env) (λa ha=>by rw[hE2 a ha,Xv])];exact h4
  exact Qmx hsp h6 ⟨rfl,rfl⟩
theorem Qzb {P:Program} {n0:Nat} {js:List Nat} {lg:List Fp} {x:Ins} {σ:St} {f:FuncId} {args:List A} (hx:x.i=.call f args) {κ:Fp->V->List O->Prop}
  (h:Ub P n0 js lg ((args.map (A.ev σ.env)).flatMap V.ids2) f (args.map (A.ev σ.env)) σ.h κ):∃fp r h',κ fp r h'/\chk js lg fp=true/\Ql7 P n0 x (λt=>get t σ.env) σ.h r h' fp:=by
 obtain⟨T,W,r,h',h1,h2,h3⟩:=h;refine⟨(T,W),r,h',h3,h1,h2.loc (by rw[hx];rfl) (λid hid=>?_) (λE2 hE2 h2 κ hκ=>?_)⟩
 ·obtain⟨v,hv,hid⟩:=jr.1 hid;obtain⟨a,ha,rfl⟩:=qo.1 hv;exact⟨a,by rw[hx];exact ha,by rw[Xv];exact hid⟩
 ·rw[hx]at hE2 ⊢
  simp only[Wc];have:args.map (evF E2)=args.map (A.ev σ.env):=jv λa ha=>by rw[hE2 a ha,Xv]
  rw[this];exact hκ
theorem Qt0 {P:Program} {n0:Nat} {js:List Nat} {lg:List Fp} {x:Ins} {σ:St} {c:A} {args:List A} (hx:x.i=.callv c args) {κ:Fp->V->List O->Prop}
  (h:E1 P n0 js lg (A.ev σ.env c) (args.map (A.ev σ.env)) σ.h κ):∃fp r h',κ fp r h'/\chk js lg fp=true/\Ql7 P n0 x (λt=>get t σ.env) σ.h r h' fp:=by
 unfold E1 at h;split at h
 case h_2=>exact h.elim
 rename_i f caps hcap;obtain⟨hcl,T,W,r,h',h1,h2,h3⟩:=h;refine⟨(T,W),r,h',h3,h1,h2.loc (by rw[hx];rfl) (λid hid=>?_) (λE2 hE2 h2 κ hκ=>?_)⟩
 ·rcases qg.1 hid with hid | hid
  ·exact⟨c,by rw[hx];simp[I.opnds],by rw[Xv];exact hid⟩
  ·obtain⟨v,hv,hid⟩:=jr.1 hid;obtain⟨a,ha,rfl⟩:=qo.1 hv;exact⟨a,by rw[hx];simp[I.opnds,ha],by rw[Xv];exact hid⟩
 ·rw[hx]at hE2 ⊢
  simp only[Wc];have h4:args.map (evF E2)=args.map (A.ev σ.env):=jv λa ha=>by rw[hE2 a (by simp[I.opnds,ha]),Xv]
  have h5:evF E2 c=.f f caps:=by rw[hE2 c (by simp[I.opnds]),Xv];exact hcap
  rw[h5,h4];exact⟨hcl,hκ⟩
def FpLe (f g:Fp):Prop:=(∀id∈f.1,id∈g.1)/\∀id∈f.2,id∈g.2
def LgLe (l l':List Fp):Prop:=l.length=l'.length/\∀(i:Nat) f g,l[i]?=some f->l'[i]?=some g->FpLe f g
theorem FpLe.refl (f:Fp):FpLe f f:=⟨λ_ h=>h,λ_ h=>h⟩
theorem FpLe.nil (f:Fp):FpLe ([],[]) f:=⟨by simp,by simp⟩
theorem LgLe.snoc {l l':List Fp} {f g:Fp} (h:LgLe l l') (hf:FpLe f g):LgLe (l++[f]) (l'++[g]):=by
 refine⟨by simp[h.1],λi a b ha hb=>?_⟩;by_cases hi:i<l.length
 ·rw[qd hi]at ha
  rw[qd (by rw[<- h.1];exact hi)]at hb
  exact h.2 i a b ha hb
 ·have hl:=(q8.1 ha).1;simp at hl;have:i=l.length:=by omega
  subst this;simp at ha;rw[h.1]at hb
  simp at hb;subst ha;subst hb;exact hf
theorem Qlc {a b a' b':List Nat} (h:Dis a' b'=true) (ha:∀id∈a,id∈a') (hb:∀id∈b,id∈b'):Dis a b=true:=by
 simp only[Dis,qj,Bool.not_eq_true',List.contains_eq_mem,decide_eq_false_iff_not]at h ⊢;exact λid hid hid'=>h id (ha id hid) (hb id hid')
theorem Qbd {js:List Nat} {l l':List Fp} {f g:Fp} (h:chk js l' g=true) (hl:LgLe l l') (hf:FpLe f g):chk js l f=true:=by
 simp only[chk,qj]at h ⊢;intro j hj;have h1:=h j hj;cases h2:l[j]? with
 | none=>rfl
 | some a =>
   have hlt:=(q8.1 h2).1;have h3:l'[j]?=some (l'[j]'(by rw[<- hl.1];exact hlt)):=q9 _;rw[h3]at h1
   have h4:=hl.2 j _ _ h2 h3;simp only[Qae,Bool.and_eq_true]at h1 ⊢;exact⟨Qlc h1.1 h4.2 hf.1,Qlc h1.2 hf.2 h4.1⟩
theorem Qpq (js:List Nat) (lg:List Fp):chk js lg ([],[])=true:=by
 simp only[chk,qj];intro j _;split
 ·simp[Qae,Dis]
 ·rfl
theorem Z1g {P:Program} {n0:Nat}:∀(xs:List Ins) (ps:List (List Nat)) (lg lg':List Fp) (σ:St) (κ:St->Prop),AD P n0 xs ps lg' σ κ->LgLe lg lg' ->
  ∃(sq:Nat->St) (rv:Nat->V) (fp:Nat->Fp),sq 0=σ/\(∀(k:Nat) (x:Ins),xs[k]?=some x->TLoc P n0 x (λt=>get t (sq k).env) (sq k).h (rv k) (sq (k+1)).h (fp k) /\
   chk ((ps.drop k).headD []) (lg++(List.range k).map fp) (fp k)=true/\(sq (k+1)).env=Qp x.d (rv k) (sq k).env)/\κ (sq xs.length)
 | [],_,_,_,σ,κ,h,_=>⟨λ_=>σ,λ_=>.any,λ_=>([],[]),rfl,by simp,h⟩
 | x::xs,ps,lg,lg',σ,κ,h,hle=>by
   have cont:∀(f0 f1:Fp) (r:V) (h':List O),AD P n0 xs ps.tail (lg'++[f1]) ⟨Qp x.d r σ.env,h'⟩ κ->FpLe f0 f1->TLoc P n0 x (λt=>get t σ.env) σ.h r h' f0->chk (ps.headD []) lg f0=true ->
     ∃(sq:Nat->St) (rv:Nat->V) (fp:Nat->Fp),sq 0=σ/\(∀(k:Nat) (y:Ins),(x::xs)[k]?=some y->TLoc P n0 y (λt=>get t (sq k).env) (sq k).h (rv k) (sq (k+1)).h (fp k) /\
      chk ((ps.drop k).headD []) (lg++(List.range k).map fp) (fp k)=true/\(sq (k+1)).env=Qp y.d (rv k) (sq k).env)/\κ (sq (x::xs).length):=by
    intro f0 f1 r h' h1 hf h2 h3;obtain⟨sq,rv,fp,h4,h5,h6⟩:=Z1g xs ps.tail (lg++[f0]) (lg'++[f1]) _ κ h1 (hle.snoc hf);refine⟨λk=>match k with | 0=>σ | k+1=>sq k,λk=>match k with | 0=>r | k+1=>rv k,λk=>match k with | 0=>f0 | k+1=>fp k,rfl,λk y hy=>?_,h6⟩;cases k with
    | zero =>
      simp at hy;subst hy;simp only[Nat.zero_add,h4];exact⟨h2,by simpa using h3,trivial⟩
    | succ k =>
      simp at hy;obtain⟨g1,g2,g3⟩:=h5 k y hy;refine⟨g1,?_,g3⟩;rw[List.range_succ_eq_map];simp only[List.map_cons,List.map_map];have:(lg++[f0]++(List.range k).map fp)=lg++(f0::(List.range k).map fp):=by simp
      rw[this]at g2
      have e1:(ps.tail.drop k)=ps.drop (k+1):=by cases ps<;>simp
      rw[e1]at g2
      exact g2
   have guard:∀(F:Prop) (G:Prop),(match x.g with | none=>F | some (t,Z0)=>Xa (get t σ.env) Z0 F G) ->
     ((x.g=none∨∃t Z0,x.g=some (t,Z0)/\get t σ.env=.b Z0)/\F)∨((∃t Z0 b,x.g=some (t,Z0)/\get t σ.env=b/\Skp b Z0)/\G):=by
    intro F G hFG;cases hg:x.g with
    | none=>rw[hg]at hFG;exact .inl ⟨.inl rfl,hFG⟩
    | some p =>
      obtain⟨t,Z0⟩:=p;rw[hg]at hFG
      simp only at hFG;unfold Xa at hFG;split at hFG
      case h_3=>exact hFG.elim
      case h_2 =>
       rename_i hb;exact .inr ⟨⟨t,Z0,_,rfl,hb,.inr rfl⟩,hFG⟩
      rename_i b hb;by_cases hbw:b=Z0
      ·exact .inl ⟨.inr ⟨t,Z0,rfl,by rw[hb,hbw]⟩,hFG.1 hbw⟩
      ·have hbw':b = !Z0:=by cases b<;>cases Z0<;>simp_all
       exact .inr ⟨⟨t,Z0,_,rfl,hb,.inl (by rw[hbw'])⟩,hFG.2 hbw'⟩
   have skip:∀(f1:Fp),(∃t Z0 b,x.g=some (t,Z0)/\get t σ.env=b/\Skp b Z0)->AD P n0 xs ps.tail (lg'++[f1]) ⟨Qp x.d (.t []) σ.env,σ.h⟩ κ->_:=λf1 ⟨t,Z0,b,q1,q2,q3⟩ hA =>
    cont ([],[]) f1 (.t []) σ.h hA (FpLe.nil _) (.inl ⟨t,Z0,b,q1,q2,q3,rfl,rfl,rfl⟩) (Qpq _ _)
   simp only[AD]at h;split at h
   ·rename_i f args hi;rcases guard _ _ h with⟨hg,h⟩ | ⟨hg,h⟩
    ·obtain⟨fp,r,h',h1,h2,h3⟩:=Qzb hi h;exact cont fp fp r h' h1 (FpLe.refl _) (.inr ⟨hg,h3⟩) (Qbd h2 hle (FpLe.refl _))
    ·exact skip _ hg h
   ·rename_i c args hi;rcases guard _ _ h with⟨hg,h⟩ | ⟨hg,h⟩
    ·obtain⟨fp,r,h',h1,h2,h3⟩:=Qt0 hi h;exact cont fp fp r h' h1 (FpLe.refl _) (.inr ⟨hg,h3⟩) (Qbd h2 hle (FpLe.refl _))
    ·exact skip _ hg h
   ·exact h.elim
   ·exact h.elim
   ·rename_i n1 n2 n3 n4;have hsp:x.i.isSp=false:=by
     generalize x.i=i at *
     cases i<;>first | rfl | exact absurd rfl (n1 _ _) | exact absurd rfl (n2 _ _) | exact absurd rfl (n3 _) | exact absurd rfl (n4 _)
    obtain⟨hck,h⟩:=h;rcases guard _ _ h with⟨hg,h⟩ | ⟨hg,h⟩
    ·unfold Opt at h;split at h
     case h_2=>exact h.elim
     rename_i r h' hst;exact cont _ _ r h' h.2 (FpLe.refl _) (.inr ⟨hg,Qr9 hsp hst h.1⟩) (Qbd hck hle (FpLe.refl _))
    ·exact skip _ hg h.2
theorem Q2m {listed:Array Bool} {k:Nat} (h:k<listed.size) (d:Bool):listed.getD k d=listed[k]:=by simp[Array.getD,h]
theorem Qk6 {J:Nat->Prop} {m:List Ent} {w:World} {v:V} {c:Value} (h:RL J m w v c) {id:Nat} (hid:id∈v.ids0):∃e,m[id]?=some e/\1<=e.gen:=by
 obtain⟨h1,h2,h3⟩:=RL_ids h;cases v<;>simp only[V.ids0,List.not_mem_nil,qn]at hid
 case own=>subst hid;exact h1 _ _ _ _ rfl
 case p=>subst hid;exact h2 _ _ _ _ rfl
 case mp=>subst hid;exact h3 _ rfl
theorem Qor {R:V->Value->Prop} {f:V->List Nat} {p:Nat->Prop} (hR:∀v c id,R v c->id∈f v->p id) {vs:List V} {cs:List Value} (hp:Pw R vs cs) {id:Nat} (hid:id∈vs.flatMap f):p id:=by
 obtain⟨v,hv,hid⟩:=jr.1 hid;obtain⟨i,hi⟩:=qq hv;obtain⟨c,_,h1⟩:=hp.get hi;exact hR v c id h1 hid
theorem Qk5 {J:Nat->Prop} {m:List Ent} {w:World} {v:V} {c:Value} (h:RC J m w v c) {id:Nat} (hid:id∈v.ids1):∃e,m[id]?=some e/\1<=e.gen:=by
 cases v
 case f fn caps =>
  obtain⟨cs,_,h2⟩:=h;exact Qor (R:=RL J m w) (f:=V.ids0) (λv c id h hid=>Qk6 h hid) h2 hid
 all_goals
  simp only[RC]at h;exact Qk6 (J:=J) (w:=w) h hid
theorem Qk4 {J:Nat->Prop} {m:List Ent} {w:World} {v:V} {c:Value} (h:RV J m w v c) {id:Nat} (hid:id∈v.ids2):∃e,m[id]?=some e/\1<=e.gen:=by
 cases v
 case a cs =>
  obtain⟨arr,_,h2⟩:=h;exact Qor (R:=RC J m w) (f:=V.ids1) (λv c id h hid=>Qk5 h hid) h2 hid
 case t=>simp[V.ids2,V.ids1,V.ids0]at hid
 case any=>simp[V.ids2,V.ids1,V.ids0]at hid
 all_goals
  simp only[RV,RA]at h;exact Qk5 (J:=J) (w:=w) h hid
section
variable {P:Program}
theorem Quh {N:Nat} {ops:Array Oper} {imm:Bool} {o:Oper} {x:Ins} (hx:Jg P N ops imm o=some x) {J:Nat->Prop} {m:List Ent} {E:Nat->V} {h:List O} {a:Act} {w:World} (hr:RelF N J m E h a w)
  {t:Nat} {Z0:Bool} {b:V} (hg:x.g=some (t,Z0)) (hb:E t=b) (hbw:Skp b Z0) {i:Nat} (ho:ops[i]?=some o) {K:Act->World->Prop} {Q:Exit->Act->World->Prop}
  (hK:∀a',RelF N J m (Q1w x.d (.t []) E) h a' w->K a' w):wpOp P ops Q i K a w:=by
 obtain⟨_,hdl,hxd,hg'⟩:=X9 hx;have hw:=Ih hr hg';unfold wpOp;simp only[ho];rw[hg]at hw
 have:Region.wanted o (yielded ops a.tmps)=false:=by
  rcases hbw with rfl | rfl
  ·rw[hw.1 _ hb];cases Z0<;>rfl
  ·exact hw.2 hb
 rw[this];simp only[Bool.false_eq_true,if_false];refine hK _ ?_;rw[hxd];exact hr.put (Ev.refl 0 J m w) (Ml.refl m) hr.rs hdl ⟨#[],rfl,Pw.nil⟩
theorem tdo_op {N:Nat} {ops:Array Oper} {imm:Bool} {o:Oper} {x:Ins} (hx:Jg P N ops imm o=some x) {J:Nat->Prop} {m:List Ent} {E:Nat->V} {h h':List O} {r:V} {a:Act} {w:World} (hr:RelF N J m E h a w)
  (hg:x.g=none∨∃t Z0,x.g=some (t,Z0)/\E t=.b Z0) (hdo:Wc P x.i E h (λr' h''=>r'=r/\h''=h')) {i:Nat} (ho:ops[i]?=some o) {K:Act->World->Prop} {Q:Exit->Act->World->Prop}
  (hK:∀J' m' a' w',RelF N J' m' (Q1w x.d r E) h' a' w'->(∀n,Ev n J m w J' m' w')->Ml m m'->K a' w'):wpOp P ops Q i K a w:=by
 obtain⟨_,hdl,hxd,hg'⟩:=X9 hx;have hw:=Ih hr hg';unfold wpOp;simp only[ho];have hwt:Region.wanted o (yielded ops a.tmps)=true:=by
  rcases hg with q1 | ⟨t,Z0,q1,q3⟩
  ·rw[q1]at hw;exact hw
  ·rw[q1]at hw
   have:=hw.1 Z0 q3;rw[this];simp
 rw[hwt];simp only[if_true]
 left
 refine Qmu hx hr hdo ?_;rintro r' h'' J' m' a' w' ⟨rfl,rfl⟩ hr' hev hml;exact hK J' m' a' w' hr' hev hml
theorem Qrq {α:Type} {f:α->α} {l:List α} (h:∀(i:Nat) x,l[i]?=some x->f x=x):l.map f=l:=by
 apply qy;intro i;rw[qp];cases hx:l[i]? with
 | none=>rfl
 | some x=>simp[h i x hx]
theorem drw_ok {N n:Nat} {ops:Array Oper} {xs:List Ins} (hl:ops.toList.length=xs.length) (hk:∀(k:Nat) (o:Oper) (x:Ins),ops.toList[k]?=some o->xs[k]?=some x->∃imm,Jg P N ops imm o=some x)
  (hord:Qg2 ops.toList xs=true) {σ:St} {κ:St->Prop} (had:AD P σ.h.length xs (psOf ops.toList xs) [] σ κ) {J:Nat->Prop} {m:List Ent} {a:Act} {w:World} (hr:RelF N J m (λt=>get t σ.env) σ.h a w) {Q:Exit->Act->World->Prop}
  (hQ:∀σ' J' m' a' w',κ σ'->RelF N J' m' (λt=>get t σ'.env) σ'.h a' w'->Ev n J m w J' m' w'->Q .normal a' w'):wpAny P .any ops Q ops.size (Array.replicate ops.size false) a w:=by
 obtain⟨sq,rv,fp,hs0,hsq,hκ⟩:=Z1g xs _ [] [] σ κ had ⟨rfl,by simp⟩;have hsz:ops.size=xs.length:=by simpa using hl
 simp only[Qg2,Bool.and_eq_true,qj,qz]at hord;obtain⟨⟨hedge,hconf⟩,hcok⟩:=hord;have hB:Qi4 ops.toList (Q16 ops.toList []):=Qps ops.toList [] [] rfl ⟨by simp,by simp⟩;have hBl:(Q16 ops.toList []).length=xs.length:=by rw[Qkw];simpa using hl
 generalize hnn:xs.length=nn at *
 -- lengths
 let base:Nat->Nat:=λk=>(sq k).h.length
 have hb0:base 0=σ.h.length:=by simp[base,hs0]
 have hstep:∀k,k<nn->base k<=base (k+1)/\(∀id∈(fp k).1,id<base k)/\(∀id∈(fp k).2,id∈(fp k).1)/\(∀id,id<base k->id∉(fp k).2->(sq (k+1)).h[id]?=(sq k).h[id]?) /\
   (∀x,xs[k]?=some x->(∀id∈(fp k).1,1<=x.i.cls)/\∀id∈(fp k).2,x.i.cls=2):=by
  intro k hk;obtain⟨hT,_,_⟩:=hsq k xs[k] (q9 (by omega));rcases hT with⟨t,Z0,b,_,_,_,_,h5,h6⟩ | ⟨_,l1,l2,l3,l4,l5,_⟩
  ·refine⟨by simp only[base,h5];exact Nat.le_refl _,by simp[h6],by simp[h6],λid _ _=>by rw[h5],λx _=>by simp[h6]⟩
  ·refine⟨l1,λid hid=>(l2 id hid).1,l3,l4,λx hx=>?_⟩;rw[q9 (by omega)]at hx
   obtain rfl:=Option.some.inj hx;exact l5
 have hmono:∀i k,i<=k->k<=nn->base i<=base k:=by
  intro i k hik
  induction k with
  | zero=>intro _;have:i=0:=by omega
          subst this;exact Nat.le_refl _
  | succ k ih =>
    intro hkn;by_cases h:i=k+1
    ·subst h;exact Nat.le_refl _
    ·exact Nat.le_trans (ih (by omega) (by omega)) (hstep k (by omega)).1
 let L:=base nn
 let val:Nat->Nat->O:=λk id=>((sq k).h[id]?).getD .dead
 let made:Nat->Nat->Bool:=λk id=>decide (base k<=id) && decide (id<base (k+1))
 let wr:Nat->Nat->Bool:=λk id=>(fp k).2.contains id || made k id
 have hmade:∀k id,made k id=true↔base k<=id/\id<base (k+1):=λk id=>by simp[made]
 have hmade1:∀k k' id,k<nn->k'<nn->made k id=true->made k' id=true->k=k':=by
  intro k k' id hk hk' h1 h2;rw[hmade]at h1 h2
  rcases Nat.lt_trichotomy k k' with h | h | h
  ·have:=hmono (k+1) k' h (by omega);omega
  ·exact h
  ·have:=hmono (k'+1) k h (by omega);omega
 let D:Nat->Option Nat:=λk=>(xs[k]?).bind (·.d)
 let wrE:Nat->Nat->Bool:=λt k=>D k == some t
 let stE:(Nat->Bool)->Nat->Nat->V:=λS k t=>match Zw (λi=>S i && wrE t i) k with | some i=>rv i | none=>get t σ.env
 let hS:(Nat->Bool)->Nat->O:=λS id=>match Zw (λk=>S k && wr k id) nn with | some k=>val (k+1) id | none=>val 0 id
 let H:(Nat->Bool)->List O:=λS=>(List.range L).map (hS S)
 have hHlen:∀S,(H S).length=L:=λS=>by simp[H]
 have hHget:∀S id,id<L->(H S)[id]?=some (hS S id):=λS id hlt=>by simp[H,hlt]
 have hvalget:∀k id,id<base k->(sq k).h[id]?=some (val k id):=λk id hlt=>by
  have:id<(sq k).h.length:=hlt;simp[val,this]
 have hseqE:∀k,k<=nn->∀t,get t (sq k).env=stE (λ_=>true) k t:=by
  intro k
  induction k with
  | zero=>intro _ t;simp[stE,Zw,hs0]
  | succ k ih =>
    intro hk t;have hkl:k<xs.length:=by omega
    obtain⟨_,_,henv⟩:=hsq k xs[k] (q9 hkl);have hget:get t (sq (k+1)).env=Q1w (xs[k]).d (rv k) (λt=>get t (sq k).env) t:=by rw[henv];exact congrFun (I3 _ _ _) t
    rw[hget];have hDk:D k=xs[k].d:=by simp[D,hkl]
    simp only[Q1w,stE,Zw,Bool.true_and,wrE,hDk];by_cases hd:xs[k].d=some t
    ·simp[hd]
    ·have:(xs[k].d == some t)=false:=by simpa using hd
     simp only[hd,if_false,this,Bool.false_eq_true];exact ih (by omega) t
 have hseqH:∀k,k<=nn->∀id,val k id=(match Zw (λi=>wr i id) k with | some i=>val (i+1) id | none=>val 0 id):=by
  intro k
  induction k with
  | zero=>intro _ id;simp[Zw]
  | succ k ih =>
    intro hk id;rcases Bool.eq_false_or_eq_true (wr k id) with hw | hw
    ·have e0:Zw (λi=>wr i id) (k+1)=some k:=by simp only[Zw,hw,if_true]
     rw[e0]
    ·have e0:Zw (λi=>wr i id) (k+1)=Zw (λi=>wr i id) k:=by simp only[Zw,hw,Bool.false_eq_true,if_false]
     rw[e0,<- ih (by omega) id];simp only[wr,Bool.or_eq_false_iff]at hw;obtain⟨h1,h2⟩:=hw;obtain⟨hm,_,_,hfr,_⟩:=hstep k (by omega);by_cases hlt:id<base k
     ·simp only[val];rw[hfr id hlt (by simpa using h1)]
     ·have h3:¬ id<base (k+1):=λh=>by
       have:=(hmade k id).2 ⟨by omega,h⟩;rw[this]at h2;simp at h2
      have e1:(sq (k+1)).h[id]?=none:=qk (by simp only[base]at h3;omega);have e2:(sq k).h[id]?=none:=qk (by simp only[base]at hlt;omega);simp only[val,e1,e2]
 -- operations whose footprints meet are ordered
 have hheap:∀i k,i<k->k<nn->((∃id,id∈(fp i).2/\id∈(fp k).1)∨∃id,id∈(fp i).1/\id∈(fp k).2)->((Q16 ops.toList []).getD k 0).testBit i=true:=by
  intro i k hik hk hmeet;have hil:i<xs.length:=by omega
  have hkl:k<xs.length:=by omega
  obtain⟨_,_,_,_,hci⟩:=hstep i (by omega);obtain⟨_,_,_,_,hck⟩:=hstep k hk;obtain⟨ci1,ci2⟩:=hci xs[i] (q9 hil);obtain⟨ck1,ck2⟩:=hck xs[k] (q9 hkl);have hcf:Qel xs[i] xs[k]=true:=by
   rcases hmeet with⟨id,h1,h2⟩ | ⟨id,h1,h2⟩
   ·simp[Qel,ci2 id h1,ck1 id h2]
   ·simp[Qel,ci1 id h1,ck2 id h2]
  cases hb:((Q16 ops.toList []).getD k 0).testBit i with
  | true=>rfl
  | false =>
    exfalso;obtain⟨_,hchk,_⟩:=hsq k xs[k] (q9 hkl);have hps:((psOf ops.toList xs).drop k).headD []=(List.range k).filter λi=>match xs[i]?,xs[k]? with
      | some a,some b=>Qel a b && !((Q16 ops.toList []).getD k 0).testBit i
      | _,_=>false:=by
     rw[List.headD_eq_head?_getD,List.head?_drop];unfold psOf;simp only;split
     ·rename_i hall;have h1:=qj.1 hall _ (qb (show ((List.range xs.length).map λj=>(List.range j).filter λi=>match xs[i]?,xs[j]? with
       | some a,some b=>Qel a b && !((Q16 ops.toList []).getD j 0).testBit i
       | _,_=>false)[k]?=some _ by rw[qp,jo hkl];rfl))
      rw[List.isEmpty_iff]at h1
      simp only[List.getElem?_nil,Option.getD_none];exact h1.symm
     ·rw[qp,jo hkl]
      rfl
    rw[hps]at hchk
    simp only[chk,qj]at hchk;have h3:=hchk i (qu.2 ⟨qz.2 hik,by rw[q9 hil,q9 hkl];simp only[hcf,hb];rfl⟩);have h4:([]++(List.range k).map fp)[i]?=some (fp i):=by simp[hik]
    rw[h4]at h3
    simp only[Qae,Dis,Bool.and_eq_true,qj,Bool.not_eq_true',List.contains_eq_mem,decide_eq_false_iff_not]at h3;rcases hmeet with⟨id,h1,h2⟩ | ⟨id,h1,h2⟩
    ·exact h3.1 id h1 h2
    ·exact h3.2 id h2 h1
 have hlen0:m.length=σ.h.length:=hr.rs.len
 -- the schedule
 have main:∀(f:Nat) (listed:Array Bool) (J':Nat->Prop) (m':List Ent) (a':Act) (w':World),
   listed.size=ops.size->(∀(j:Nat) (o:Oper),ops.toList[j]?=some o->listed.getD j false=true->∀e∈o.after.toList,Region.binds .any e=true->listed.getD e.on false=true) ->
   ((List.range nn).filter λi=>!listed.getD i false).length<=f ->
   RelF N J' m' (stE (λk=>listed.getD k false) nn) (H (λk=>listed.getD k false)) a' w' ->
   (∀id e,m'[id]?=some e->σ.h.length<=id->(∀k,k<nn->listed.getD k false=true->made k id=false)->e.gen=0) ->
   (∀k,k<nn->listed.getD k false=true->∀id∈(fp k).1,σ.h.length<=id->∃k',k'<nn/\listed.getD k' false=true/\made k' id=true) ->
   Ev n J m w J' m' w'->wpAny P .any ops Q f listed a' w':=by
  have hdone:∀(listed:Array Bool) (J':Nat->Prop) (m':List Ent) (a':Act) (w':World),(∀k,k<nn->listed.getD k false=true) ->
    RelF N J' m' (stE (λk=>listed.getD k false) nn) (H (λk=>listed.getD k false)) a' w'->Ev n J m w J' m' w'->Q .normal a' w':=by
   intro listed J' m' a' w' hall hrel hev;have e1:stE (λk=>listed.getD k false) nn=λt=>get t (sq nn).env:=by
    funext t;rw[hseqE _ (Nat.le_refl _)];simp only[stE];rw[Yq (q':=λi=>true && wrE t i) (λk hk=>by rw[hall k hk])]
   have e2:H (λk=>listed.getD k false)=(sq nn).h:=by
    apply qy;intro id;by_cases hlt:id<L
    ·rw[hHget _ _ hlt,hvalget nn id hlt,hseqH nn (Nat.le_refl _) id];simp only[hS];rw[Yq (q':=λi=>wr i id) (λk hk=>by rw[hall k hk];simp)]
    ·rw[qk (by rw[hHlen];omega),qk (by have:L=(sq nn).h.length:=rfl;omega)]
   rw[e1,e2]at hrel
   exact hQ _ J' m' a' w' hκ hrel hev
  have hreadynil:∀(listed:Array Bool),listed.size=ops.size->Region.ready .any ops listed=[]->∀k,k<nn->listed.getD k false=true:=by
   intro listed hlsz hnil;intro k
   induction k using Nat.strongRecOn with
   | _ k ih =>
     intro hk;cases hb:listed.getD k false with
     | true=>rfl
     | false =>
       exfalso;have hko:k<ops.size:=by omega
       have hmem:k∈Region.ready .any ops listed:=by
        rw[mem_ready];have hkl:k<listed.size:=by omega
        refine⟨by rw[Q2m hkl]at hb ⊢;exact hb,ops[k],Array.getElem?_eq_getElem hko,λe he hbd=>?_⟩;have h1:=hedge k (by simpa using hko);rw[show ops.toList[k]?=some ops[k] by simp[hko]]at h1
        have h2:=qj.1 h1 e (Array.mem_toList_iff.2 he);simp only[hbd,Bool.not_true,Bool.false_or,decide_eq_true_eq]at h2;exact ih e.on h2 (by omega)
       rw[hnil]at hmem
       simp at hmem
  intro f
  induction f with
  | zero =>
    intro listed J' m' a' w' hlsz hcl hcnt hrel _ _ hev;have hall:∀k,k<nn->listed.getD k false=true:=by
     intro k hk;cases hb:listed.getD k false with
     | true=>rfl
     | false =>
       exfalso;have:k∈(List.range nn).filter λi=>!listed.getD i false:=qu.2 ⟨qz.2 hk,by rw[hb];rfl⟩
       have:=List.length_pos_of_mem this;omega
    refine⟨?_,hdone listed J' m' a' w' hall hrel hev⟩;apply List.eq_nil_iff_forall_not_mem.2;intro k hmem;rw[mem_ready]at hmem
    obtain⟨h1,o,h2,_⟩:=hmem;have hkl:k<ops.size:=(je.1 h2).1;have:=hall k (by omega);have hkl':k<listed.size:=by omega
    rw[Q2m hkl']at h1 this
    rw[this]at h1;simp at h1
  | succ f ih =>
    intro listed J' m' a' w' hlsz hcl hcnt hrel hhole hcr hev;refine⟨λhnil=>hdone listed J' m' a' w' (hreadynil listed hlsz hnil) hrel hev,λj hj=>?_⟩;have hj':=hj;rw[mem_ready]at hj
    obtain⟨hjn,o,ho,hdeps⟩:=hj;have hjo:j<ops.size:=(je.1 ho).1;have hjx:j<xs.length:=by omega
    have hjN:j<nn:=by omega
    have hjl:j<listed.size:=by omega
    have hnl:listed.getD j false=false:=by rw[Q2m hjl]at hjn ⊢;exact hjn
    have hoL:ops.toList[j]?=some o:=by simpa using ho
    obtain⟨imm,hx⟩:=hk j o xs[j] hoL (q9 hjx);obtain⟨hdo,_,_⟩:=hsq j xs[j] (q9 hjx);have hm'len:m'.length=L:=by rw[hrel.rs.len,hHlen]
    have hjL:base (j+1)<=L:=hmono (j+1) nn (by omega) (Nat.le_refl _);obtain⟨hbj,hTj,hWTj,_,_⟩:=hstep j hjN
    -- all that must come before is listed
    have hbef:∀i,((Q16 ops.toList []).getD j 0).testBit i=true->listed.getD i false=true:=by
     intro i hb;refine Q5d hB (S:=λk=>listed.getD k false=true) hcl j (λo' ho' e he hbd=>?_) i (by omega) hb;obtain rfl:=Option.some.inj (hoL.symm.trans ho');exact hdeps e (Array.mem_toList_iff.1 he) hbd
    have haft:∀k,k<nn->listed.getD k false=true->((Q16 ops.toList []).getD k 0).testBit j=true->False:=by
     intro k hk hlk hb;have h2:=Q5d hB (S:=λk=>listed.getD k false=true) hcl k (λo' ho' e he hbd=>hcl k o' ho' hlk e he hbd) j (by omega) hb;rw[hnl]at h2;simp at h2
    have hafter:∀k,(hk:k<xs.length)->j<k->listed.getD k false=true->Q2s xs[j] (xs[k]'hk)=false:=by
     intro k hk hjk hlk;cases hc:Q2s xs[j] (xs[k]'hk) with
     | false=>rfl
     | true =>
       exfalso;have h1:=hconf k (by omega) j hjk;rw[q9 hjx,q9 hk]at h1
       simp only[hc,Bool.not_true,Bool.false_or]at h1;exact haft k (by omega) hlk h1
    have hbefore:∀i,(hi:i<j)->Q2s (xs[i]'(by omega)) xs[j]=true->listed.getD i false=true:=by
     intro i hi hc;have h1:=hconf j hjN i hi;rw[q9 (show i<xs.length by omega),q9 hjx]at h1
     simp only[hc,Bool.not_true,Bool.false_or]at h1;exact hbef i h1
    have hagree:∀(p:Nat->Bool),(∀i,(hi:i<xs.length)->p i=true->i<j->Q2s (xs[i]'hi) xs[j]=true)->(∀i,(hi:i<xs.length)->p i=true->j<i->Q2s xs[j] (xs[i]'hi)=true) ->
      Zw (λi=>listed.getD i false && p i) nn=Zw (λi=>true && p i) j:=by
     intro p h1 h2;rw[Jq (j:=j) (by omega) (λk hk1 hk2=>?_)]
     ·refine Yq λk hk=>?_
      cases hp:p k with
      | false=>simp
      | true =>
        have hc:=h1 k (by omega) hp hk;simp[hbefore k hk hc]
     ·cases hp:p k with
      | false=>simp
      | true =>
        by_cases hkj:k=j
        ·subst hkj;simp[hnl]
        ·have hc:=h2 k (by omega) hp (by omega);cases hlk:listed.getD k false with
         | false=>rfl
         | true =>
           have:=hafter k (by omega) (by omega) hlk;rw[hc]at this;simp at this
    have hE:∀t∈xs[j].uses,get t (sq j).env=stE (λk=>listed.getD k false) nn t:=by
     intro t ht;rw[hseqE j (by omega)];simp only[stE];rw[hagree (wrE t)]
     ·intro i hi hp hij;simp only[wrE,D,q9 hi,Option.bind_some,beq_iff_eq]at hp;simp[Q2s,hp,ht]
     ·intro i hi hp hij;simp only[wrE,D,q9 hi,Option.bind_some,beq_iff_eq]at hp;simp[Q2s,hp,ht]
    have hEev:∀x∈xs[j].i.opnds,evF (stE (λk=>listed.getD k false) nn) x=evF (λt=>get t (sq j).env) x:=by
     intro x hx';cases x with
     | c v=>rfl
     | t t =>
       have:t∈xs[j].uses:=by
        simp only[Ins.uses,qg];exact .inr (jr.2 ⟨.t t,hx',by simp[A.tmps]⟩)
       exact(hE t this).symm
    -- the new set
    have hS':∀k,(listed.setIfInBounds j true).getD k false=(listed.getD k false || k == j):=by
     intro k;by_cases hkj:j=k
     ·subst hkj;rw[Q2m (by simpa using hjl)];simp
     ·rw[getD_set_ne false hkj];have:(k == j)=false:=by simp;omega
      rw[this,Bool.or_false]
    have hnewE:Q1w xs[j].d (rv j) (stE (λk=>listed.getD k false) nn)=stE (λk=>(listed.setIfInBounds j true).getD k false) nn:=by
     funext t;simp only[Q1w,stE,hS'];by_cases hd:xs[j].d=some t
     ·rw[if_pos hd];rw[Qaq (i:=j) (by simp[wrE,D,q9 hjx,hd]) hjN (λk hk1 hk2=>?_)];have hkj:(k == j)=false:=by simp;omega
      rw[hkj,Bool.or_false];cases hlk:listed.getD k false with
      | false=>rfl
      | true =>
        have hk2':k<xs.length:=by omega
        have hc:=hafter k hk2' hk1 hlk;simp only[Q2s,hd,Bool.or_eq_false_iff]at hc;have hne:((xs[k]'hk2').d == some t)=false:=hc.1.2;simp only[wrE,D,q9 hk2',Option.bind_some,Bool.true_and];exact hne
     ·rw[if_neg hd];have hcg:Zw (λi=>(listed.getD i false || i == j) && wrE t i) nn=Zw (λi=>listed.getD i false && wrE t i) nn:=Yq λk hk=>by
       by_cases hkj:k=j
       ·subst hkj;have hw0:wrE t k=false:=by simp only[wrE,D,q9 hjx,Option.bind_some];simpa using hd
        rw[hw0,Bool.and_false,Bool.and_false]
       ·have hb0:(k == j)=false:=by simpa using hkj
        rw[hb0,Bool.or_false]
      rw[hcg]
    -- objects that are not this operation's stay
    have hsame:∀id,wr j id=false->hS (λk=>(listed.setIfInBounds j true).getD k false) id=hS (λk=>listed.getD k false) id:=by
     intro id hw0;simp only[hS,hS'];have hcg:Zw (λi=>(listed.getD i false || i == j) && wr i id) nn=Zw (λi=>listed.getD i false && wr i id) nn:=Yq λk hk=>by
      by_cases hkj:k=j
      ·subst hkj;rw[hw0,Bool.and_false,Bool.and_false]
      ·have hb0:(k == j)=false:=by simpa using hkj
       rw[hb0,Bool.or_false]
     rw[hcg]
    have hlater:∀k,j<k->k<nn->listed.getD k false=true->∀id∈(fp j).1,wr k id=false:=by
     intro k hjk hk hlk id hid;cases hw1:wr k id with
     | false=>rfl
     | true =>
       exfalso;simp only[wr,Bool.or_eq_true,List.contains_eq_mem,decide_eq_true_eq]at hw1;rcases hw1 with h1 | h1
       ·exact haft k hk hlk (hheap j k hjk hk (.inr ⟨id,hid,h1⟩))
       ·have h2:=hTj id hid;have h3:=hmono j k (by omega) (by omega);rw[hmade]at h1
        omega
    have hnewW:∀id,(id∈(fp j).2∨made j id=true)->hS (λk=>(listed.setIfInBounds j true).getD k false) id=val (j+1) id:=by
     intro id hid;simp only[hS,hS'];rw[Qaq (i:=j) ?_ hjN (λk hk1 hk2=>?_)]
     ·have hwj:wr j id=true:=by
       simp only[wr,Bool.or_eq_true,List.contains_eq_mem,decide_eq_true_eq];exact hid
      simp[hwj]
     ·have hkj:(k == j)=false:=by simp;omega
      rw[hkj,Bool.or_false];cases hlk:listed.getD k false with
      | false=>rfl
      | true =>
        rw[Bool.true_and];rcases hid with hid | hid
        ·exact hlater k hk1 hk2 hlk id (hWTj id hid)
        ·cases hw1:wr k id with
         | false=>rfl
         | true =>
           exfalso;simp only[wr,Bool.or_eq_true,List.contains_eq_mem,decide_eq_true_eq]at hw1;rcases hw1 with h1 | h1
           ·have h2:=(hstep k hk2).2.2.1 id h1;have h3:=(hmade j id).1 hid;have h4:=hmono 0 j (by omega) (by omega);obtain⟨k',hk',hl',hm'⟩:=hcr k hk2 hlk id h2 (by omega);have:=hmade1 k' j id hk' hjN hm' hid;subst this;rw[hnl]at hl';simp at hl'
           ·have:=hmade1 k j id hk2 hjN h1 hid;omega
    have hholeS:∀id,σ.h.length<=id->id<L->(∀k,k<nn->(listed.setIfInBounds j true).getD k false=true->made k id=false)->∃e,m'[id]?=some e/\e.gen=0:=by
     intro id h1 h2 h3;refine⟨m'[id]'(by omega),q9 (by omega),hhole id _ (q9 (by omega)) h1 λk hk hlk=>h3 k hk (by rw[hS',hlk];rfl)⟩
    have hcl':∀(k:Nat) (o':Oper),ops.toList[k]?=some o'->(listed.setIfInBounds j true).getD k false=true->∀e∈o'.after.toList,Region.binds .any e=true->(listed.setIfInBounds j true).getD e.on false=true:=by
     intro k o' ho' hlk e he hbd;rw[hS']at hlk ⊢
     by_cases hkj:k=j
     ·subst hkj;obtain rfl:=Option.some.inj (hoL.symm.trans ho');rw[hdeps e (Array.mem_toList_iff.1 he) hbd];rfl
     ·have hb:(k == j)=false:=by simpa using hkj
      rw[hb,Bool.or_false]at hlk
      rw[hcl k o' ho' hlk e he hbd];rfl
    have hcnt':((List.range nn).filter λi=>!(listed.setIfInBounds j true).getD i false).length<=f:=by
     have hlt:((List.range nn).filter λi=>!(listed.setIfInBounds j true).getD i false).length<((List.range nn).filter λi=>!listed.getD i false).length:=by
      have e1:((List.range nn).filter λi=>!(listed.setIfInBounds j true).getD i false)=((List.range nn).filter λi=>!listed.getD i false).filter λi=>!(i == j):=by
       rw[List.filter_filter];congr 1;funext i;rw[hS'];cases listed.getD i false<;>cases (i == j)<;>rfl
      rw[e1];have hmem:j∈(List.range nn).filter λi=>!listed.getD i false:=qu.2 ⟨qz.2 hjN,by rw[hnl];rfl⟩
      rcases Nat.lt_or_ge (((List.range nn).filter λi=>!listed.getD i false).filter λi=>!(i == j)).length ((List.range nn).filter λi=>!listed.getD i false).length with h | h
      ·exact h
      ·exfalso;have h1:=jc (λi=>!(i == j)) ((List.range nn).filter λi=>!listed.getD i false);have h2:(((List.range nn).filter λi=>!listed.getD i false).filter λi=>!(i == j)).length=((List.range nn).filter λi=>!listed.getD i false).length:=by omega
       rw[List.length_filter_eq_length_iff]at h2
       have:=h2 j hmem;simp at this
     omega
    rcases hdo with⟨t,Z0,b,hg,hb,hbw,hrv,hh,hfp⟩ | ⟨hg,l1,l2,l3,l4,l5,l6⟩
    ·-- not wanted
     have hbase:base (j+1)=base j:=by simp only[base,hh]
     have hw0:∀id,wr j id=false:=by
      intro id;have:made j id=false:=by
       cases hm:made j id with
       | false=>rfl
       | true=>rw[hmade]at hm;omega
      simp[wr,hfp,this]
     have hHH:H (λk=>(listed.setIfInBounds j true).getD k false)=H (λk=>listed.getD k false):=by
      simp only[H];exact jv λid _=>hsame id (hw0 id)
     have htu:t∈xs[j].uses:=by simp[Ins.uses,hg]
     refine Quh hx hrel hg (by rw[<- hE t htu];exact hb) hbw ho λa'' hr''=>?_
     rw[<- hrv,hnewE,<- hHH]at hr''
     refine ih (listed.setIfInBounds j true) J' m' a'' w' (by simpa using hlsz) hcl' hcnt' hr'' (λid e he h1 h2=>?_) (λk hk hlk id hid h1=>?_) hev
     ·have hlt:id<L:=by rw[<- hm'len];exact(q8.1 he).1
      obtain⟨e',h3,h4⟩:=hholeS id h1 hlt h2;obtain rfl:=Option.some.inj (he.symm.trans h3);exact h4
     ·rw[hS']at hlk
      by_cases hkj:k=j
      ·subst hkj;rw[hfp]at hid;simp at hid
      ·have hb0:(k == j)=false:=by simpa using hkj
       rw[hb0,Bool.or_false]at hlk
       obtain⟨k',h3,h4,h5⟩:=hcr k hk hlk id hid h1;exact⟨k',h3,by rw[hS',h4];rfl,h5⟩
    ·-- wanted: who made what it looks at is listed
     have hwho:∀id∈(fp j).1,σ.h.length<=id->∃k',k'<nn/\listed.getD k' false=true/\made k' id=true:=by
      intro id hid hge;obtain⟨_,h1⟩:=l2 id hid;rcases h1 with h1 | ⟨x,hx1,hx2⟩
      ·omega
      ·have hgen:∃e,m'[id]?=some e/\1<=e.gen:=by
        rw[<- hEev x hx1]at hx2
        cases x with
        | c v =>
          have h3:=hcok xs[j] (List.getElem_mem hjx) (.c v) hx1;simp only[A.cok,List.isEmpty_iff]at h3;simp only[evF]at hx2;rw[h3]at hx2;simp at hx2
        | t t=>exact Qk4 (hrel.tmps t) hx2
       obtain⟨e,h3,h4⟩:=hgen;rcases Classical.em (∃k',k'<nn/\listed.getD k' false=true/\made k' id=true) with h5 | h5
       ·exact h5
       ·exfalso;have:=hhole id e h3 hge λk hk hlk=>by
         cases hm:made k id with
         | false=>rfl
         | true=>exact absurd ⟨k,hk,hlk,hm⟩ h5
        omega
     have hag:∀id∈(fp j).1,(H (λk=>listed.getD k false))[id]?=(sq j).h[id]?:=by
      intro id hid;have hlt:=hTj id hid;rw[hHget _ _ (by omega),hvalget j id hlt,hseqH j (by omega) id];simp only[hS];have hcg:Zw (λk=>listed.getD k false && wr k id) nn=Zw (λi=>wr i id) j:=by
       rw[Jq (j:=j) (by omega) (λk hk1 hk2=>?_)]
       ·refine Yq λk hk=>?_
        cases hw1:wr k id with
        | false=>simp
        | true =>
          have hlk:listed.getD k false=true:=by
           simp only[wr,Bool.or_eq_true,List.contains_eq_mem,decide_eq_true_eq]at hw1;rcases hw1 with h1 | h1
           ·exact hbef k (hheap k j hk hjN (.inl ⟨id,h1,hid⟩))
           ·have h2:=(hmade k id).1 h1;have h3:=hmono 0 k (by omega) (by omega);obtain⟨k',h4,h5,h6⟩:=hwho id hid (by omega);have:=hmade1 k k' id (by omega) h4 h1 h6;subst this;exact h5
          rw[hlk];rfl
       ·by_cases hkj:k=j
        ·subst hkj;simp[hnl]
        ·cases hlk:listed.getD k false with
         | false=>rfl
         | true=>rw[hlater k (by omega) hk2 hlk id hid];rfl
      rw[hcg]
     have hg':xs[j].g=none∨∃t Z0,xs[j].g=some (t,Z0)/\stE (λk=>listed.getD k false) nn t=.b Z0:=by
      rcases hg with hg | ⟨t,Z0,hg,hb⟩
      ·exact .inl hg
      ·have htu:t∈xs[j].uses:=by simp[Ins.uses,hg]
       exact .inr ⟨t,Z0,hg,by rw[<- hE t htu];exact hb⟩
     obtain⟨r2,hkk,hins,halt⟩:=l6 (stE (λk=>listed.getD k false) nn) hEev (H (λk=>listed.getD k false)) (by rw[hHlen];exact hmono j nn (by omega) (Nat.le_refl _)) hag;refine tdo_op hx hrel hg' hins ho λJ'' m'' a'' w'' hr'' hev'' hml=>?_
     have hcr':∀k,k<nn->(listed.setIfInBounds j true).getD k false=true->∀id∈(fp k).1,σ.h.length<=id->∃k',k'<nn/\(listed.setIfInBounds j true).getD k' false=true/\made k' id=true:=by
      intro k hk hlk id hid h1;rw[hS']at hlk
      have h3:∃k',k'<nn/\listed.getD k' false=true/\made k' id=true:=by
       by_cases hkj:k=j
       ·subst hkj;exact hwho id hid h1
       ·have hb0:(k == j)=false:=by simpa using hkj
        rw[hb0,Bool.or_false]at hlk
        exact hcr k hk hlk id hid h1
      obtain⟨k',h4,h5,h6⟩:=h3;exact⟨k',h4,by rw[hS',h5];rfl,h6⟩
     rcases halt with⟨rfl,rfl,hlen⟩ | ⟨hW0,hrmv,hkmv⟩
     ·-- in place
      rw[hnewE]at hr''
      have hbase:base (j+1)=base j:=hlen;have hHH:Q5p (H (λk=>listed.getD k false)) (fp j).2 (sq (j+1)).h++[]=H (λk=>(listed.setIfInBounds j true).getD k false):=by
       rw[List.append_nil];apply qy;intro id;by_cases hlt:id<L
       ·rw[Q8d (by rw[hHlen];exact hlt),hHget _ _ hlt,hHget _ _ hlt];by_cases hid:id∈(fp j).2
        ·rw[if_pos hid,hnewW id (.inl hid)]
        ·rw[if_neg hid,Option.getD_some];have hw0:wr j id=false:=by
          have:made j id=false:=by
           cases hm:made j id with
           | false=>rfl
           | true=>rw[hmade]at hm;omega
          simp[wr,hid,this]
         rw[hsame id hw0]
       ·rw[qk (by rw[Q8c,hHlen];omega),qk (by rw[hHlen];omega)]
      rw[hHH]at hr''
      refine ih (listed.setIfInBounds j true) J'' m'' a'' w'' (by simpa using hlsz) hcl' hcnt' hr'' (λid e he h1 h2=>?_) hcr' (hev.trans (hev'' n));have hlt:id<L:=by rw[<- hHlen (λk=>(listed.setIfInBounds j true).getD k false),<- hr''.rs.len];exact(q8.1 he).1
      obtain⟨e0,h3,h4⟩:=hholeS id h1 hlt h2;obtain⟨e',h5,_,h6⟩:=hml id e0 h3;obtain rfl:=Option.some.inj (he.symm.trans h5);rw[h6 (.inr h4)];exact h4
     ·-- new objects
      have hkl:hkk.length=base (j+1)-base j:=by
       have:=congrArg List.length hkmv;simpa[base]using this
      have hupd:Q5p (H (λk=>listed.getD k false)) (fp j).2 (sq (j+1)).h=H (λk=>listed.getD k false):=by rw[hW0,Ef]
      rw[hupd]at hr''
      have hm''len:m''.length=L+hkk.length:=by rw[hr''.rs.len,j7,hHlen]
      obtain⟨mA,mk,hmm,hmA,hmk⟩:∃mA mk,m''=mA++mk/\mA.length=L/\mk.length=hkk.length :=
       ⟨m''.take L,m''.drop L,(List.take_append_drop L m'').symm,by simp;omega,by simp;omega⟩
      subst hmm;have hpl:base j+mk.length<=mA.length:=by omega
      have hslot:∀id,base j<=id->id<base j+mk.length->made j id=true:=λid h1 h2=>(hmade j id).2 ⟨h1,by omega⟩
      have hgap:∀id e,base j<=id->id<base j+mk.length->mA[id]?=some e->e.gen=0:=by
       intro id e h1 h2 he;have hmj:=hslot id h1 h2;have h4:=hmono 0 j (by omega) (by omega);have h5:(m'[id]'(by omega)).gen=0:=hhole id _ (q9 (by omega)) (by omega) λk hk hlk=>by
        cases hm:made k id with
        | false=>rfl
        | true =>
          have:=hmade1 k j id hk hjN hm hmj;subst this;rw[hnl]at hlk;simp at hlk
       obtain⟨e',h6,_,h7⟩:=hml id _ (q9 (show id<m'.length by omega));rw[qd (by omega),he]at h6
       obtain rfl:=Option.some.inj h6;rw[h7 (.inr h5)];exact h5
      have hrsP:=RS.put hpl hgap hr''.rs (by rw[hHlen,hmA]) hmk.symm;have hHclo:(H (λk=>listed.getD k false)).map (O.mv mA.length (base j))=H (λk=>listed.getD k false):=by
       refine Qrq λi x hx=>?_
       have hlt:=(q8.1 hx).1;rw[hHlen]at hlt
       have:=RO_clo (hrel.rs.obj i _ x (q9 (show i<m'.length by omega)) hx) (base j);rw[hm'len,<- hmA]at this
       exact this
      have hnewH:Xi ((H (λk=>listed.getD k false)).map (O.mv mA.length (base j))) (hkk.map (O.mv mA.length (base j))) (base j)=H (λk=>(listed.setIfInBounds j true).getD k false):=by
       have e1:hkk.map (O.mv mA.length (base j))=(sq (j+1)).h.drop (base j):=by rw[hmA,<- hkmv,hHlen]
       rw[hHclo,e1];have e2:((sq (j+1)).h.drop (base j)).length=hkk.length:=by rw[<- e1,List.length_map]
       apply qy;intro id;by_cases hlt:id<L
       ·rw[hHget _ _ hlt];by_cases hin:base j<=id/\id<base (j+1)
        ·have h1:=Ip (l:=H (λk=>listed.getD k false)) (xs:=(sq (j+1)).h.drop (base j)) (s:=base j) (i:=id-base j) (by rw[hHlen,e2];omega) (by rw[e2];omega);rw[show base j+(id-base j)=id by omega]at h1
         rw[h1,jh,show base j+(id-base j)=id by omega,hvalget (j+1) id hin.2,hnewW id (.inr ((hmade j id).2 hin))]
        ·rw[Km (by rw[hHlen,e2];omega) (by rw[e2];omega),hHget _ _ hlt,hsame id ?_];have:made j id=false:=by
          cases hm:made j id with
          | false=>rfl
          | true=>rw[hmade]at hm;exact absurd hm hin
         simp[wr,hW0,this]
       ·rw[qk (by rw[J7 (by rw[hHlen,e2];omega),hHlen];omega),qk (by rw[hHlen];omega)]
      rw[hnewH]at hrsP
      have hrF:RelF N J'' (Xi mA mk (base j)) (stE (λk=>(listed.setIfInBounds j true).getD k false) nn) (H (λk=>(listed.setIfInBounds j true).getD k false)) a'' w'':=by
       refine⟨λt=>?_,hrsP,hr''.defers,hr''.size⟩;have h1:=RV.mv hpl hgap (hr''.tmps t);rw[<- hnewE];simp only[Q1w]at h1 ⊢;by_cases hd:xs[j].d=some t
       ·rw[if_pos hd]at h1 ⊢
        rw[<- hrmv,hHlen,<- hmA];exact h1
       ·rw[if_neg hd]at h1 ⊢
        have h2:=RV_clo (hrel.tmps t) (base j);rw[hm'len,<- hmA]at h2
        rw[h2]at h1
        exact h1
      have hevP:Ev n J m w J'' (Xi mA mk (base j)) w'':=Ev.put hpl (by rw[hlen0,<- hb0];exact hmono 0 j (by omega) (by omega)) (hev.trans (hev'' n));refine ih (listed.setIfInBounds j true) J'' _ a'' w'' (by simpa using hlsz) hcl' hcnt' hrF (λid e he h1 h2=>?_) hcr' hevP;have hlt:id<L:=by
       have:=(q8.1 he).1;rw[J7 hpl]at this;omega
      have hnj:made j id=false:=h2 j hjN (by rw[hS'];simp);have hout:id<base j∨base j+mk.length<=id:=by
       rcases Nat.lt_or_ge id (base j) with h | h
       ·exact .inl h
       ·right
        rcases Nat.lt_or_ge id (base (j+1)) with h5 | h5
        ·rw[(hmade j id).2 ⟨h,h5⟩]at hnj;simp at hnj
        ·omega
      rw[Km hpl hout]at he
      obtain⟨e0,h3,h4⟩:=hholeS id h1 hlt h2;obtain⟨e',h5,_,h6⟩:=hml id e0 h3;rw[qd (by omega),he]at h5
      obtain rfl:=Option.some.inj h5;rw[h6 (.inr h4)];exact h4
 have hrep:∀k,(Array.replicate ops.size false).getD k false=false:=λk=>by
  rcases Nat.lt_or_ge k ops.size with h | h
  ·simp[Array.getD,h]
  ·simp[Array.getD,h]
 have hLge:σ.h.length<=L:=by rw[<- hb0];exact hmono 0 nn (by omega) (Nat.le_refl _)
 have hEm:stE (λk=>(Array.replicate ops.size false).getD k false) nn=λt=>get t σ.env:=by
  funext t;simp only[stE,hrep,Bool.false_and];rw[Jq (j:=0) (by omega) (λ_ _ _=>rfl)]
  rfl
 have hHm:H (λk=>(Array.replicate ops.size false).getD k false)=σ.h++List.replicate (L-σ.h.length) .dead:=by
  apply qy;intro id;by_cases hlt:id<L
  ·rw[hHget _ _ hlt];simp only[hS,hrep,Bool.false_and];rw[Jq (j:=0) (by omega) (λ_ _ _=>rfl)];simp only[Zw,val,hs0];by_cases h0:id<σ.h.length
   ·rw[qd h0];simp[h0]
   ·rw[qf (by omega),jk,if_pos (by omega),qk (by omega)];rfl
  ·rw[qk (by rw[hHlen];omega),qk (by simp;omega)]
 have hpad:=hr.rs.pad (L-σ.h.length);refine main ops.size (Array.replicate ops.size false) J (m++List.replicate (L-σ.h.length) ⟨0,0,none,0,0⟩) a w (by simp) (λj o _ hlj=>by rw[hrep]at hlj;simp at hlj) ?_ ?_ (λid e he h1 _=>?_) (λk _ hlk=>by rw[hrep]at hlk;simp at hlk) ((Ev.refl n J m w).pad _)
 ·refine Nat.le_trans (jc _ _) ?_;simp;omega
 ·rw[hEm,hHm];exact⟨λt=>RV.mono (λ_ h=>h) (λ_ _=>rfl) (Ml.app m _) (hr.tmps t),hpad,hr.defers,hr.size⟩
 ·rw[qf (by omega),jk]at he
  split at he
  ·simp at he;subst he;rfl
  ·simp at he
end
end Go.Abs
