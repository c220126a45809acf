/- Part of the library on which the proof stands: an abstract machine, its values and its soundness against the model; or what functions of the program do to such values. -/
import Derived.Test.YtnaehggpjfdenaaGreatAbsM
set_option linter.unusedVariables false
set_option linter.unusedSimpArgs false
namespace Go.Abs
open Go.RowKit
theorem Be {P:Program} {f:FuncId} (hc:Qv P f=true) (args:Array Value) (w:World):(callFunc f args).run P w=.ok (.enter f args) w:=by
 unfold Qv at hc
 split at hc
 ·rename_i fn hf
  simp only[Bool.and_eq_true,Bool.not_eq_true',beq_eq_false_iff_ne,ne_eq]at hc
  obtain⟨b,hb⟩:=Option.isSome_iff_exists.1 hc.1
  simp[callFunc,hf,hc.2,hb]
 ·simp at hc
def immOk (ops:Array Oper) (t:Nat):Bool :=
 let names (o:Oper):Bool:=o.op.operands.any fun | .tmp u=>u == t | _=>false
 ops.any names && ops.all λo=>!names o || (match o.op with
  | .convert _ _ _=>true
  | .call c=>(match c.callee,c.args.toList with
    | .builtin .append,[s,_]=>(match s with | .tmp u=>!(u == t) | _=>true)
    | .value _,_=>true
    | _,_=>false)
  | _=>false)
def Qfj (P:Program) (o:Oper):Option I :=
 match o.op with
 | .call c=>match c.callee with
   | .value (.func g)=>if Qv P g then some (.call g (c.args.toList.map cvA)) else none
   | .value (.tmp t)=>some (.callv (.t t) (c.args.toList.map cvA))
   | _=>none
 | .next it false=>some (.mnx (cvA it))
 | _=>none
def okd (d:Option Nat) (N:Nat):Bool:=match d with
 | some d=>decide (d<N)
 | none=>true
def Q4a (ops:Array Oper):Option (Nat × Bool)->Option (Option (Nat × Bool))
 | none=>some none
 | some (j,Z0)=>((ops[j]?).bind (·.dst)).map λt=>some (t,Z0)
def I.isCall:I->Bool
 | .call _ _ | .callv _ _ | .mnx _=>true
 | _=>false
def Qss (P:Program) (imm:Bool) (o:Oper):Option I:=match Qfj P o with
 | some i=>some i
 | none=>(Q9r P imm o).bind λi=>if i.isCall then none else some i
def Xn (P:Program) (N:Nat) (ops:Array Oper) (imm:Bool) (o:Oper):Option Ins :=
 (Qss P imm o).bind λi=>if okd o.dst N=true then (Q4a ops o.guard).map λg=>⟨o.dst,g,i⟩ else none
theorem Yn {P:Program} {N:Nat} {ops:Array Oper} {imm:Bool} {o:Oper} {x:Ins} (h:Xn P N ops imm o=some x) :
  Qss P imm o=some x.i/\(∀t,o.dst=some t->t<N)/\x.d=o.dst/\Q4a ops o.guard=some x.g:=by
 simp only[Xn,qr,ja,qa]at h
 obtain⟨i,hi,hd,g,hg,rfl⟩:=h
 refine⟨hi,λt ht=>?_,rfl,hg⟩
 simp only[okd,ht,decide_eq_true_eq]at hd
 exact hd
def Qce (P:Program) (N:Nat) (ops:Array Oper):Option (List Ins) :=
 ops.toList.mapM λo=>Xn P N ops (match o.dst with | some t=>immOk ops t | none=>false) o
section
variable {P:Program}
structure RelF (N:Nat) (J:Nat->Prop) (m:List Ent) (E:Nat->V) (h:List O) (a:Act) (w:World):Prop where
 tmps:∀t,RV J m w (E t) (a.tmps.getD t undef)
 rs:RS J h m w
 defers:a.defers=[]
 size:a.tmps.size=N
def evF (E:Nat->V):A->V
 | .t n=>E n
 | .c v=>v
theorem X3 (env:List (Nat × V)):evF (λt=>get t env)=A.ev env:=by
 funext x;cases x<;>rfl
theorem RelF.ev {N:Nat} {J:Nat->Prop} {m:List Ent} {E:Nat->V} {h:List O} {a:Act} {w:World} (hr:RelF N J m E h a w) (x:Operand):RV J m w (evF E (cvA x)) (a.eval x):=by
 cases x with
 | tmp t=>exact hr.tmps t
 | const v=>exact Z2 (cvV_ok v)
 | global g=>exact trivial
 | func f=>exact⟨#[],rfl,Pw.nil⟩
def Bi (d:Option Nat) (v:V) (E:Nat->V):Nat->V:=λt=>if d=some t then v else E t
theorem U8 (d:Option Nat) (v:V) (env:List (Nat × V)):(λt=>get t (Q7 d v env))=Bi d v (λt=>get t env):=by
 funext t
 cases d with
 | none=>simp[Q7,Bi]
 | some d =>
   simp only[Q7,Bi,Option.some.injEq]
   split
   ·rename_i h;subst h;exact Q2 _ _ _
   ·rename_i h;exact Q3 _ _ (λh'=>h h'.symm)
theorem RelF.put {N:Nat} {J J':Nat->Prop} {m m':List Ent} {E:Nat->V} {h h':List O} {a:Act} {w w':World} (hr:RelF N J m E h a w) {n:Nat} (hev:Ev n J m w J' m' w') (hml:Ml m m') (hrs:RS J' h' m' w')
  {d:Option Nat} (hd:∀t,d=some t->t<N) {r:V} {v:Value} (hv:RV J' m' w' r v):RelF N J' m' (Bi d r E) h' (a.put d v) w':=by
 have hmono:∀V c,RV J m w V c->RV J' m' w' V c:=λV c hc =>
  RV.mono hev.sub (λk hk=>hev.keep k (hr.rs.jlt k hk) (λid e h1 h2=>(hr.rs.dis id e k h1 h2).1 hk)) hml hc
 refine⟨λt=>?_,hrs,?_,?_⟩
 ·cases d with
  | none=>simp only[Bi,Act.put];exact hmono _ _ (hr.tmps t)
  | some d =>
    simp only[Bi,Act.put,Option.some.injEq]
    have hd':d<a.tmps.size:=by rw[hr.size];exact hd d rfl
    by_cases ht:d=t
    ·subst ht
     rw[if_pos rfl]
     simp[Array.getD,hd']
     exact hv
    ·rw[if_neg ht]
     have:(a.tmps.setIfInBounds d v).getD t undef=a.tmps.getD t undef:=by
      simp[Array.getD_eq_getD_getElem?,Array.getElem?_setIfInBounds,ht]
     rw[this]
     exact hmono _ _ (hr.tmps t)
 ·cases d<;>exact hr.defers
 ·cases d<;>simp[Act.put,hr.size]
def K7 (P:Program) (i:I) (E:Nat->V) (h:List O) (κ:V->List O->Prop):Prop :=
 match i with
 | .call f args=>ACall P f (args.map (evF E)) h κ
 | .callv c args=>match evF E c with
   | .f f caps=>Qv P f=true/\ACall P f (args.map (evF E)++caps) h κ
   | _=>False
 | .isn neg y=>match (evF E y).empt with
   | true=>κ (.b true) h/\κ (.b false) h
   | false=>match Q5 (.isn neg y) (evF E) h with
     | some (r,h')=>κ r h'
     | none=>False
 | .mnx y=>Mnx (evF E y) h κ
 | i=>match Q5 i (evF E) h with
   | some (r,h')=>κ r h'
   | none=>False
theorem Qr6 {imm:Bool} {o:Oper} {neg:Bool} {X:A} (h:Q9r P imm o=some (.isn neg X)) :
  ∃op T x y yT e,o.op=.binOp op T x y yT/\(op=.eql∨op=.neq)/\P.underlying T=some (.slice e)/\Qbp y=true/\neg=decide (op=.neq)/\X=cvA x:=by
 unfold Q9r at h
 revert h
 repeat' split
 all_goals try (simp;done)
 rename_i op T x y yT ho _ e hu hc
 intro h
 simp only[Option.some.injEq,I.isn.injEq]at h
 exact⟨op,T,x,y,yT,e,ho,hc.1,hu,hc.2,h.1.symm,h.2.symm⟩
theorem Qhl {N:Nat} {ops:Array Oper} {imm:Bool} {o:Oper} {x:Ins} (hx:Xn P N ops imm o=some x) {J:Nat->Prop} {m:List Ent} {E:Nat->V} {h:List O} {a:Act} {w:World} (hr:RelF N J m E h a w)
  {κ:V->List O->Prop} (hdo:K7 P x.i E h κ)
  {K:Act->World->Prop} {Q:Exit->Act->World->Prop}
  (hK:∀r h' J' m' a' w',κ r h'->RelF N J' m' (Bi x.d r E) h' a' w'->(∀n,Ev n J m w J' m' w')->Ml m m'->K a' w'):o.wp P a w K Q:=by
 obtain⟨hxi,hd,hxd,_⟩:=Yn hx
 have hcall:∀(f:FuncId) (vs:List V) (cargs:List Value),Qv P f=true->ACall P f vs h κ->Pw (RV J m w) vs cargs->(execOp a.eval o).run P w=(callFunc f cargs.toArray).run P w->o.wp P a w K Q:=by
  intro f vs cargs hcl hac hpw hrun
  unfold Oper.wp
  rw[hrun,Be hcl,Oper.upon_enter]
  refine (hac J m w cargs hr.rs hpw).mono λe w' hh=>?_
  obtain⟨v,r,h',J',m',rfl,hκ,hv,hrs,hev,hml⟩:=hh
  exact hK r h' J' m' _ _ hκ (by rw[hxd];exact hr.put (hev 0) hml hrs hd hv) hev hml
 have hplain:Q9r P imm o=some x.i->x.i.isCall=false->o.wp P a w K Q:=by
  intro hci hnc
  by_cases hisn:∃neg y,x.i=.isn neg y/\(evF E y).empt=true
  ·obtain⟨neg,y,hxi2,hemp⟩:=hisn
   rw[hxi2]at hdo hci
   simp only[K7,hemp]at hdo
   obtain⟨op,T,x1,y1,yT,e,ho,hop,hu,hny,_,rfl⟩:=Qr6 hci
   have h1:=hr.ev x1
   have hsl:∃ad n c,a.eval x1=.slice ad n c:=by
    generalize evF E (cvA x1)=X at *
    generalize a.eval x1=xv at *
    unfold V.empt at hemp
    split at hemp
    ·have h2:RD J w .nil xv:=h1
     cases h2 with
     | nil0=>exact⟨_,_,_,rfl⟩
     | nil1 ad=>exact⟨_,_,_,rfl⟩
    ·rename_i sz
     have h2:RD J w (.l sz []) xv:=h1
     cases h2 with
     | l0=>exact⟨_,_,_,rfl⟩
     | l1=>exact⟨_,_,_,rfl⟩
     | l=>exact⟨_,_,_,rfl⟩
    ·simp at hemp
   obtain⟨ad,n,c,hsl⟩:=hsl
   obtain⟨v,w',J',m',hres,hv,hrs,hev,hml⟩:=Qfa (P:=P) (J:=J) (m:=m) (w:=w) (h:=h) (ox:=x1) (oy:=y1) hop hu (Qjl (a:=a) hny) hr.rs ad n c
   have hrun:(execOp a.eval o).run P w=(do pure (.value (<- (do eqGuard op T x1 y1 (.slice ad n c) (a.eval y1);binOp op T (.slice ad n c) (a.eval y1)))):Sem Next).run P w:=by
    simp only[execOp,ho,hsl]
   unfold Oper.wp
   rw[hrun]
   have hκ:κ (.b (if op=.neq then !ad.isNone else ad.isNone)) h:=by
    cases (if op=.neq then !ad.isNone else ad.isNone)
    ·exact hdo.2
    ·exact hdo.1
   rcases hres with hres | ⟨hres,rfl⟩
   ·rw[hres]
    simp only[Oper.upon_value]
    exact hK _ h J' m' _ _ hκ (by rw[hxd];exact hr.put (hev 0) hml hrs hd hv) hev hml
   ·rw[hres]
    simp only[Oper.upon_skip]
    exact hK _ h J' m' _ _ hκ (by rw[hxd];exact hr.put (hev 0) hml hrs hd hv) hev hml
  have hdo':match Q5 x.i (evF E) h with | some (r,h')=>κ r h' | none=>False:=by
   generalize x.i=i at *
   cases i
   case isn neg y =>
    have hf:(evF E y).empt=false:=by
     cases he:(evF E y).empt with
     | false=>rfl
     | true=>exact absurd ⟨neg,y,rfl,he⟩ hisn
    simp only[K7,hf]at hdo
    exact hdo
   all_goals first | exact hdo | (simp[I.isCall]at hnc;done)
  split at hdo'
  case h_2=>exact hdo'.elim
  rename_i r h' hst
  obtain⟨v,w',J',m',hres,hv,hrs,hev,hml⟩:=Qot hci (ev:=evF E) (λ_=>rfl) hr.ev hr.rs hst
  unfold Oper.wp
  rcases hres with hres | ⟨hres,rfl⟩
  ·rw[hres]
   simp only[Oper.upon_value]
   exact hK r h' J' m' _ _ hdo' (by rw[hxd];exact hr.put (hev 0) hml hrs hd hv) hev hml
  ·rw[hres]
   simp only[Oper.upon_skip]
   exact hK r h' J' m' _ _ hdo' (by rw[hxd];exact hr.put (hev 0) hml hrs hd hv) hev hml
 have hargs:∀l:List Operand,Pw (RV J m w) ((l.map cvA).map (evF E)) (l.map a.eval):=by
  intro l
  refine⟨by simp,λk v c hv hc=>?_⟩
  simp only[List.map_map,qp,qa]at hv hc
  obtain⟨q,hq,rfl⟩:=hv
  obtain⟨q',hq',rfl⟩:=hc
  obtain rfl:=Option.some.inj (hq.symm.trans hq')
  exact hr.ev q
 unfold Qss at hxi
 split at hxi
 ·rename_i i hcc
  obtain rfl:=Option.some.inj hxi
  unfold Qfj at hcc
  split at hcc
  case h_3=>simp at hcc
  case h_2 =>
   rename_i it ho
   have hcc:=Option.some.inj hcc
   rw[<- hcc]at hdo
   simp only[K7]at hdo
   obtain⟨r,h',v,w',hrun,hκ,hv,hrs,hev⟩:=mnx_ok (P:=P) hr.rs (hr.ev it) hdo o.type
   have hrun':(execOp a.eval o).run P w=.ok (.value v) w':=by
    simp only[execOp,ho,Sem.run_bind,hrun,Result.andThen_ok,Sem.run_pure]
   unfold Oper.wp
   rw[hrun']
   simp only[Oper.upon_value]
   exact hK r h' J m _ _ hκ (by rw[hxd];exact hr.put (hev 0) (Ml.refl m) hrs hd hv) hev (Ml.refl m)
  rename_i c ho
  split at hcc
  ·rename_i g hcal
   simp only[ja,Option.some.injEq]at hcc
   obtain⟨hcl,hcc⟩:=hcc
   rw[<- hcc]at hdo
   refine hcall g _ (c.args.toList.map a.eval) hcl hdo (hargs _) ?_
   have:(c.args.toList.map a.eval).toArray=c.args.map a.eval:=by apply Array.ext';simp
   rw[this]
   simp[execOp,ho,resolve,hcal,Act.eval,Deferred.ofValue,invoke]
  ·rename_i t hcal
   have hcc:=Option.some.inj hcc
   rw[<- hcc]at hdo
   simp only[K7]at hdo
   split at hdo
   case h_2=>exact hdo.elim
   rename_i f caps hE
   have h1:=hr.tmps t
   have hE':E t=.f f caps:=hE
   rw[hE']at h1
   obtain⟨cs,hcs,hp⟩:=h1
   refine hcall f _ (c.args.toList.map a.eval++cs.toList) hdo.1 hdo.2 (Pw.append (hargs _) (hp.imp λv c' hh=>Qh (by cases v<;>first | exact hh | simp only[RL]at hh))) ?_
   have:(c.args.toList.map a.eval++cs.toList).toArray=c.args.map a.eval++cs:=by apply Array.ext';simp
   rw[this]
   have hae:a.eval (.tmp t)=.func (.func f) #[] cs:=hcs
   simp[execOp,ho,resolve,hcal,hae,Deferred.ofValue,invoke]
  ·simp at hcc
 ·rename_i hcc
  simp only[qr]at hxi
  obtain⟨i,hi,hxi⟩:=hxi
  split at hxi
  case isTrue=>simp at hxi
  rename_i hnc
  obtain rfl:=Option.some.inj hxi
  exact hplain hi (by simpa using hnc)
def Q23 (E:Nat->V) (b:Bool):Option (Nat × Bool)->Prop
 | none=>b=true
 | some (t,Z0)=>(∀c,E t=.b c->b=(c == Z0))/\(E t=.t []->b=false)
theorem Ul {N:Nat} {ops:Array Oper} {o:Oper} {J:Nat->Prop} {m:List Ent} {E:Nat->V} {h:List O} {a:Act} {w:World} (hr:RelF N J m E h a w) {g:Option (Nat × Bool)} (hg:Q4a ops o.guard=some g) :
  Q23 E (Region.wanted o (yielded ops a.tmps)) g:=by
 cases hog:o.guard with
 | none =>
   rw[hog]at hg
   obtain rfl:=Option.some.inj hg
   simp[Q23,Region.wanted,hog]
 | some p =>
   obtain⟨j,Z0⟩:=p
   rw[hog]at hg
   simp only[Q4a,qa]at hg
   obtain⟨t,ht,rfl⟩:=hg
   refine⟨?_,λhu=>?_⟩
   case refine_2 =>
    have h1:=hr.tmps t
    rw[hu]at h1
    obtain⟨arr,h2,h3⟩:=h1
    have h4:yielded ops a.tmps j=none:=by
     simp only[yielded,ht,Option.bind_some]
     cases h5:a.tmps[t]? with
     | none=>rfl
     | some y =>
       have h6:a.tmps.getD t undef=y:=by simp[Array.getD_eq_getD_getElem?,h5]
       rw[h6]at h2
       rw[h2]
    simp[Region.wanted,hog,h4]
   intro b hb
   have h1:=hr.tmps t
   rw[hb]at h1
   have h2:=Ya h1
   have h3:a.tmps[t]?=some (.bool b):=by
    rcases Nat.lt_or_ge t a.tmps.size with hlt | hge
    ·have:a.tmps.getD t undef=a.tmps[t]:=by simp[Array.getD,hlt]
     rw[this]at h2
     rw[Array.getElem?_eq_getElem hlt,h2]
    ·have:a.tmps.getD t undef=undef:=by simp[Array.getD,Nat.not_lt.2 hge]
     rw[this]at h2
     simp[undef]at h2
   have h4:yielded ops a.tmps j=some b:=by
    simp[yielded,ht,h3]
   simp[Region.wanted,hog,h4]
def Qg3 (N:Nat) (J:Nat->Prop) (m:List Ent) (w:World) (n:Nat) (κ:X->St->Prop) (e:Exit) (a':Act) (w':World):Prop :=
 ∃x σ' J' m',(match e,x with | .normal,.n=>True | .exit i,.e j=>i=j | .ret,.r=>True | _,_=>False)/\κ x σ'/\RelF N J' m' (λt=>get t σ'.env) σ'.h a' w'/\Ev n J m w J' m' w'
theorem Qpp {N:Nat} {n:Nat} {ops:Array Oper} {Q:Exit->Act->World->Prop}:∀(l:List Oper) (xs:List Ins),l.length=xs.length->(∀(k:Nat) (o:Oper) (x:Ins),l[k]?=some o->xs[k]?=some x->∃imm,Xn P N ops imm o=some x) ->
  ∀(σ:St) (κ:St->Prop),AO P xs σ κ->∀(J:Nat->Prop) (m:List Ent) (a:Act) (w:World),RelF N J m (λt=>get t σ.env) σ.h a w ->
   (∀σ' J' m' a' w',κ σ'->RelF N J' m' (λt=>get t σ'.env) σ'.h a' w'->Ev n J m w J' m' w'->Q .normal a' w')->wpList P ops Q l a w
 | [],[],_,_,σ,κ,hao,J,m,a,w,hr,hQ=>hQ σ J m a w hao hr (Ev.refl n J m w)
 | [],_::_,hl,_,_,_,_,_,_,_,_,_,_=>by simp at hl
 | _::_,[],hl,_,_,_,_,_,_,_,_,_,_=>by simp at hl
 | o::l,x::xs,hl,hk,σ,κ,hao,J,m,a,w,hr,hQ=>by
   obtain⟨imm,hx⟩:=hk 0 o x rfl rfl
   obtain⟨_,hd,hxd,hg⟩:=Yn hx
   have hw:=Ul hr hg
   have hrest:=λσ κ=>Qpp (N:=N) (n:=n) (ops:=ops) (Q:=Q) l xs (by simpa using hl) (λk o x a b=>hk (k+1) o x (by simpa using a) (by simpa using b)) σ κ
   have hwant:A1 P x σ (λσ'=>AO P xs σ' κ)->o.wp P a w (wpList P ops Q l) Q:=by
    intro ha1
    refine Qhl hx hr (κ:=λr h'=>AO P xs ⟨Q7 x.d r σ.env,h'⟩ κ) ?_ ?_
    ·unfold A1 at ha1
     unfold K7
     rw[X3]
     exact ha1
    ·intro r h' J' m' a' w' hκ hr' hev hml
     refine hrest ⟨Q7 x.d r σ.env,h'⟩ κ hκ J' m' a' w' (by rw[U8];exact hr') ?_
     intro σ' J'' m'' a'' w'' h1 h2 h3
     exact hQ σ' J'' m'' a'' w'' h1 h2 ((hev n).trans h3)
   have hskip:AO P xs ⟨Q7 x.d (.t []) σ.env,σ.h⟩ κ->wpList P ops Q l (a.put o.dst undef) w:=by
    intro ha1
    refine hrest ⟨Q7 x.d (.t []) σ.env,σ.h⟩ κ ha1 J m (a.put o.dst undef) w ?_ hQ
    rw[U8,hxd]
    exact hr.put (Ev.refl 0 J m w) (Ml.refl m) hr.rs hd ⟨#[],rfl,Pw.nil⟩
   simp only[AO]at hao
   cases hxg:x.g with
   | none =>
     rw[hxg]at hw hao
     simp only[Q23]at hw hao
     simp only[wpList,hw,if_true]
     exact .inl (hwant hao)
   | some p =>
     obtain⟨t,Z0⟩:=p
     rw[hxg]at hw hao
     simp only[Q23]at hw hao
     unfold Yo at hao
     split at hao
     case h_3=>exact hao.elim
     case h_2 =>
      rename_i hb
      have hw':=hw.2 hb
      simp only[wpList,hw',Bool.false_eq_true,if_false]
      exact hskip hao
     rename_i b hb
     have hw':=hw.1 b hb
     simp only[wpList,hw']
     by_cases hbw:b=Z0
     ·subst hbw
      simp only[beq_self_eq_true,if_true]
      exact .inl (hwant (hao.1 rfl))
     ·have:(b == Z0)=false:=by simpa using hbw
      simp only[this,Bool.false_eq_true,if_false]
      exact hskip (hao.2 (by cases b<;>cases Z0<;>simp at hbw ⊢))
end
end Go.Abs
