/- Part of the library on which the proof stands: an abstract machine, its values and its soundness against the model; or what functions of the program do to such values. -/
import Derived.Test.YtnaehggpjfdenaaGreatAbsY
import Derived.Sort.Statements
import Derived.Lib.SlicesCompact
set_option linter.unusedVariables false
set_option linter.unusedSimpArgs false
namespace Go.Abs
open Go.RowKit Go.ChangeShapes Go.WideShapes Go.ChangeAt
def Qou (P:Program) (T:TypeId):Option (Bool × List Sch) :=
 (Q1k P 20 T).map λss=>(match P.underlying T with | some (.struct _) | some (.array _ _)=>true | _=>false,ss)
def Qox:Bool × List Sch->V->Prop
 | (true,ss),v=>∃cs,v=.a cs/\okL ss cs
 | (false,ss),v=>okL ss [v]
def Wl:List (Bool × List Sch)->List V->Prop
 | [],vs=>vs=[]
 | p::ps,vs=>∃v r,vs=v::r/\Qox p v/\Wl ps r
section
variable {P:Program} {W:World} {H:Type} {enc:TypeId × Value->H}
theorem par_ok {T:TypeId} {p:Bool × List Sch} (hp:Qou P T=some p) {v:Value} (hv:∃base,Value.okWide P W .any base T v) {sp:Nat->Bool} {held:Bool} {d:DataW H} {ps:List MemPlace} (ht:DataW.Trod enc P W 0 sp held T v d ps) :
  ∃u,RV (λk=>k<W.heap.size) [] W u v/\Qox p u:=by
 simp only[Qou,qa]at hp;obtain⟨ss,hss,rfl⟩:=hp;obtain⟨base,hv⟩:=hv;obtain⟨fuel,hf⟩:=ht;obtain⟨vs,h1,h2⟩:=Q9j (w:=W) (enc:=enc) (sp:=sp) (held:=held) 20 T ss hss fuel _ _ hf;by_cases hagg:(∃fs,P.underlying T=some (.struct fs))∨∃n e,P.underlying T=some (.array n e)
 ·have hcs:∃cs,v=.agg cs:=by
   unfold Value.okWide at hv;rcases hagg with⟨fs,hu⟩ | ⟨n,e,hu⟩<;>rw[hu]at hv<;>obtain⟨cs,h,_⟩:=hv<;>exact⟨cs,h⟩
  obtain⟨cs,rfl⟩:=hcs;have:(match P.underlying T with | some (.struct _) | some (.array _ _)=>true | _=>false)=true:=by
   rcases hagg with⟨fs,hu⟩ | ⟨n,e,hu⟩<;>rw[hu]
  rw[this];exact⟨.a vs,⟨cs,rfl,h1.imp λ_ _ h=>Qv h⟩,vs,rfl,h2⟩
 ·have h3:v.cells.toList=[v]:=by
   have hc:Cell.okWide P W .any base T v:=by
    unfold Value.okWide at hv;split at hv
    ·rename_i fs h;exact absurd (.inl ⟨_,h⟩) hagg
    ·rename_i n e h;exact absurd (.inr ⟨_,_,h⟩) hagg
    ·exact hv
   cases v<;>first | rfl | skip
   rename_i cs;exfalso;unfold Cell.okWide at hc;split at hc<;>first | (rename_i h;cases h;done) | skip
   unfold Cell.ok at hc;split at hc<;>first | (rename_i h;cases h;done) | exact hc
  have:(match P.underlying T with | some (.struct _) | some (.array _ _)=>true | _=>false)=false:=by
   split
   ·rename_i h;exact absurd (.inl ⟨_,h⟩) hagg
   ·rename_i h;exact absurd (.inr ⟨_,_,h⟩) hagg
   ·rfl
  rw[this];have hl:=h1.1;rw[h3]at hl h1
  match vs,hl,h1,h2 with
  | [u],_,h1,h2=>exact⟨u,Qh (Qv h1.head),h2⟩
theorem Qot:∀{ts:List TypeId} {pars:List (Bool × List Sch)} {vs:List Value} {ds:List (DataW H)} {ps:List MemPlace} {sp:Nat->Bool} {held:Bool},ts.mapM (Qou P)=some pars ->
  (∀(j:Nat) (t:TypeId) (v:Value),ts[j]?=some t->vs[j]?=some v->∃base,Value.okWide P W .any base t v)->DataW.TrodAll enc P W 0 sp held ts vs ds ps ->
  ∃us,Pw (RV (λk=>k<W.heap.size) [] W) us vs/\Wl pars us/\ds.length=ts.length
 | [],pars,vs,ds,ps,sp,held,hp,_,ht=>by
   obtain⟨rfl,rfl,rfl⟩:=trodAll_nil ht;simp at hp;subst hp;exact⟨[],Pw.nil,rfl,rfl⟩
 | t::ts,pars,vs,ds,ps,sp,held,hp,hv,ht=>by
   obtain⟨v,vs1,d,ds1,a,b,rfl,rfl,rfl,h1,h2⟩:=trodAll_cons ht;simp only[List.mapM_cons,Option.bind_eq_bind,qr,Option.pure_def,Option.some.injEq]at hp;obtain⟨p,hp1,ps',hp2,rfl⟩:=hp;obtain⟨u,hu1,hu2⟩:=par_ok hp1 (hv 0 t v rfl rfl) h1;obtain⟨us,hu3,hu4,hu5⟩:=Qot hp2 (λj t v h3 h4=>hv (j+1) t v (by simpa using h3) (by simpa using h4)) h2
   exact⟨u::us,Pw.cons hu1 hu3,⟨u,us,rfl,hu2,hu4⟩,by simp[hu5]⟩
theorem Q09 (hl:laidOutB P=true) {W':World} (hb:Below W.heap.size W W') {sp:Nat->Bool} (hsp:∀b,b<W.heap.size->sp b=true):∀{ts:List TypeId} {vs:List Value} {ds:List (DataW H)} {ps:List MemPlace},
  (ts.all λt=>P.readableRec t && decide (t<P.types.size))=true->DataW.TrodAll enc P W 0 (λ_=>true) true ts vs ds ps->DataW.TrodAll enc P W' 0 sp true ts vs ds ps
 | [],vs,ds,ps,_,ht=>by
   obtain⟨rfl,rfl,rfl⟩:=trodAll_nil ht;exact trodAll_mk0
 | t::ts,vs,ds,ps,hr,ht=>by
   have hlt:=ht.lt;obtain⟨v,vs1,d,ds1,a,b,rfl,rfl,rfl,h1,h2⟩:=trodAll_cons ht;simp only[List.all_cons,Bool.and_eq_true,decide_eq_true_eq]at hr;refine⟨a,b,?_,Q09 hl hb hsp hr.2 h2,rfl⟩;exact WideElems.Trod_stays hl hr.1.1 hr.1.2 h1 (λx hx=>hb.same (hlt x (by simp[hx]))) (λx hx=>hsp _ (hlt x (by simp[hx])))
theorem Qr8 {f:Func} {s:ChangeSpec} {apart fresh handsOn again:Bool} {W':World} {args:Array Value} {ds gs:List (DataW H)} {before:List MemPlace} {tb:TypeId}
  (hl:laidOutB P=true) (hvars:s.vars=[]) (hres:f.resultTypes=#[tb]) (htb:P.underlying tb=some .bool)
  (hr:(f.params.toList.all λt=>P.readableRec t && decide (t<P.types.size))=true)
  (hW:DataW.Whole enc P f.params.toList s.vars apart W args.toList ds gs before) (hfn:s.fn H (ds++gs)={ results:=[.lit (.bool true)],args:=ds })
  (hb:Below W.heap.size W W'):s.post enc P f apart fresh handsOn again W args (.bool true) W':=by
 have hW':=hW;obtain⟨p,q,hA,hV,rfl,hz,hn⟩:=hW;have hlt:=hA.lt;rw[hvars]at hV
 cases gs with
 | cons g gs=>exact hV.elim
 | nil =>
 have hq:q=[]:=hV;subst hq;simp only[List.append_nil]at *
 have hres':∀(b:Nat) (sp:Nat->Bool) (hd:Bool),DataW.TrodAll enc P W' b sp hd f.resultTypes.toList ((Value.bool true).resultList f.resultTypes.size) (s.fn H ds).results []:=by
  intro b sp hd;rw[hfn,hres];exact trodAll_mk1 (shut_bool htb true)
 have hargs':∀sp:Nat->Bool,(∀b,b<W.heap.size->sp b=true)->DataW.TrodAll enc P W' 0 sp true f.params.toList args.toList (s.fn H ds).args p:=by
  intro sp hsp;rw[hfn];exact Q09 hl hb hsp hr hA
 refine⟨ds,[],p,[],p,[],by simpa using hW',by simpa using hres' _ _ _,by simpa using hargs' _ (λb hb=>by simpa using hb),?_,hb.frame _,λ_=>?_⟩
 ·rw[hvars];simp only[List.append_nil,hfn];rfl
 ·refine⟨ok_one hres rfl (okWide_bool_mk htb _),_,[],[]++p,⟨[]++p,[],trodAll_append (hargs' _ (λ_ _=>rfl)) (hres' _ _ _),by rw[hvars];exact(rfl:([]:List MemPlace)=[]),by simp,?_,?_⟩,?_⟩
  ·intro b off hp;have hp':MemPlace.cell b off∈p:=by simpa using hp
   have:=hlt _ hp';rw[hb.frozen (p:=⟨b,off,none⟩) this];exact hz b off hp'
  ·intro ha;simpa using hn ha
  ·intro x hx _;simpa using hx
theorem law_contract {f:FuncId} {fn:Func} {s:ChangeSpec} {apart fresh handsOn again:Bool} {tb:TypeId} {pars:List (Bool × List Sch)}
  (hl:laidOutB P=true) (hvars:s.vars=[]) (hres:fn.resultTypes=#[tb]) (htb:P.underlying tb=some .bool)
  (hr:(fn.params.toList.all λt=>P.readableRec t && decide (t<P.types.size))=true)
  (hpars:fn.params.toList.mapM (Qou P)=some pars)
  (hfn:∀ds:List (DataW H),ds.length=fn.params.toList.length->s.fn H ds={ results:=[.lit (.bool true)],args:=ds })
  (hlaw:∀us,Wl pars us->PureC P f us (·=.b true))
  (W:World) (base:Nat) (args:Array Value) (ds gs:List (DataW H)) (before:List MemPlace)
  (hval:∀(j:Nat) t v,fn.params[j]?=some t->args[j]?=some v->Value.okWide P W .any base t v)
  (hW:DataW.Whole enc P fn.params.toList s.vars apart W args.toList ds gs before) :
  Calls P f args W λe W'=>∃v,e=.returned v/\s.post enc P fn apart fresh handsOn again W args v W':=by
 have hW':=hW;obtain⟨p,q,hA,hV,rfl,hz,hn⟩:=hW;obtain⟨us,h1,h2,h3⟩:=Qot hpars (vs:=args.toList) (λj t v hj hv=>⟨base,hval j t v (by simpa using hj) (by simpa using hv)⟩) hA;have hgs:gs=[]:=by
  rw[hvars]at hV
  cases gs with
  | nil=>rfl
  | cons g gs=>exact hV.elim
 subst hgs;have hcall:=hlaw us h2 (λk=>k<W.heap.size) [] W args.toList ⟨rfl,λk hk=>hk,by simp,by simp,by simp⟩ h1;simp only[Array.toArray_toList]at hcall;refine hcall.mono ?_;rintro e W' ⟨v,r,h',J',m',rfl,⟨rfl,rfl⟩,hv,_,hev,_⟩;have:=Ym hv;subst this;have hbl:Below W.heap.size W W':=⟨(hev 0).os,(hev 0).tape,(hev 0).output,(hev 0).size,λk hk=>(hev 0).keep k hk (by simp)⟩
 exact⟨_,rfl,Qr8 hl hvars hres htb hr hW' (by rw[List.append_nil];exact hfn ds h3) hbl⟩
end
end Go.Abs
namespace Go.Abs
open Go.RowKit
def Uc (m:List Ent) (ids:List Nat) (k:Nat):Prop:=∃id,id∈ids/\∃e:Ent,m[id]?=some e/\e.blk=some k
def Q03 (h:List O) (ids:List Nat):List O:=ids.foldl (λh id=>h.set id .dead) h
section
variable {P:Program} {J:Nat->Prop} {m:List Ent} {w:World} {h:List O}
theorem Yl (hr:RS J h m w) {v r:V} (hf:Ys h v=some r) {c:Value} (hv:RC J m w v c):RC (λk=>J k∨Uc m v.ids0 k) [] w r c:=by
 have hsub:∀k,J k->(λk=>J k∨Uc m v.ids0 k) k:=λk hk=>.inl hk
 cases v<;>simp only[Ys]at hf<;>try (simp at hf;done)
 case own id g off len =>
  split at hf
  case h_2=>simp at hf
  rename_i g' sz els ho;split at hf
  case isFalse=>simp at hf
  rename_i hcond;obtain⟨rfl,hle,hd⟩:=hcond;obtain rfl:=Option.some.inj hf;have he:Zr sz h (.own id g off len)=some ((els.drop off).take len):=by simp[Zr,ho,hle]
  obtain⟨a,cap,hx,h1,h2,h3,h4⟩:=Jl hr (Qh hv) he;have hv':=K2 hr (Qh hv) ho;obtain⟨en,hen,_,_,hsl,_⟩:=hv';subst hx;cases a with
  | none =>
    obtain⟨h5,h6⟩:=h2 rfl;have:(els.drop off).take len=[]:=ql h5;rw[this];subst h6;exact RD.l0 sz
  | some a =>
    obtain⟨cs,h5,h6⟩:=h4 a rfl;have hdd:∀(i:Nat) (el:List V) (j:Nat) (x:V),((els.drop off).take len)[i]?=some el->el[j]?=some x->x.isD=true:=by
     intro i el j x q1 q2;have q3:=qj.1 hd el (qb q1);exact qj.1 q3 x (qb q2)
    by_cases h0:((els.drop off).take len).length=0
    ·have:(els.drop off).take len=[]:=ql h0;rw[this];exact RD.l1 sz a cap
    ·have hb:Uc m [id] a.block:=by
      unfold Ent.sl at hsl;cases hbk:en.blk with
      | none =>
        rw[hbk]at hsl
        obtain⟨_,_,q3⟩:=hsl;exfalso;rcases q3 with q3 | ⟨_,q3⟩<;>simp at q3
        rw[qv,List.length_drop]at h0
        omega
      | some B =>
        rw[hbk]at hsl
        obtain⟨o,cc,q3,_⟩:=hsl;simp only[Value.slice.injEq,Option.some.injEq]at q3;exact⟨id,by simp,en,hen,by rw[hbk,q3.1]⟩
     exact RD.l sz _ a cap cs (.inr hb) h1 h3 h5 (λi el j v q1 q2=>(Ie (hdd i el j v q1 q2) (h6 i el j v q1 q2)).mono (λk hk=>.inl hk) (λ_ _=>rfl))
 all_goals
  obtain rfl:=Option.some.inj hf
  first
  | exact hv
  | exact(show RD J w _ c from hv).mono (λk hk=>.inl hk) (λ_ _=>rfl)
theorem frz_okI (hr:RS J h m w) {v r:V} (hf:frz h v=some r) {c:Value} (hv:RV J m w v c):RA (λk=>J k∨Uc m v.ids2 k) [] w r c:=by
 cases v
 case a cs =>
  simp only[frz,qa]at hf;obtain⟨rs,hrs,rfl⟩:=hf;obtain⟨arr,rfl,hp⟩:=hv;refine⟨arr,rfl,?_⟩;have:∀(vs rs:List V) (cl:List Value),vs.mapM (Ys h)=some rs->Pw (RC J m w) vs cl->(∀x∈vs,x∈cs)->Pw (RC (λk=>J k∨Uc m (V.a cs).ids2 k) [] w) rs cl:=by
   intro vs
   induction vs with
   | nil =>
     intro rs cl h1 h2 _;simp at h1;subst h1;have:=h2.1;simp at this;obtain rfl:=ql this.symm;exact Pw.nil
   | cons v vs ih =>
     intro rs cl h1 h2 h3;simp only[List.mapM_cons,Option.bind_eq_bind,qr,Option.pure_def,Option.some.injEq]at h1;obtain⟨u,hu,us,hus,rfl⟩:=h1;cases cl with
     | nil=>have:=h2.1;simp at this
     | cons c cl =>
       refine Pw.cons ?_ (ih us cl hus h2.tail (λx hx=>h3 x (by simp[hx])));have h4:=Yl hr hu h2.head;refine RC.mono (m:=[]) (m':=[]) (w:=w) (w':=w) (λk hk=>?_) (λ_ _=>rfl) (Ml.refl _) h4;rcases hk with hk | ⟨id,hid,e,he⟩
       ·exact .inl hk
       ·refine .inr ⟨id,?_,e,he⟩;show id∈(cs.flatMap V.ids1);rw[jr];refine⟨v,h3 v (by simp),?_⟩;cases v<;>first | exact hid | (simp[V.ids0]at hid;done)
  exact this cs rs arr.toList hrs hp (λx hx=>hx)
 case t=>simp[frz,Ys]at hf
 case any =>
  have hf':Ys h .any=some r:=hf;simp only[Ys,Option.some.injEq]at hf';subst hf'
  trivial
 case f=>simp[frz,Ys]at hf
 case b x=>exact Qy (Yl (v:=.b x) hr hf hv)
 case i k n=>exact Qy (Yl (v:=.i k n) hr hf hv)
 case s x=>exact Qy (Yl (v:=.s x) hr hf hv)
 case nil=>exact Qy (Yl (v:=.nil) hr hf hv)
 case l sz els=>exact Qy (Yl (v:=.l sz els) hr hf hv)
 case own id g off len=>exact Qy (Yl (v:=.own id g off len) hr hf hv)
 case p id g e j=>exact Qy (Yl (v:=.p id g e j) hr hf hv)
 case ip cs=>exact Qy (Yl (v:=.ip cs) hr hf hv)
 case np=>exact Qy (Yl (v:=.np) hr hf hv)
 case mp id=>exact Qy (Yl (v:=.mp id) hr hf hv)
 case mnil=>exact Qy (Yl (v:=.mnil) hr hf hv)
theorem Ml.trans {m m1 m2:List Ent} (h1:Ml m m1) (h2:Ml m1 m2):Ml m m2:=by
 intro id e he;obtain⟨e1,h3,h4,h5⟩:=h1 id e he;obtain⟨e2,h6,h7,h8⟩:=h2 id e1 h3;refine⟨e2,h6,Nat.le_trans h4 h7,λhh=>?_⟩;have:e1=e:=h5 (by omega);subst this;exact h8 hh
theorem kill1 (hr:RS J h m w) {id:Nat} {en:Ent} (hen:m[id]?=some en) (hg:1<=en.gen) :
  RS (λk=>J k∨en.blk=some k) (h.set id .dead) (m.set id ⟨en.gen+1,en.sz,none,0,0⟩) w/\(∀n,Ev n J m w (λk=>J k∨en.blk=some k) (m.set id ⟨en.gen+1,en.sz,none,0,0⟩) w)/\Ml m (m.set id ⟨en.gen+1,en.sz,none,0,0⟩):=by
 have hidm:id<m.length:=(q8.1 hen).1;generalize he':(⟨en.gen+1,en.sz,none,0,0⟩:Ent)=e';have g1:en.gen<=e'.gen:=by rw[<- he'];simp
 have g2:en.gen=e'.gen∨en.gen=0->e'=en:=by
  intro hh;have h1':e'.gen=en.gen+1:=by rw[<- he']
  omega
 have hb':e'.blk=none:=by rw[<- he']
 have hrs1:RS J (h.set id .dead) (m.set id e') w:=RS.upd hr e' .dead hen g1 g2 (λB' hB'=>by rw[hb']at hB';simp at hB') (λ_ _ _=>rfl) (Nat.le_refl _) trivial;have hne:∀(i:Nat) (x:Ent) (B:Nat),(m.set id e')[i]?=some x->x.blk=some B->en.blk≠some B:=by
  intro i x B hx hxB hB;by_cases hi:id=i
  ·subst hi;rw[qm hidm]at hx
   obtain rfl:=Option.some.inj hx;rw[hb']at hxB;simp at hxB
  ·rw[qt hi]at hx
   exact hi (hr.inj i id x en B hx hen hxB hB).symm
 refine⟨?_,λq=>?_,Ml.set hen g1 g2⟩
 ·refine⟨hrs1.len,λk hk=>?_,λi x B' hx hB'=>⟨?_,(hrs1.dis i x B' hx hB').2⟩,hrs1.inj,λi x o hx hO=>RO.mono (λ_ h=>.inl h) (λ_ _=>rfl) (Ml.refl _) (λ_ _=>rfl) (hrs1.obj i x o hx hO)⟩
  ·rcases hk with hk | hk
   ·exact hr.jlt k hk
   ·exact(hr.dis id en k hen hk).2
  ·rintro (hj | hj)
   ·exact(hrs1.dis i x B' hx hB').1 hj
   ·exact hne i x B' hx hB' hj
 ·refine⟨rfl,rfl,rfl,Nat.le_refl _,Nat.le_refl _,λ_ _ _=>rfl,λi x B' hx hB'=>?_,λ_ h=>.inl h,λk hk=>?_,λi x _ hx=>Ml.set hen g1 g2 i x hx⟩
  ·by_cases hi:id=i
   ·subst hi;rw[qm hidm]at hx
    obtain rfl:=Option.some.inj hx;rw[hb']at hB';simp at hB'
   ·rw[qt hi]at hx
    exact .inr ⟨i,x,hx,hB'⟩
  ·rcases hk with hk | hk
   ·exact .inl hk
   ·exact .inr (.inr ⟨id,en,hen,hk⟩)
theorem Qp7:∀(ids:List Nat) {J:Nat->Prop} {h:List O} {m:List Ent},RS J h m w->(∀id∈ids,∃e:Ent,m[id]?=some e/\1<=e.gen) ->
  ∃m',RS (λk=>J k∨Uc m ids k) (Q03 h ids) m' w/\(∀n,Ev n J m w (λk=>J k∨Uc m ids k) m' w)/\Ml m m'
 | [],J,h,m,hr,_=>by
   have e:(λk=>J k∨Uc m [] k)=J:=by
    funext k;simp[Uc]
   rw[e];exact⟨m,hr,λn=>Ev.refl n J m w,Ml.refl m⟩
 | id::ids,J,h,m,hr,hids=>by
   obtain⟨en,hen,hg⟩:=hids id (by simp);have hidm:id<m.length:=(q8.1 hen).1;obtain⟨k1,k2,k3⟩:=kill1 hr hen hg;obtain⟨m',h1,h2,h3⟩:=Qp7 ids k1 (λi hi=>by
    by_cases hii:id=i
    ·subst hii;exact⟨_,qm hidm,by simp⟩
    ·obtain⟨e,he,hge⟩:=hids i (by simp[hi]);exact⟨e,by rw[qt hii];exact he,hge⟩)
   have e:(λk=>(J k∨en.blk=some k)∨Uc (m.set id ⟨en.gen+1,en.sz,none,0,0⟩) ids k)=(λk=>J k∨Uc m (id::ids) k):=by
    funext k;apply propext;constructor
    ·rintro ((hk | hk) | ⟨i,hi,e,he,hb⟩)
     ·exact .inl hk
     ·exact .inr ⟨id,by simp,en,hen,hk⟩
     ·by_cases hii:id=i
      ·subst hii;rw[qm hidm]at he
       obtain rfl:=Option.some.inj he;simp at hb
      ·rw[qt hii]at he
       exact .inr ⟨i,by simp[hi],e,he,hb⟩
    ·rintro (hk | ⟨i,hi,e,he,hb⟩)
     ·exact .inl (.inl hk)
     ·by_cases hii:id=i
      ·subst hii;obtain rfl:=Option.some.inj (hen.symm.trans he);exact .inl (.inr hb)
      ·simp at hi;rcases hi with rfl | hi
       ·exact absurd rfl hii
       ·exact .inr ⟨i,hi,e,by rw[qt hii];exact he,hb⟩
   rw[e]at h1 h2
   exact⟨m',h1,λn=>(k2 n).trans (h2 n),k3.trans h3⟩
theorem Qig {f:FuncId} {us vs:List V} {h:List O} {R:V->List O->Prop} (hu:Zh h us=some vs) (hk:ACall P f vs (Q03 h (us.flatMap V.ids2)) R):ACall P f us h R:=by
 intro J m w cargs hr hp;have hids:∀id∈us.flatMap V.ids2,∃e:Ent,m[id]?=some e/\1<=e.gen:=by
  intro id hid;rw[jr]at hid
  obtain⟨v,hv,hid⟩:=hid;obtain⟨i,hi⟩:=qq hv;obtain⟨c,_,hc⟩:=hp.get hi;exact Qk4 hc hid
 obtain⟨m',h1,h2,h3⟩:=Qp7 (us.flatMap V.ids2) hr hids;have hvs:Pw (RV (λk=>J k∨Uc m (us.flatMap V.ids2) k) m' w) vs cargs:=by
  have:∀(us' vs':List V) (cl:List Value),us'.mapM (frz h)=some vs'->Pw (RV J m w) us' cl->(∀x∈us',x∈us)->Pw (RV (λk=>J k∨Uc m (us.flatMap V.ids2) k) m' w) vs' cl:=by
   intro us'
   induction us' with
   | nil =>
     intro vs' cl q1 q2 _;simp at q1;subst q1;have:=q2.1;simp at this;obtain rfl:=ql this.symm;exact Pw.nil
   | cons v us' ih =>
     intro vs' cl q1 q2 q3;simp only[List.mapM_cons,Option.bind_eq_bind,qr,Option.pure_def,Option.some.injEq]at q1;obtain⟨u,hu,us'',hus,rfl⟩:=q1;cases cl with
     | nil=>have:=q2.1;simp at this
     | cons c cl =>
       refine Pw.cons ?_ (ih us'' cl hus q2.tail (λx hx=>q3 x (by simp[hx])));have h4:=frz_okI hr hu q2.head;refine Z7 (RA.mono (m:=[]) (m':=m') (w:=w) (w':=w) (λk hk=>?_) (λ_ _=>rfl) (Ml.nil _) h4);rcases hk with hk | ⟨id,hid,e,he⟩
       ·exact .inl hk
       ·exact .inr ⟨id,jr.2 ⟨v,q3 v (by simp),hid⟩,e,he⟩
  exact this us vs cargs hu hp (λx hx=>hx)
 refine (hk _ m' w cargs h1 hvs).mono λe w' hh=>?_
 obtain⟨v,r,h',J',m'',q1,q2,q3,q4,q5,q6⟩:=hh;exact⟨v,r,h',J',m'',q1,q2,q3,q4,λn=>(h2 n).trans (q5 n),h3.trans q6⟩
theorem Y8 {f:FuncId} {us vs:List V} {h:List O} {r:V} {k:V->List O->Prop} (hu:Zh h us=some vs) (hc:CallIs P f vs r) (hk:k r (Q03 h (us.flatMap V.ids2))):ACall P f us h k :=
 Qig hu ((hc _).mono λr' h' hh=>by rw[hh.1,hh.2];exact hk)
theorem Qld {f:FuncId} {vs:List V} {h:List O} (sz:Nat) {R:V->List O->Prop} (hc:ACall P f vs h (λr h'=>R r h'∨(r=.nil/\R (.own h'.length 1 0 0) (h'++[.arr 1 sz []])))):ACall P f vs h R:=by
 intro J m w cargs hr hp;refine (hc J m w cargs hr hp).mono λe w' hh=>?_
 obtain⟨v,r,h',J',m',q1,q2,q3,q4,q5,q6⟩:=hh;rcases q2 with q2 | ⟨rfl,q2⟩
 ·exact⟨v,r,h',J',m',q1,q2,q3,q4,q5,q6⟩
 ·obtain⟨g1,g2,g3⟩:=Us q4 sz;refine⟨v,_,_,J',_,q1,q2,?_,g1,λn=>(q5 n).trans (g2 n),q6.trans g3⟩;have h5:RD J' w' .nil v:=q3;refine⟨h5.one,⟨1,sz,none,0,0⟩,by rw[<- q4.len];exact Yr _ _,⟨Nat.le_refl _,Nat.le_refl _⟩,λ_=>⟨rfl,rfl,?_⟩⟩;cases h5 with
  | nil0=>exact .inl rfl
  | nil1 a=>exact .inr ⟨a,rfl⟩
end
theorem Qrs (h:List O):Q03 h []=h:=Rfl rfl
theorem Qmn (h:List O) (id:Nat) (ids:List Nat):Q03 h (id::ids)=Q03 (h.set id .dead) ids:=Rfl rfl
attribute [go_sem] Qrs Qmn V.ids2 V.ids1 V.ids0
end Go.Abs
namespace Go.Abs
open Go.RowKit Go.Sort
def ltC {α:Type} (cf:α->α->Int) (x y:α):Bool:=decide (cf x y<0)
def Ic (P:Program) (f:FuncId) (k:Nat):Prop :=
 ∀{α:Type} [Inhabited α] (en:α->List Int),(∀x,(en x).length=k)->∀(cf:α->α->Int),SWO (ltC cf)->∀g:FuncId,Qx P g=true ->
  (∀x y,CallIs P g [.a ((en x).map (.i .i64)),.a ((en y).map (.i .i64))] (.i .i64 (cf x y)))->∀xs:List α,xs.length<4611686018427387904 ->
  ∃ys:List α,ys.Perm xs/\ys.Pairwise (λx y=>ltC cf y x=false) /\
   ∀(h:List O) (id gen:Nat),h[id]?=some (.arr gen k (xs.map λx=>(en x).map (.i .i64))) ->
    ACall P f [.own id gen 0 xs.length,.f g []] h (λr h'=>r=.t []/\h'=h.set id (.arr gen k (ys.map λx=>(en x).map (.i .i64))))
def Zn (xs:List Int):List Int:=xs.mergeSort λx y=>decide (x<=y)
def Qhz (P:Program) (f:FuncId):Prop:=∀(h:List O) (id gen:Nat) (xs:List Int),xs.length<4611686018427387904->h[id]?=some (.arr gen 1 (xs.map λx=>[.i .i64 x])) ->
 ACall P f [.own id gen 0 xs.length] h (λr h'=>r=.t []/\h'=h.set id (.arr gen 1 ((Zn xs).map λx=>[.i .i64 x])))
end Go.Abs
namespace Go.Abs
open Go.RowKit
def Bv (h:List O):V->Option V
 | .own id g off len=>Ys h (.own id g off len)
 | v=>bif v.isD then some v else none
def Qh4 (h:List O):V->Option V
 | .own id g off len=>match h[id]? with
   | some (.arr g' sz els)=>if g=g'/\off+len<=els.length then (((els.drop off).take len).mapM λ(el:List V)=>List.mapM (Bv h) el).map (V.l sz) else none
   | _=>none
 | v=>frz h v
def Qvd (rs:List Rr) (σ:St):Option V :=
 (rs.mapM (X6 σ)).bind λvs=>(vs.mapM (Qh4 σ.h)).map Yx
def Qla (rs:List Rr) (R:V->Prop) (x:X) (σ:St):Prop :=
 match x with
 | .e _=>False
 | _=>∃r,Qvd rs σ=some r/\R r
section
variable {P:Program} {J:Nat->Prop} {m:List Ent} {w:World} {h:List O}
theorem frzD_ok (hr:RS J h m w) {v r:V} (hf:Bv h v=some r) {c:Value} (hv:RC J m w v c):RD (λk=>J k∨Kg m k) w r c:=by
 have hsub:∀k,J k->(λk=>J k∨Kg m k) k:=λk hk=>.inl hk
 cases v
 case own id g off len =>
  simp only[Bv]at hf;have h1:=Q80 hr hf hv;simp only[Ys]at hf;split at hf
  case h_2=>simp at hf
  split at hf
  case isFalse=>simp at hf
  obtain rfl:=Option.some.inj hf;exact h1
 all_goals
  simp only[Bv,V.isD,cond_true,cond_false,Option.some.injEq,reduceCtorEq]at hf
  try subst hf
  try exact(show RD J w _ c from hv).mono hsub (λ_ _=>rfl)
theorem Qh3 (hr:RS J h m w) {v r:V} (hf:Qh4 h v=some r) {c:Value} (hv:RV J m w v c):RA (λk=>J k∨Kg m k) [] w r c:=by
 cases v
 case own id g off len =>
  have hv:RC J m w (.own id g off len) c:=hv;simp only[Qh4]at hf;split at hf
  case h_2=>simp at hf
  rename_i g' sz els ho;split at hf
  case isFalse=>simp at hf
  rename_i hcond;obtain⟨rfl,hle⟩:=hcond;rw[qa]at hf
  obtain⟨els',hels',rfl⟩:=hf;have he:Zr sz h (.own id g off len)=some ((els.drop off).take len):=by simp[Zr,ho,hle]
  obtain⟨a,cap,hx,h1,h2,h3,h4⟩:=Jl hr (Qh hv) he;have hv':=K2 hr (Qh hv) ho;obtain⟨en,hen,_,_,hsl,_⟩:=hv';obtain⟨hlen,hget⟩:=W6 hels';subst hx;refine Qy ?_;cases a with
  | none =>
    obtain⟨h5,h6⟩:=h2 rfl;have:els'=[]:=ql (by rw[hlen];exact h5);subst h6;rw[this,h5];exact RD.l0 sz
  | some a =>
    obtain⟨cs,h5,h6⟩:=h4 a rfl;by_cases h0:((els.drop off).take len).length=0
    ·have:els'=[]:=ql (by rw[hlen];exact h0);rw[this];have h7:((els.drop off).take len)=[]:=ql h0;rw[h7];exact RD.l1 sz a cap
    ·have hb:Kg m a.block:=by
      unfold Ent.sl at hsl;cases hbk:en.blk with
      | none =>
        rw[hbk]at hsl
        obtain⟨_,_,q3⟩:=hsl;exfalso;rcases q3 with q3 | ⟨_,q3⟩<;>simp at q3
        rw[qv,List.length_drop]at h0
        omega
      | some B =>
        rw[hbk]at hsl
        obtain⟨o,cc,q3,_⟩:=hsl;simp only[Value.slice.injEq,Option.some.injEq]at q3;exact⟨id,en,hen,by rw[hbk,q3.1]⟩
     rw[<- hlen];refine RD.l sz els' a cap cs (.inr hb) (by rw[hlen];exact h1) (λi el hel=>?_) (λi j hi hj=>h5 i j (by rw[<- hlen];exact hi) hj) (λi el j v q1 q2=>?_)
     ·obtain⟨el0,q3,q4⟩:=hget i el hel;rw[(W6 q4).1];exact h3 i el0 q3
     ·obtain⟨el0,q3,q4⟩:=hget i el q1;obtain⟨x0,q5,q6⟩:=(W6 q4).2 j v q2;exact frzD_ok hr q6 (h6 i el0 j x0 q3 q5)
 all_goals
  simp only[Qh4]at hf;exact Qn3 hr hf hv
theorem Qjf (hmix:P.follows .mixedOrders=true) {f:FuncId} {fn:Func} {code:Code} {c:C} {rs:List Rr} (hf:P.funcs[f]?=some fn) (hb:fn.body=some code) (hc:Yu P fn.ntmps code=some c) (hrs:B1 P fn=some rs)
  {vs:List V} (hn:vs.length<=fn.ntmps) {R:V->Prop} (hbody:AS P 0 c ⟨Z9 0 vs,[]⟩ (λx σ'=>(match x with | .e _=>False | _=>True)/\∃r,Qvd rs σ'=some r/\R r)):PureC P f vs R:=by
 intro J m w cargs hr hp;have hm:m=[]:=ql (by rw[hr.len];rfl);subst hm;refine calls_of_wp hf hb ?_;have hcl:cargs.length<=fn.ntmps:=by rw[<- hp.1];exact hn
 have hrel:RelF fn.ntmps J [] (λt=>get t (Z9 0 vs)) [] { tmps:=cargs.toArray++Array.replicate (fn.ntmps-cargs.toArray.size) undef,defers:=[] } w:=by
  refine⟨λt=>?_,hr,rfl,by simp;omega⟩;simp only;rw[Yt,if_pos (Nat.zero_le _),Nat.sub_zero];cases hv:vs[t]? with
  | none=>trivial
  | some v =>
    obtain⟨cv,h1,h2⟩:=hp.get hv;have hlt:=(q8.1 h1).1;have:(cargs.toArray++Array.replicate (fn.ntmps-cargs.toArray.size) undef).getD t undef=cv:=by
     rw[Array.getD_eq_getD_getElem?,jw (by simpa using hlt)];simp[h1]
    rw[this];exact h2
 refine wp_mono (Qf9 hmix code c hc _ _ hbody J [] _ w hrel) ?_;rintro e a' w' ⟨x,σ',J',m',hx,⟨hx2,r,hres,hR⟩,hrel',hev⟩;have hret:a'.defers=[]/\∃v,(results fn a'.tmps).run P w'=.ok v w'/\∃v0 r h' J'' m'',Ending.returned v=.returned v0/\(R r/\h'=[])/\RV J'' m'' w' r v0/\RS J'' h' m'' w'/\(∀n,Ev n J [] w J'' m'' w')/\Ml [] m'':=by
  refine⟨hrel'.defers,?_⟩;simp only[Qvd,qr,qa]at hres;obtain⟨us,hus,fs,hfs,rfl⟩:=hres;obtain⟨cs,hcs,hrun⟩:=Wy hrel' hrs hus;refine⟨_,hrun,_,Yx fs,[],λk=>J' k∨Kg m' k,[],rfl,⟨hR,rfl⟩,?_,?_,λn=>?_,Ml.nil _⟩
  ·have hpa:Pw (RA (λk=>J' k∨Kg m' k) [] w') fs cs:=Iq (R:=RV J' m' w') (R':=RA (λk=>J' k∨Kg m' k) [] w') (λv r c q1 q2=>Qh3 hrel'.rs q1 q2) hfs hcs;have hl:=hpa.1
   match fs,cs,hl,hpa with
   | [],[],_,hpa=>exact⟨#[],rfl,Pw.nil⟩
   | [v],[c],_,hpa =>
     simp only[Yx];have:(if h:([c]:List Value).toArray.size=1 then ([c]:List Value).toArray[0] else Value.tuple [c].toArray)=c:=by simp
     rw[this];exact Z7 hpa.head
   | v1::v2::vr,c1::c2::cr,_,hpa =>
     simp only[Yx];rw[dif_neg (by simp)];exact⟨_,rfl,by simpa using hpa⟩
  ·refine⟨rfl,λk hk=>?_,by simp,by simp,by simp⟩;rcases hk with hk | ⟨id,e,h1,h2⟩
   ·exact hrel'.rs.jlt k hk
   ·exact(hrel'.rs.dis id e k h1 h2).2
  ·refine⟨hev.os,hev.tape,hev.output,hev.drawn,hev.size,hev.keep,by simp,λk hk=>.inl (hev.sub k hk),λk hk=>?_,by simp⟩;rcases hk with hk | ⟨id,e,h1,h2⟩
   ·exact hev.jnew k hk
   ·rcases hev.fresh id e k h1 h2 with h3 | h3
    ·exact .inr (.inl h3)
    ·exact .inr (.inr h3)
 cases e<;>cases x<;>simp only at hx<;>(try exact hx.elim)<;>(try exact hx2.elim)
 ·exact hret
 ·exact hret
theorem Q1x {P:Program} (hmix:P.follows .mixedOrders=true) {f:FuncId} {c:C} {rs:List Rr} {n:Nat} (hf:Q5 P f c rs n) {vs:List V} (hn:vs.length<=n) {R:V->Prop}
  (hb:AS P 0 c ⟨Z9 0 vs,[]⟩ (Qla rs R)):PureC P f vs R:=by
 obtain⟨fn,code,h1,h2,h3,h4,rfl⟩:=hf;refine Qjf hmix h1 h2 h3 h4 hn ?_;refine (congrArg (AS P 0 c ⟨Z9 0 vs,[]⟩) (funext λx=>funext λσ=>propext ?_)).mpr hb;cases x<;>simp[Qla]
@[congr] theorem DoneF_congr {rs:List Rr} {R:V->Prop} {x x':X} {σ σ':St} (hx:x=x') (hh:σ=σ'):Qla rs R x σ=Qla rs R x' σ':=by rw[hx,hh]
theorem Q2z (rs:List Rr) (R:V->Prop) {σ:St}:Qla rs R .r σ=∃r,Qvd rs σ=some r/\R r:=Rfl rfl
attribute [go_sem]  Q2z  Qvd Qh4 Bv
end
end Go.Abs
namespace Go.Abs
open Go.RowKit
def Qy0 (h:List O):V->Option V
 | .own id g off len=>Qh4 h (.own id g off len)
 | v=>Ys h v
def Qxz (h:List O):V->Option V
 | .a cs=>(cs.mapM (Qy0 h)).map .a
 | v=>Qh4 h v
def Qvc (rs:List Rr) (σ:St):Option V :=
 (rs.mapM (X6 σ)).bind λvs=>(vs.mapM (Qxz σ.h)).map Yx
def Ql9 (rs:List Rr) (R:V->Prop) (x:X) (σ:St):Prop :=
 match x with
 | .e _=>False
 | _=>∃r,Qvc rs σ=some r/\R r
section
variable {P:Program} {J:Nat->Prop} {m:List Ent} {w:World} {h:List O}
theorem frzM_ok (hr:RS J h m w) {v r:V} (hf:Qy0 h v=some r) {c:Value} (hv:RC J m w v c):RC (λk=>J k∨Kg m k) [] w r c:=by
 cases v
 case own id g off len =>
  have h1:=Qh3 hr (show Qh4 h (.own id g off len)=some r from hf) (Qh hv);simp only[Qy0,Qh4]at hf;split at hf
  case h_2=>simp at hf
  split at hf
  case isFalse=>simp at hf
  rw[qa]at hf
  obtain⟨els',_,rfl⟩:=hf;exact h1
 all_goals
  simp only[Qy0]at hf;exact Q80 hr hf hv
theorem frzP_ok (hr:RS J h m w) {v r:V} (hf:Qxz h v=some r) {c:Value} (hv:RV J m w v c):RA (λk=>J k∨Kg m k) [] w r c:=by
 cases v
 case a cs =>
  simp only[Qxz,qa]at hf;obtain⟨rs,hrs,rfl⟩:=hf;obtain⟨arr,rfl,hp⟩:=hv;exact⟨arr,rfl,Iq (R':=RC (λk=>J k∨Kg m k) [] w) (λv r c q1 q2=>frzM_ok hr q1 q2) hrs hp⟩
 all_goals
  simp only[Qxz]at hf;exact Qh3 hr hf hv
theorem Qje (hmix:P.follows .mixedOrders=true) {f:FuncId} {fn:Func} {code:Code} {c:C} {rs:List Rr} (hf:P.funcs[f]?=some fn) (hb:fn.body=some code) (hc:Yu P fn.ntmps code=some c) (hrs:B1 P fn=some rs)
  {vs:List V} (hn:vs.length<=fn.ntmps) {R:V->Prop} (hbody:AS P 0 c ⟨Z9 0 vs,[]⟩ (λx σ'=>(match x with | .e _=>False | _=>True)/\∃r,Qvc rs σ'=some r/\R r)):PureC P f vs R:=by
 intro J m w cargs hr hp;have hm:m=[]:=ql (by rw[hr.len];rfl);subst hm;refine calls_of_wp hf hb ?_;have hcl:cargs.length<=fn.ntmps:=by rw[<- hp.1];exact hn
 have hrel:RelF fn.ntmps J [] (λt=>get t (Z9 0 vs)) [] { tmps:=cargs.toArray++Array.replicate (fn.ntmps-cargs.toArray.size) undef,defers:=[] } w:=by
  refine⟨λt=>?_,hr,rfl,by simp;omega⟩;simp only;rw[Yt,if_pos (Nat.zero_le _),Nat.sub_zero];cases hv:vs[t]? with
  | none=>trivial
  | some v =>
    obtain⟨cv,h1,h2⟩:=hp.get hv;have hlt:=(q8.1 h1).1;have:(cargs.toArray++Array.replicate (fn.ntmps-cargs.toArray.size) undef).getD t undef=cv:=by
     rw[Array.getD_eq_getD_getElem?,jw (by simpa using hlt)];simp[h1]
    rw[this];exact h2
 refine wp_mono (Qf9 hmix code c hc _ _ hbody J [] _ w hrel) ?_;rintro e a' w' ⟨x,σ',J',m',hx,⟨hx2,r,hres,hR⟩,hrel',hev⟩;have hret:a'.defers=[]/\∃v,(results fn a'.tmps).run P w'=.ok v w'/\∃v0 r h' J'' m'',Ending.returned v=.returned v0/\(R r/\h'=[])/\RV J'' m'' w' r v0/\RS J'' h' m'' w'/\(∀n,Ev n J [] w J'' m'' w')/\Ml [] m'':=by
  refine⟨hrel'.defers,?_⟩;simp only[Qvc,qr,qa]at hres;obtain⟨us,hus,fs,hfs,rfl⟩:=hres;obtain⟨cs,hcs,hrun⟩:=Wy hrel' hrs hus;refine⟨_,hrun,_,Yx fs,[],λk=>J' k∨Kg m' k,[],rfl,⟨hR,rfl⟩,?_,?_,λn=>?_,Ml.nil _⟩
  ·have hpa:Pw (RA (λk=>J' k∨Kg m' k) [] w') fs cs:=Iq (R:=RV J' m' w') (R':=RA (λk=>J' k∨Kg m' k) [] w') (λv r c q1 q2=>frzP_ok hrel'.rs q1 q2) hfs hcs;have hl:=hpa.1
   match fs,cs,hl,hpa with
   | [],[],_,hpa=>exact⟨#[],rfl,Pw.nil⟩
   | [v],[c],_,hpa =>
     simp only[Yx];have:(if h:([c]:List Value).toArray.size=1 then ([c]:List Value).toArray[0] else Value.tuple [c].toArray)=c:=by simp
     rw[this];exact Z7 hpa.head
   | v1::v2::vr,c1::c2::cr,_,hpa =>
     simp only[Yx];rw[dif_neg (by simp)];exact⟨_,rfl,by simpa using hpa⟩
  ·refine⟨rfl,λk hk=>?_,by simp,by simp,by simp⟩;rcases hk with hk | ⟨id,e,h1,h2⟩
   ·exact hrel'.rs.jlt k hk
   ·exact(hrel'.rs.dis id e k h1 h2).2
  ·refine⟨hev.os,hev.tape,hev.output,hev.drawn,hev.size,hev.keep,by simp,λk hk=>.inl (hev.sub k hk),λk hk=>?_,by simp⟩;rcases hk with hk | ⟨id,e,h1,h2⟩
   ·exact hev.jnew k hk
   ·rcases hev.fresh id e k h1 h2 with h3 | h3
    ·exact .inr (.inl h3)
    ·exact .inr (.inr h3)
 cases e<;>cases x<;>simp only at hx<;>(try exact hx.elim)<;>(try exact hx2.elim)
 ·exact hret
 ·exact hret
theorem Qvh {P:Program} (hmix:P.follows .mixedOrders=true) {f:FuncId} {c:C} {rs:List Rr} {n:Nat} (hf:Q5 P f c rs n) {vs:List V} (hn:vs.length<=n) {R:V->Prop}
  (hb:AS P 0 c ⟨Z9 0 vs,[]⟩ (Ql9 rs R)):PureC P f vs R:=by
 obtain⟨fn,code,h1,h2,h3,h4,rfl⟩:=hf;refine Qje hmix h1 h2 h3 h4 hn ?_;refine (congrArg (AS P 0 c ⟨Z9 0 vs,[]⟩) (funext λx=>funext λσ=>propext ?_)).mpr hb;cases x<;>simp[Ql9]
@[congr] theorem DoneP_congr {rs:List Rr} {R:V->Prop} {x x':X} {σ σ':St} (hx:x=x') (hh:σ=σ'):Ql9 rs R x σ=Ql9 rs R x' σ':=by rw[hx,hh]
theorem DoneP_r (rs:List Rr) (R:V->Prop) {σ:St}:Ql9 rs R .r σ=∃r,Qvc rs σ=some r/\R r:=Rfl rfl
attribute [go_sem]  DoneP_r  Qvc Qxz Qy0
end
end Go.Abs
namespace Go.Abs
open Go.Lib
theorem Q5k (xs:List Int) (hs:xs.Pairwise λx y=>x<=y):∀m,m<=xs.length->(compactUpTo xs.toArray m).Pairwise (λx y=>x<y)/\(∀x∈compactUpTo xs.toArray m,∃j,j<m/\x=xs.toArray[j]!) /\
  (∀j,j<m->xs.toArray[j]! ∈ compactUpTo xs.toArray m)/\(compactUpTo xs.toArray m).length<=m
 | 0,_=>⟨by simp[compactUpTo],by simp[compactUpTo],by omega,by simp[compactUpTo]⟩
 | m+1,hm=>by
   obtain⟨h1,h2,h3,h4⟩:=Q5k xs hs m (by omega);have hget:∀j (h:j<xs.length),xs.toArray[j]! = xs[j]:=λj h=>by
    rw[getElem!_pos _ _ (by simpa using h)];simp
   have hmono:∀i j,i<=j->j<xs.length->xs.toArray[i]! <= xs.toArray[j]!:=λi j hij hj=>by
    rw[hget i (by omega),hget j hj];by_cases he:i=j
    ·subst he;exact Int.le_refl _
    ·exact j8.1 hs i j (by omega) hj (by omega)
   rw[compactUpTo_succ];by_cases hk:keeps xs.toArray m=true
   ·rw[if_pos hk];have hlt:∀x∈compactUpTo xs.toArray m,x<xs.toArray[m]!:=λx hx=>by
     obtain⟨j,hj,rfl⟩:=h2 x hx;have hne:xs.toArray[m]! ≠ xs.toArray[m-1]!:=by
      unfold keeps at hk;simp only[decide_eq_true_eq]at hk;rcases hk with hk | hk
      ·omega
      ·exact hk
     have a1:=hmono j (m-1) (by omega) (by omega);have a2:=hmono (m-1) m (by omega) (by omega);omega
    refine⟨?_,λx hx=>?_,λj hj=>?_,by simp;omega⟩
    ·rw[jg];exact⟨h1,by simp,λx hx y hy=>by rw[qn.1 hy];exact hlt x hx⟩
    ·rcases qg.1 hx with hx | hx
     ·obtain⟨j,hj,e⟩:=h2 x hx;exact⟨j,by omega,e⟩
     ·exact⟨m,by omega,qn.1 hx⟩
    ·by_cases he:j=m
     ·subst he;simp
     ·exact qg.2 (.inl (h3 j (by omega)))
   ·rw[if_neg hk,List.append_nil];have he:m≠0/\xs.toArray[m]! = xs.toArray[m-1]!:=by
     unfold keeps at hk;simp only[decide_eq_true_eq,not_or,Decidable.not_not]at hk;exact hk
    refine⟨h1,λx hx=>?_,λj hj=>?_,by omega⟩
    ·obtain⟨j,hj,e⟩:=h2 x hx;exact⟨j,by omega,e⟩
    ·by_cases hj2:j=m
     ·subst hj2;rw[he.2];exact h3 (j-1) (by omega)
     ·exact h3 j (by omega)
theorem Qkm {xs:List Int} (hs:xs.Pairwise λx y=>x<=y):(compact xs).Pairwise (λx y=>x<y)/\(∀x,x∈compact xs↔x∈xs)/\(compact xs).length<=xs.length:=by
 obtain⟨h1,h2,h3,h4⟩:=Q5k xs hs xs.length (Nat.le_refl _);have hget:∀j (h:j<xs.length),xs.toArray[j]! = xs[j]:=λj h=>by
  rw[getElem!_pos _ _ (by simpa using h)];simp
 refine⟨h1,λx=>⟨λhx=>?_,λhx=>?_⟩,h4⟩
 ·obtain⟨j,hj,rfl⟩:=h2 x hx;rw[hget j hj];exact List.getElem_mem hj
 ·obtain⟨j,hj,rfl⟩:=List.mem_iff_getElem.1 hx;have:=h3 j hj
  rwa [hget j hj]at this
end Go.Abs
