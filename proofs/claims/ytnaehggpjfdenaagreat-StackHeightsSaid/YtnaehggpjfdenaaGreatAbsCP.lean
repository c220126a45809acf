/- Part of the library on which the proof stands: an abstract machine, its values and its soundness against the model; or what functions of the program do to such values. -/
import Derived.Test.YtnaehggpjfdenaaGreatAbsZ
import Derived.Sort.Statements
import Derived.Lib.SlicesCompact
set_option linter.unusedVariables false
set_option linter.unusedSimpArgs false
namespace Go.Abs
open Go.RowKit
def Kc (m:List Ent) (ids:List Nat) (k:Nat):Prop:=∃id,id∈ids/\∃e:Ent,m[id]?=some e/\e.blk=some k
def Q3v (h:List O) (ids:List Nat):List O:=ids.foldl (λh id=>h.set id .dead) h
section
variable {P:Program} {J:Nat->Prop} {m:List Ent} {w:World} {h:List O}
theorem Y1 (hr:RS J h m w) {v r:V} (hf:X6 h v=some r) {c:Value} (hv:RC J m w v c):RC (λk=>J k∨Kc m v.ids0 k) [] w r c:=by
 have hsub:∀k,J k->(λk=>J k∨Kc m v.ids0 k) k:=λk hk=>.inl hk
 cases v<;>simp only[X6]at hf<;>try (simp at hf;done)
 case own id g off len =>
  split at hf
  case h_2=>simp at hf
  rename_i g' sz els ho
  split at hf
  case isFalse=>simp at hf
  rename_i hcond
  obtain⟨rfl,hle,hd⟩:=hcond
  obtain rfl:=Option.some.inj hf
  have he:Zi sz h (.own id g off len)=some ((els.drop off).take len):=by simp[Zi,ho,hle]
  obtain⟨a,cap,hx,h1,h2,h3,h4⟩:=Xd hr (Qe hv) he
  have hv':=Xo hr (Qe hv) ho
  obtain⟨en,hen,_,_,hsl,_⟩:=hv'
  subst hx
  cases a with
  | none =>
    obtain⟨h5,h6⟩:=h2 rfl
    have:(els.drop off).take len=[]:=ql h5
    rw[this];subst h6
    exact RD.l0 sz
  | some a =>
    obtain⟨cs,h5,h6⟩:=h4 a rfl
    have hdd:∀(i:Nat) (el:List V) (j:Nat) (x:V),((els.drop off).take len)[i]?=some el->el[j]?=some x->x.isD=true:=by
     intro i el j x q1 q2
     have q3:=qj.1 hd el (qb q1)
     exact qj.1 q3 x (qb q2)
    by_cases h0:((els.drop off).take len).length=0
    ·have:(els.drop off).take len=[]:=ql h0
     rw[this]
     exact RD.l1 sz a cap
    ·have hb:Kc m [id] a.block:=by
      unfold Ent.sl at hsl
      cases hbk:en.blk with
      | none =>
        rw[hbk]at hsl
        obtain⟨_,_,q3⟩:=hsl
        exfalso
        rcases q3 with q3 | ⟨_,q3⟩<;>simp at q3
        rw[qv,List.length_drop]at h0
        omega
      | some B =>
        rw[hbk]at hsl
        obtain⟨o,cc,q3,_⟩:=hsl
        simp only[Value.slice.injEq,Option.some.injEq]at q3
        exact⟨id,by simp,en,hen,by rw[hbk,q3.1]⟩
     exact RD.l sz _ a cap cs (.inr hb) h1 h3 h5 (λi el j v q1 q2=>(Wo (hdd i el j v q1 q2) (h6 i el j v q1 q2)).mono (λk hk=>.inl hk) (λ_ _=>rfl))
 all_goals
  obtain rfl:=Option.some.inj hf
  first
  | exact hv
  | exact(show RD J w _ c from hv).mono (λk hk=>.inl hk) (λ_ _=>rfl)
theorem frz_okI (hr:RS J h m w) {v r:V} (hf:frz h v=some r) {c:Value} (hv:RV J m w v c):RA (λk=>J k∨Kc m v.ids2 k) [] w r c:=by
 cases v
 case a cs =>
  simp only[frz,qa]at hf
  obtain⟨rs,hrs,rfl⟩:=hf
  obtain⟨arr,rfl,hp⟩:=hv
  refine⟨arr,rfl,?_⟩
  have:∀(vs rs:List V) (cl:List Value),vs.mapM (X6 h)=some rs->Pw (RC J m w) vs cl->(∀x∈vs,x∈cs)->Pw (RC (λk=>J k∨Kc m (V.a cs).ids2 k) [] w) rs cl:=by
   intro vs
   induction vs with
   | nil =>
     intro rs cl h1 h2 _
     simp at h1;subst h1
     have:=h2.1
     simp at this
     obtain rfl:=ql this.symm
     exact Pw.nil
   | cons v vs ih =>
     intro rs cl h1 h2 h3
     simp only[List.mapM_cons,Option.bind_eq_bind,qr,Option.pure_def,Option.some.injEq]at h1
     obtain⟨u,hu,us,hus,rfl⟩:=h1
     cases cl with
     | nil=>have:=h2.1;simp at this
     | cons c cl =>
       refine Pw.cons ?_ (ih us cl hus h2.tail (λx hx=>h3 x (by simp[hx])))
       have h4:=Y1 hr hu h2.head
       refine RC.mono (m:=[]) (m':=[]) (w:=w) (w':=w) (λk hk=>?_) (λ_ _=>rfl) (Ml.refl _) h4
       rcases hk with hk | ⟨id,hid,e,he⟩
       ·exact .inl hk
       ·refine .inr ⟨id,?_,e,he⟩
        show id∈(cs.flatMap V.ids1)
        rw[jk]
        refine⟨v,h3 v (by simp),?_⟩
        cases v<;>first | exact hid | (simp[V.ids0]at hid;done)
  exact this cs rs arr.toList hrs hp (λx hx=>hx)
 case t=>simp[frz,X6]at hf
 case any =>
  have hf':X6 h .any=some r:=hf
  simp only[X6,Option.some.injEq]at hf'
  subst hf'
  trivial
 case f=>simp[frz,X6]at hf
 case b x=>exact Qv (Y1 (v:=.b x) hr hf hv)
 case i k n=>exact Qv (Y1 (v:=.i k n) hr hf hv)
 case s x=>exact Qv (Y1 (v:=.s x) hr hf hv)
 case nil=>exact Qv (Y1 (v:=.nil) hr hf hv)
 case l sz els=>exact Qv (Y1 (v:=.l sz els) hr hf hv)
 case own id g off len=>exact Qv (Y1 (v:=.own id g off len) hr hf hv)
 case p id g e j=>exact Qv (Y1 (v:=.p id g e j) hr hf hv)
 case ip cs=>exact Qv (Y1 (v:=.ip cs) hr hf hv)
 case np=>exact Qv (Y1 (v:=.np) hr hf hv)
 case mp id=>exact Qv (Y1 (v:=.mp id) hr hf hv)
 case mnil=>exact Qv (Y1 (v:=.mnil) hr hf hv)
theorem Ml.trans {m m1 m2:List Ent} (h1:Ml m m1) (h2:Ml m1 m2):Ml m m2:=by
 intro id e he
 obtain⟨e1,h3,h4,h5⟩:=h1 id e he
 obtain⟨e2,h6,h7,h8⟩:=h2 id e1 h3
 refine⟨e2,h6,Nat.le_trans h4 h7,λhh=>?_⟩
 have:e1=e:=h5 (by omega)
 subst this
 exact h8 hh
theorem kill1 (hr:RS J h m w) {id:Nat} {en:Ent} (hen:m[id]?=some en) (hg:1<=en.gen) :
  RS (λk=>J k∨en.blk=some k) (h.set id .dead) (m.set id ⟨en.gen+1,en.sz,none,0,0⟩) w/\(∀n,Ev n J m w (λk=>J k∨en.blk=some k) (m.set id ⟨en.gen+1,en.sz,none,0,0⟩) w)/\Ml m (m.set id ⟨en.gen+1,en.sz,none,0,0⟩):=by
 have hidm:id<m.length:=(q8.1 hen).1
 generalize he':(⟨en.gen+1,en.sz,none,0,0⟩:Ent)=e'
 have g1:en.gen<=e'.gen:=by rw[<- he'];simp
 have g2:en.gen=e'.gen∨en.gen=0->e'=en:=by
  intro hh
  have h1':e'.gen=en.gen+1:=by rw[<- he']
  omega
 have hb':e'.blk=none:=by rw[<- he']
 have hrs1:RS J (h.set id .dead) (m.set id e') w:=RS.upd hr e' .dead hen g1 g2 (λB' hB'=>by rw[hb']at hB';simp at hB') (λ_ _ _=>rfl) (Nat.le_refl _) trivial
 have hne:∀(i:Nat) (x:Ent) (B:Nat),(m.set id e')[i]?=some x->x.blk=some B->en.blk≠some B:=by
  intro i x B hx hxB hB
  by_cases hi:id=i
  ·subst hi
   rw[qm hidm]at hx
   obtain rfl:=Option.some.inj hx
   rw[hb']at hxB;simp at hxB
  ·rw[qt hi]at hx
   exact hi (hr.inj i id x en B hx hen hxB hB).symm
 refine⟨?_,λq=>?_,Ml.set hen g1 g2⟩
 ·refine⟨hrs1.len,λk hk=>?_,λi x B' hx hB'=>⟨?_,(hrs1.dis i x B' hx hB').2⟩,hrs1.inj,λi x o hx hO=>RO.mono (λ_ h=>.inl h) (λ_ _=>rfl) (Ml.refl _) (λ_ _=>rfl) (hrs1.obj i x o hx hO)⟩
  ·rcases hk with hk | hk
   ·exact hr.jlt k hk
   ·exact(hr.dis id en k hen hk).2
  ·rintro (hj | hj)
   ·exact(hrs1.dis i x B' hx hB').1 hj
   ·exact hne i x B' hx hB' hj
 ·refine⟨rfl,rfl,rfl,Nat.le_refl _,Nat.le_refl _,λ_ _ _=>rfl,λi x B' hx hB'=>?_,λ_ h=>.inl h,λk hk=>?_,λi x _ hx=>Ml.set hen g1 g2 i x hx⟩
  ·by_cases hi:id=i
   ·subst hi
    rw[qm hidm]at hx
    obtain rfl:=Option.some.inj hx
    rw[hb']at hB';simp at hB'
   ·rw[qt hi]at hx
    exact .inr ⟨i,x,hx,hB'⟩
  ·rcases hk with hk | hk
   ·exact .inl hk
   ·exact .inr (.inr ⟨id,en,hen,hk⟩)
theorem Qg0:∀(ids:List Nat) {J:Nat->Prop} {h:List O} {m:List Ent},RS J h m w->(∀id∈ids,∃e:Ent,m[id]?=some e/\1<=e.gen) ->
  ∃m',RS (λk=>J k∨Kc m ids k) (Q3v h ids) m' w/\(∀n,Ev n J m w (λk=>J k∨Kc m ids k) m' w)/\Ml m m'
 | [],J,h,m,hr,_=>by
   have e:(λk=>J k∨Kc m [] k)=J:=by
    funext k;simp[Kc]
   rw[e]
   exact⟨m,hr,λn=>Ev.refl n J m w,Ml.refl m⟩
 | id::ids,J,h,m,hr,hids=>by
   obtain⟨en,hen,hg⟩:=hids id (by simp)
   have hidm:id<m.length:=(q8.1 hen).1
   obtain⟨k1,k2,k3⟩:=kill1 hr hen hg
   obtain⟨m',h1,h2,h3⟩:=Qg0 ids k1 (λi hi=>by
    by_cases hii:id=i
    ·subst hii
     exact⟨_,qm hidm,by simp⟩
    ·obtain⟨e,he,hge⟩:=hids i (by simp[hi])
     exact⟨e,by rw[qt hii];exact he,hge⟩)
   have e:(λk=>(J k∨en.blk=some k)∨Kc (m.set id ⟨en.gen+1,en.sz,none,0,0⟩) ids k)=(λk=>J k∨Kc m (id::ids) k):=by
    funext k
    apply propext
    constructor
    ·rintro ((hk | hk) | ⟨i,hi,e,he,hb⟩)
     ·exact .inl hk
     ·exact .inr ⟨id,by simp,en,hen,hk⟩
     ·by_cases hii:id=i
      ·subst hii
       rw[qm hidm]at he
       obtain rfl:=Option.some.inj he
       simp at hb
      ·rw[qt hii]at he
       exact .inr ⟨i,by simp[hi],e,he,hb⟩
    ·rintro (hk | ⟨i,hi,e,he,hb⟩)
     ·exact .inl (.inl hk)
     ·by_cases hii:id=i
      ·subst hii
       obtain rfl:=Option.some.inj (hen.symm.trans he)
       exact .inl (.inr hb)
      ·simp at hi
       rcases hi with rfl | hi
       ·exact absurd rfl hii
       ·exact .inr ⟨i,hi,e,by rw[qt hii];exact he,hb⟩
   rw[e]at h1 h2
   exact⟨m',h1,λn=>(k2 n).trans (h2 n),k3.trans h3⟩
theorem Q9r {f:FuncId} {us vs:List V} {h:List O} {R:V->List O->Prop} (hu:X5 h us=some vs) (hk:ACall P f vs (Q3v h (us.flatMap V.ids2)) R):ACall P f us h R:=by
 intro J m w cargs hr hp
 have hids:∀id∈us.flatMap V.ids2,∃e:Ent,m[id]?=some e/\1<=e.gen:=by
  intro id hid
  rw[jk]at hid
  obtain⟨v,hv,hid⟩:=hid
  obtain⟨i,hi⟩:=qq hv
  obtain⟨c,_,hc⟩:=hp.get hi
  exact Qbd hc hid
 obtain⟨m',h1,h2,h3⟩:=Qg0 (us.flatMap V.ids2) hr hids
 have hvs:Pw (RV (λk=>J k∨Kc m (us.flatMap V.ids2) k) m' w) vs cargs:=by
  have:∀(us' vs':List V) (cl:List Value),us'.mapM (frz h)=some vs'->Pw (RV J m w) us' cl->(∀x∈us',x∈us)->Pw (RV (λk=>J k∨Kc m (us.flatMap V.ids2) k) m' w) vs' cl:=by
   intro us'
   induction us' with
   | nil =>
     intro vs' cl q1 q2 _
     simp at q1;subst q1
     have:=q2.1
     simp at this
     obtain rfl:=ql this.symm
     exact Pw.nil
   | cons v us' ih =>
     intro vs' cl q1 q2 q3
     simp only[List.mapM_cons,Option.bind_eq_bind,qr,Option.pure_def,Option.some.injEq]at q1
     obtain⟨u,hu,us'',hus,rfl⟩:=q1
     cases cl with
     | nil=>have:=q2.1;simp at this
     | cons c cl =>
       refine Pw.cons ?_ (ih us'' cl hus q2.tail (λx hx=>q3 x (by simp[hx])))
       have h4:=frz_okI hr hu q2.head
       refine Z5 (RA.mono (m:=[]) (m':=m') (w:=w) (w':=w) (λk hk=>?_) (λ_ _=>rfl) (Ml.nil _) h4)
       rcases hk with hk | ⟨id,hid,e,he⟩
       ·exact .inl hk
       ·exact .inr ⟨id,jk.2 ⟨v,q3 v (by simp),hid⟩,e,he⟩
  exact this us vs cargs hu hp (λx hx=>hx)
 refine (hk _ m' w cargs h1 hvs).mono λe w' hh=>?_
 obtain⟨v,r,h',J',m'',q1,q2,q3,q4,q5,q6⟩:=hh
 exact⟨v,r,h',J',m'',q1,q2,q3,q4,λn=>(h2 n).trans (q5 n),h3.trans q6⟩
theorem Ya {f:FuncId} {us vs:List V} {h:List O} {r:V} {k:V->List O->Prop} (hu:X5 h us=some vs) (hc:CallIs P f vs r) (hk:k r (Q3v h (us.flatMap V.ids2))):ACall P f us h k :=
 Q9r hu ((hc _).mono λr' h' hh=>by rw[hh.1,hh.2];exact hk)
theorem Qck {f:FuncId} {vs:List V} {h:List O} (sz:Nat) {R:V->List O->Prop} (hc:ACall P f vs h (λr h'=>R r h'∨(r=.nil/\R (.own h'.length 1 0 0) (h'++[.arr 1 sz []])))):ACall P f vs h R:=by
 intro J m w cargs hr hp
 refine (hc J m w cargs hr hp).mono λe w' hh=>?_
 obtain⟨v,r,h',J',m',q1,q2,q3,q4,q5,q6⟩:=hh
 rcases q2 with q2 | ⟨rfl,q2⟩
 ·exact⟨v,r,h',J',m',q1,q2,q3,q4,q5,q6⟩
 ·obtain⟨g1,g2,g3⟩:=Ko q4 sz
  refine⟨v,_,_,J',_,q1,q2,?_,g1,λn=>(q5 n).trans (g2 n),q6.trans g3⟩
  have h5:RD J' w' .nil v:=q3
  refine⟨h5.one,⟨1,sz,none,0,0⟩,by rw[<- q4.len];exact Y3 _ _,⟨Nat.le_refl _,Nat.le_refl _⟩,λ_=>⟨rfl,rfl,?_⟩⟩
  cases h5 with
  | nil0=>exact .inl rfl
  | nil1 a=>exact .inr ⟨a,rfl⟩
end
theorem Qih (h:List O):Q3v h []=h:=Rfl rfl
theorem Qdu (h:List O) (id:Nat) (ids:List Nat):Q3v h (id::ids)=Q3v (h.set id .dead) ids:=Rfl rfl
attribute [go_sem] Qih Qdu V.ids2 V.ids1 V.ids0
end Go.Abs
namespace Go.Abs
open Go.RowKit Go.Sort
def ltC {α:Type} (cf:α->α->Int) (x y:α):Bool:=decide (cf x y<0)
def Wn (P:Program) (f:FuncId) (k:Nat):Prop :=
 ∀{α:Type} [Inhabited α] (en:α->List Int),(∀x,(en x).length=k)->∀(cf:α->α->Int),SWO (ltC cf)->∀g:FuncId,Qq P g=true ->
  (∀x y,CallIs P g [.a ((en x).map (.i .i64)),.a ((en y).map (.i .i64))] (.i .i64 (cf x y)))->∀xs:List α,xs.length<4611686018427387904 ->
  ∃ys:List α,ys.Perm xs/\ys.Pairwise (λx y=>ltC cf y x=false) /\
   ∀(h:List O) (id gen:Nat),h[id]?=some (.arr gen k (xs.map λx=>(en x).map (.i .i64))) ->
    ACall P f [.own id gen 0 xs.length,.f g []] h (λr h'=>r=.t []/\h'=h.set id (.arr gen k (ys.map λx=>(en x).map (.i .i64))))
def Zq (xs:List Int):List Int:=xs.mergeSort λx y=>decide (x<=y)
def Q97 (P:Program) (f:FuncId):Prop:=∀(h:List O) (id gen:Nat) (xs:List Int),xs.length<4611686018427387904->h[id]?=some (.arr gen 1 (xs.map λx=>[.i .i64 x])) ->
 ACall P f [.own id gen 0 xs.length] h (λr h'=>r=.t []/\h'=h.set id (.arr gen 1 ((Zq xs).map λx=>[.i .i64 x])))
end Go.Abs
namespace Go.Abs
open Go.RowKit
def Uj (h:List O):V->Option V
 | .own id g off len=>X6 h (.own id g off len)
 | v=>bif v.isD then some v else none
def Q8e (h:List O):V->Option V
 | .own id g off len=>match h[id]? with
   | some (.arr g' sz els)=>if g=g'/\off+len<=els.length then (((els.drop off).take len).mapM λ(el:List V)=>List.mapM (Uj h) el).map (V.l sz) else none
   | _=>none
 | v=>frz h v
def Qlh (rs:List Rr) (σ:St):Option V :=
 (rs.mapM (Yj σ)).bind λvs=>(vs.mapM (Q8e σ.h)).map Y6
def Qch (rs:List Rr) (R:V->Prop) (x:X) (σ:St):Prop :=
 match x with
 | .e _=>False
 | _=>∃r,Qlh rs σ=some r/\R r
section
variable {P:Program} {J:Nat->Prop} {m:List Ent} {w:World} {h:List O}
theorem frzD_ok (hr:RS J h m w) {v r:V} (hf:Uj h v=some r) {c:Value} (hv:RC J m w v c):RD (λk=>J k∨Jx m k) w r c:=by
 have hsub:∀k,J k->(λk=>J k∨Jx m k) k:=λk hk=>.inl hk
 cases v
 case own id g off len =>
  simp only[Uj]at hf
  have h1:=Q2c hr hf hv
  simp only[X6]at hf
  split at hf
  case h_2=>simp at hf
  split at hf
  case isFalse=>simp at hf
  obtain rfl:=Option.some.inj hf
  exact h1
 all_goals
  simp only[Uj,V.isD,cond_true,cond_false,Option.some.injEq,reduceCtorEq]at hf
  try subst hf
  try exact(show RD J w _ c from hv).mono hsub (λ_ _=>rfl)
theorem Q8d (hr:RS J h m w) {v r:V} (hf:Q8e h v=some r) {c:Value} (hv:RV J m w v c):RA (λk=>J k∨Jx m k) [] w r c:=by
 cases v
 case own id g off len =>
  have hv:RC J m w (.own id g off len) c:=hv
  simp only[Q8e]at hf
  split at hf
  case h_2=>simp at hf
  rename_i g' sz els ho
  split at hf
  case isFalse=>simp at hf
  rename_i hcond
  obtain⟨rfl,hle⟩:=hcond
  rw[qa]at hf
  obtain⟨els',hels',rfl⟩:=hf
  have he:Zi sz h (.own id g off len)=some ((els.drop off).take len):=by simp[Zi,ho,hle]
  obtain⟨a,cap,hx,h1,h2,h3,h4⟩:=Xd hr (Qe hv) he
  have hv':=Xo hr (Qe hv) ho
  obtain⟨en,hen,_,_,hsl,_⟩:=hv'
  obtain⟨hlen,hget⟩:=Je hels'
  subst hx
  refine Qv ?_
  cases a with
  | none =>
    obtain⟨h5,h6⟩:=h2 rfl
    have:els'=[]:=ql (by rw[hlen];exact h5)
    subst h6
    rw[this,h5]
    exact RD.l0 sz
  | some a =>
    obtain⟨cs,h5,h6⟩:=h4 a rfl
    by_cases h0:((els.drop off).take len).length=0
    ·have:els'=[]:=ql (by rw[hlen];exact h0)
     rw[this]
     have h7:((els.drop off).take len)=[]:=ql h0
     rw[h7]
     exact RD.l1 sz a cap
    ·have hb:Jx m a.block:=by
      unfold Ent.sl at hsl
      cases hbk:en.blk with
      | none =>
        rw[hbk]at hsl
        obtain⟨_,_,q3⟩:=hsl
        exfalso
        rcases q3 with q3 | ⟨_,q3⟩<;>simp at q3
        rw[qv,List.length_drop]at h0
        omega
      | some B =>
        rw[hbk]at hsl
        obtain⟨o,cc,q3,_⟩:=hsl
        simp only[Value.slice.injEq,Option.some.injEq]at q3
        exact⟨id,en,hen,by rw[hbk,q3.1]⟩
     rw[<- hlen]
     refine RD.l sz els' a cap cs (.inr hb) (by rw[hlen];exact h1) (λi el hel=>?_) (λi j hi hj=>h5 i j (by rw[<- hlen];exact hi) hj) (λi el j v q1 q2=>?_)
     ·obtain⟨el0,q3,q4⟩:=hget i el hel
      rw[(Je q4).1]
      exact h3 i el0 q3
     ·obtain⟨el0,q3,q4⟩:=hget i el q1
      obtain⟨x0,q5,q6⟩:=(Je q4).2 j v q2
      exact frzD_ok hr q6 (h6 i el0 j x0 q3 q5)
 all_goals
  simp only[Q8e]at hf
  exact Qnh hr hf hv
theorem Qat (hmix:P.follows .mixedOrders=true) {f:FuncId} {fn:Func} {code:Code} {c:C} {rs:List Rr} (hf:P.funcs[f]?=some fn) (hb:fn.body=some code) (hc:Y5 P fn.ntmps code=some c) (hrs:U1 P fn=some rs)
  {vs:List V} (hn:vs.length<=fn.ntmps) {R:V->Prop} (hbody:AS P 0 c ⟨Z1 0 vs,[]⟩ (λx σ'=>(match x with | .e _=>False | _=>True)/\∃r,Qlh rs σ'=some r/\R r)):PureC P f vs R:=by
 intro J m w cargs hr hp
 have hm:m=[]:=ql (by rw[hr.len];rfl)
 subst hm
 refine calls_of_wp hf hb ?_
 have hcl:cargs.length<=fn.ntmps:=by rw[<- hp.1];exact hn
 have hrel:RelF fn.ntmps J [] (λt=>get t (Z1 0 vs)) [] { tmps:=cargs.toArray++Array.replicate (fn.ntmps-cargs.toArray.size) undef,defers:=[] } w:=by
  refine⟨λt=>?_,hr,rfl,by simp;omega⟩
  simp only
  rw[Y4,if_pos (Nat.zero_le _),Nat.sub_zero]
  cases hv:vs[t]? with
  | none=>trivial
  | some v =>
    obtain⟨cv,h1,h2⟩:=hp.get hv
    have hlt:=(q8.1 h1).1
    have:(cargs.toArray++Array.replicate (fn.ntmps-cargs.toArray.size) undef).getD t undef=cv:=by
     rw[Array.getD_eq_getD_getElem?,jn (by simpa using hlt)]
     simp[h1]
    rw[this]
    exact h2
 refine wp_mono (Q70 hmix code c hc _ _ hbody J [] _ w hrel) ?_
 rintro e a' w' ⟨x,σ',J',m',hx,⟨hx2,r,hres,hR⟩,hrel',hev⟩
 have hret:a'.defers=[]/\∃v,(results fn a'.tmps).run P w'=.ok v w'/\∃v0 r h' J'' m'',Ending.returned v=.returned v0/\(R r/\h'=[])/\RV J'' m'' w' r v0/\RS J'' h' m'' w'/\(∀n,Ev n J [] w J'' m'' w')/\Ml [] m'':=by
  refine⟨hrel'.defers,?_⟩
  simp only[Qlh,qr,qa]at hres
  obtain⟨us,hus,fs,hfs,rfl⟩:=hres
  obtain⟨cs,hcs,hrun⟩:=K3 hrel' hrs hus
  refine⟨_,hrun,_,Y6 fs,[],λk=>J' k∨Jx m' k,[],rfl,⟨hR,rfl⟩,?_,?_,λn=>?_,Ml.nil _⟩
  ·have hpa:Pw (RA (λk=>J' k∨Jx m' k) [] w') fs cs:=Io (R:=RV J' m' w') (R':=RA (λk=>J' k∨Jx m' k) [] w') (λv r c q1 q2=>Q8d hrel'.rs q1 q2) hfs hcs
   have hl:=hpa.1
   match fs,cs,hl,hpa with
   | [],[],_,hpa=>exact⟨#[],rfl,Pw.nil⟩
   | [v],[c],_,hpa =>
     simp only[Y6]
     have:(if h:([c]:List Value).toArray.size=1 then ([c]:List Value).toArray[0] else Value.tuple [c].toArray)=c:=by simp
     rw[this]
     exact Z5 hpa.head
   | v1::v2::vr,c1::c2::cr,_,hpa =>
     simp only[Y6]
     rw[dif_neg (by simp)]
     exact⟨_,rfl,by simpa using hpa⟩
  ·refine⟨rfl,λk hk=>?_,by simp,by simp,by simp⟩
   rcases hk with hk | ⟨id,e,h1,h2⟩
   ·exact hrel'.rs.jlt k hk
   ·exact(hrel'.rs.dis id e k h1 h2).2
  ·refine⟨hev.os,hev.tape,hev.output,hev.drawn,hev.size,hev.keep,by simp,λk hk=>.inl (hev.sub k hk),λk hk=>?_,by simp⟩
   rcases hk with hk | ⟨id,e,h1,h2⟩
   ·exact hev.jnew k hk
   ·rcases hev.fresh id e k h1 h2 with h3 | h3
    ·exact .inr (.inl h3)
    ·exact .inr (.inr h3)
 cases e<;>cases x<;>simp only at hx<;>(try exact hx.elim)<;>(try exact hx2.elim)
 ·exact hret
 ·exact hret
theorem Qar {P:Program} (hmix:P.follows .mixedOrders=true) {f:FuncId} {c:C} {rs:List Rr} {n:Nat} (hf:Q9 P f c rs n) {vs:List V} (hn:vs.length<=n) {R:V->Prop}
  (hb:AS P 0 c ⟨Z1 0 vs,[]⟩ (Qch rs R)):PureC P f vs R:=by
 obtain⟨fn,code,h1,h2,h3,h4,rfl⟩:=hf
 refine Qat hmix h1 h2 h3 h4 hn ?_
 refine (congrArg (AS P 0 c ⟨Z1 0 vs,[]⟩) (funext λx=>funext λσ=>propext ?_)).mpr hb
 cases x<;>simp[Qch]
@[congr] theorem DoneF_congr {rs:List Rr} {R:V->Prop} {x x':X} {σ σ':St} (hx:x=x') (hh:σ=σ'):Qch rs R x σ=Qch rs R x' σ':=by rw[hx,hh]
theorem Q9k (rs:List Rr) (R:V->Prop) {σ:St}:Qch rs R .r σ=∃r,Qlh rs σ=some r/\R r:=Rfl rfl
attribute [go_sem]  Q9k  Qlh Q8e Uj
end
end Go.Abs
namespace Go.Abs
open Go.RowKit
def Qnj (h:List O):V->Option V
 | .own id g off len=>Q8e h (.own id g off len)
 | v=>X6 h v
def Qni (h:List O):V->Option V
 | .a cs=>(cs.mapM (Qnj h)).map .a
 | v=>Q8e h v
def Qlg (rs:List Rr) (σ:St):Option V :=
 (rs.mapM (Yj σ)).bind λvs=>(vs.mapM (Qni σ.h)).map Y6
def Qcg (rs:List Rr) (R:V->Prop) (x:X) (σ:St):Prop :=
 match x with
 | .e _=>False
 | _=>∃r,Qlg rs σ=some r/\R r
section
variable {P:Program} {J:Nat->Prop} {m:List Ent} {w:World} {h:List O}
theorem frzM_ok (hr:RS J h m w) {v r:V} (hf:Qnj h v=some r) {c:Value} (hv:RC J m w v c):RC (λk=>J k∨Jx m k) [] w r c:=by
 cases v
 case own id g off len =>
  have h1:=Q8d hr (show Q8e h (.own id g off len)=some r from hf) (Qe hv)
  simp only[Qnj,Q8e]at hf
  split at hf
  case h_2=>simp at hf
  split at hf
  case isFalse=>simp at hf
  rw[qa]at hf
  obtain⟨els',_,rfl⟩:=hf
  exact h1
 all_goals
  simp only[Qnj]at hf
  exact Q2c hr hf hv
theorem frzP_ok (hr:RS J h m w) {v r:V} (hf:Qni h v=some r) {c:Value} (hv:RV J m w v c):RA (λk=>J k∨Jx m k) [] w r c:=by
 cases v
 case a cs =>
  simp only[Qni,qa]at hf
  obtain⟨rs,hrs,rfl⟩:=hf
  obtain⟨arr,rfl,hp⟩:=hv
  exact⟨arr,rfl,Io (R':=RC (λk=>J k∨Jx m k) [] w) (λv r c q1 q2=>frzM_ok hr q1 q2) hrs hp⟩
 all_goals
  simp only[Qni]at hf
  exact Q8d hr hf hv
theorem Qas (hmix:P.follows .mixedOrders=true) {f:FuncId} {fn:Func} {code:Code} {c:C} {rs:List Rr} (hf:P.funcs[f]?=some fn) (hb:fn.body=some code) (hc:Y5 P fn.ntmps code=some c) (hrs:U1 P fn=some rs)
  {vs:List V} (hn:vs.length<=fn.ntmps) {R:V->Prop} (hbody:AS P 0 c ⟨Z1 0 vs,[]⟩ (λx σ'=>(match x with | .e _=>False | _=>True)/\∃r,Qlg rs σ'=some r/\R r)):PureC P f vs R:=by
 intro J m w cargs hr hp
 have hm:m=[]:=ql (by rw[hr.len];rfl)
 subst hm
 refine calls_of_wp hf hb ?_
 have hcl:cargs.length<=fn.ntmps:=by rw[<- hp.1];exact hn
 have hrel:RelF fn.ntmps J [] (λt=>get t (Z1 0 vs)) [] { tmps:=cargs.toArray++Array.replicate (fn.ntmps-cargs.toArray.size) undef,defers:=[] } w:=by
  refine⟨λt=>?_,hr,rfl,by simp;omega⟩
  simp only
  rw[Y4,if_pos (Nat.zero_le _),Nat.sub_zero]
  cases hv:vs[t]? with
  | none=>trivial
  | some v =>
    obtain⟨cv,h1,h2⟩:=hp.get hv
    have hlt:=(q8.1 h1).1
    have:(cargs.toArray++Array.replicate (fn.ntmps-cargs.toArray.size) undef).getD t undef=cv:=by
     rw[Array.getD_eq_getD_getElem?,jn (by simpa using hlt)]
     simp[h1]
    rw[this]
    exact h2
 refine wp_mono (Q70 hmix code c hc _ _ hbody J [] _ w hrel) ?_
 rintro e a' w' ⟨x,σ',J',m',hx,⟨hx2,r,hres,hR⟩,hrel',hev⟩
 have hret:a'.defers=[]/\∃v,(results fn a'.tmps).run P w'=.ok v w'/\∃v0 r h' J'' m'',Ending.returned v=.returned v0/\(R r/\h'=[])/\RV J'' m'' w' r v0/\RS J'' h' m'' w'/\(∀n,Ev n J [] w J'' m'' w')/\Ml [] m'':=by
  refine⟨hrel'.defers,?_⟩
  simp only[Qlg,qr,qa]at hres
  obtain⟨us,hus,fs,hfs,rfl⟩:=hres
  obtain⟨cs,hcs,hrun⟩:=K3 hrel' hrs hus
  refine⟨_,hrun,_,Y6 fs,[],λk=>J' k∨Jx m' k,[],rfl,⟨hR,rfl⟩,?_,?_,λn=>?_,Ml.nil _⟩
  ·have hpa:Pw (RA (λk=>J' k∨Jx m' k) [] w') fs cs:=Io (R:=RV J' m' w') (R':=RA (λk=>J' k∨Jx m' k) [] w') (λv r c q1 q2=>frzP_ok hrel'.rs q1 q2) hfs hcs
   have hl:=hpa.1
   match fs,cs,hl,hpa with
   | [],[],_,hpa=>exact⟨#[],rfl,Pw.nil⟩
   | [v],[c],_,hpa =>
     simp only[Y6]
     have:(if h:([c]:List Value).toArray.size=1 then ([c]:List Value).toArray[0] else Value.tuple [c].toArray)=c:=by simp
     rw[this]
     exact Z5 hpa.head
   | v1::v2::vr,c1::c2::cr,_,hpa =>
     simp only[Y6]
     rw[dif_neg (by simp)]
     exact⟨_,rfl,by simpa using hpa⟩
  ·refine⟨rfl,λk hk=>?_,by simp,by simp,by simp⟩
   rcases hk with hk | ⟨id,e,h1,h2⟩
   ·exact hrel'.rs.jlt k hk
   ·exact(hrel'.rs.dis id e k h1 h2).2
  ·refine⟨hev.os,hev.tape,hev.output,hev.drawn,hev.size,hev.keep,by simp,λk hk=>.inl (hev.sub k hk),λk hk=>?_,by simp⟩
   rcases hk with hk | ⟨id,e,h1,h2⟩
   ·exact hev.jnew k hk
   ·rcases hev.fresh id e k h1 h2 with h3 | h3
    ·exact .inr (.inl h3)
    ·exact .inr (.inr h3)
 cases e<;>cases x<;>simp only at hx<;>(try exact hx.elim)<;>(try exact hx2.elim)
 ·exact hret
 ·exact hret
theorem Qlk {P:Program} (hmix:P.follows .mixedOrders=true) {f:FuncId} {c:C} {rs:List Rr} {n:Nat} (hf:Q9 P f c rs n) {vs:List V} (hn:vs.length<=n) {R:V->Prop}
  (hb:AS P 0 c ⟨Z1 0 vs,[]⟩ (Qcg rs R)):PureC P f vs R:=by
 obtain⟨fn,code,h1,h2,h3,h4,rfl⟩:=hf
 refine Qas hmix h1 h2 h3 h4 hn ?_
 refine (congrArg (AS P 0 c ⟨Z1 0 vs,[]⟩) (funext λx=>funext λσ=>propext ?_)).mpr hb
 cases x<;>simp[Qcg]
@[congr] theorem DoneP_congr {rs:List Rr} {R:V->Prop} {x x':X} {σ σ':St} (hx:x=x') (hh:σ=σ'):Qcg rs R x σ=Qcg rs R x' σ':=by rw[hx,hh]
theorem DoneP_r (rs:List Rr) (R:V->Prop) {σ:St}:Qcg rs R .r σ=∃r,Qlg rs σ=some r/\R r:=Rfl rfl
attribute [go_sem]  DoneP_r  Qlg Qni Qnj
end
end Go.Abs
namespace Go.Abs
open Go.Lib
theorem Q10 (xs:List Int) (hs:xs.Pairwise λx y=>x<=y):∀m,m<=xs.length->(compactUpTo xs.toArray m).Pairwise (λx y=>x<y)/\(∀x∈compactUpTo xs.toArray m,∃j,j<m/\x=xs.toArray[j]!) /\
  (∀j,j<m->xs.toArray[j]! ∈ compactUpTo xs.toArray m)/\(compactUpTo xs.toArray m).length<=m
 | 0,_=>⟨by simp[compactUpTo],by simp[compactUpTo],by omega,by simp[compactUpTo]⟩
 | m+1,hm=>by
   obtain⟨h1,h2,h3,h4⟩:=Q10 xs hs m (by omega)
   have hget:∀j (h:j<xs.length),xs.toArray[j]! = xs[j]:=λj h=>by
    rw[getElem!_pos _ _ (by simpa using h)];simp
   have hmono:∀i j,i<=j->j<xs.length->xs.toArray[i]! <= xs.toArray[j]!:=λi j hij hj=>by
    rw[hget i (by omega),hget j hj]
    by_cases he:i=j
    ·subst he;exact Int.le_refl _
    ·exact j4.1 hs i j (by omega) hj (by omega)
   rw[compactUpTo_succ]
   by_cases hk:keeps xs.toArray m=true
   ·rw[if_pos hk]
    have hlt:∀x∈compactUpTo xs.toArray m,x<xs.toArray[m]!:=λx hx=>by
     obtain⟨j,hj,rfl⟩:=h2 x hx
     have hne:xs.toArray[m]! ≠ xs.toArray[m-1]!:=by
      unfold keeps at hk
      simp only[decide_eq_true_eq]at hk
      rcases hk with hk | hk
      ·omega
      ·exact hk
     have a1:=hmono j (m-1) (by omega) (by omega)
     have a2:=hmono (m-1) m (by omega) (by omega)
     omega
    refine⟨?_,λx hx=>?_,λj hj=>?_,by simp;omega⟩
    ·rw[List.pairwise_append]
     exact⟨h1,by simp,λx hx y hy=>by rw[qn.1 hy];exact hlt x hx⟩
    ·rcases qg.1 hx with hx | hx
     ·obtain⟨j,hj,e⟩:=h2 x hx;exact⟨j,by omega,e⟩
     ·exact⟨m,by omega,qn.1 hx⟩
    ·by_cases he:j=m
     ·subst he;simp
     ·exact qg.2 (.inl (h3 j (by omega)))
   ·rw[if_neg hk,List.append_nil]
    have he:m≠0/\xs.toArray[m]! = xs.toArray[m-1]!:=by
     unfold keeps at hk
     simp only[decide_eq_true_eq,not_or,Decidable.not_not]at hk
     exact hk
    refine⟨h1,λx hx=>?_,λj hj=>?_,by omega⟩
    ·obtain⟨j,hj,e⟩:=h2 x hx;exact⟨j,by omega,e⟩
    ·by_cases hj2:j=m
     ·subst hj2
      rw[he.2]
      exact h3 (j-1) (by omega)
     ·exact h3 j (by omega)
theorem Qbv {xs:List Int} (hs:xs.Pairwise λx y=>x<=y):(compact xs).Pairwise (λx y=>x<y)/\(∀x,x∈compact xs↔x∈xs)/\(compact xs).length<=xs.length:=by
 obtain⟨h1,h2,h3,h4⟩:=Q10 xs hs xs.length (Nat.le_refl _)
 have hget:∀j (h:j<xs.length),xs.toArray[j]! = xs[j]:=λj h=>by
  rw[getElem!_pos _ _ (by simpa using h)];simp
 refine⟨h1,λx=>⟨λhx=>?_,λhx=>?_⟩,h4⟩
 ·obtain⟨j,hj,rfl⟩:=h2 x hx
  rw[hget j hj]
  exact List.getElem_mem hj
 ·obtain⟨j,hj,rfl⟩:=List.mem_iff_getElem.1 hx
  have:=h3 j hj
  rwa [hget j hj]at this
end Go.Abs
