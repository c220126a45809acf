/- Part of the library on which the proof stands: an abstract machine, its values and its soundness against the model; or what functions of the program do to such values. -/
import Derived.Test.YtnaehggpjfdenaaGreatAbsB
set_option linter.unusedVariables false
namespace Go.Abs
open Go.RowKit
theorem RO.mono {J J':Nat->Prop} {m m':List Ent} {w w':World} (hJ:∀k,J k->J' k) (hw:∀k,J k->w'.heap[k]?=w.heap[k]?) (hm:Ml m m') {e:Ent} {o:O}
  (hb:∀B,e.blk=some B->w'.heap[B]?=w.heap[B]?) (h:RO J m w e o):RO J' m' w' e o:=by
 cases o with
 | arr g sz els =>
   simp only[RO]at h ⊢;obtain⟨h1,h2,h3,h4⟩:=h;refine⟨h1,h2,h3,?_⟩;cases hbk:e.blk with
   | none=>rw[hbk]at h4;exact h4
   | some B =>
     rw[hbk]at h4
     obtain⟨h5,h5',c,ty,fz,h6,h7,h8,h9⟩:=h4;refine⟨h5,h5',c,ty,fz,by rw[hb B hbk];exact h6,h7,h8,λi el j x hi hj=>?_⟩;obtain⟨cv,h10,h11⟩:=h9 i el j x hi hj;exact⟨cv,h10,RC.mono hJ hw hm h11⟩
 | mp ents =>
   simp only[RO]at h ⊢;obtain⟨h0,B,h1,es,h2,h3,h4⟩:=h;refine⟨h0,B,h1,es,by rw[hb B h1];exact h2,h3,λi k v hi=>?_⟩;obtain⟨en,h5,h6,h7,h8⟩:=h4 i k v hi;exact⟨en,h5,h6,RA.mono hJ hw hm h7,RA.mono hJ hw hm h8⟩
 | md ents =>
   simp only[RO]at h ⊢;obtain⟨h0,B,h1,es,c,h2,h3,h4⟩:=h;refine⟨h0,B,h1,es,c,by rw[hb B h1];exact h2,h3,λi k v hi=>?_⟩;obtain⟨en,h5,h7,h8⟩:=h4 i k v hi;exact⟨en,h5,RA.mono hJ hw hm h7,RA.mono hJ hw hm h8⟩
 | it mid since seen =>
   simp only[RO]at h ⊢;obtain⟨h0,h01,h02,B,h1,mb,h2,h3⟩:=h;refine⟨h0,h01,h02,B,h1,mb,by rw[hb B h1];exact h2,?_⟩;cases mid with
   | none=>exact h3
   | some i =>
     obtain⟨e',h4,h5,h6⟩:=h3;obtain⟨e2,h7,h8,h9⟩:=hm i e' h4;refine⟨e2,h7,by omega,λhg=>?_⟩;have:=h9 (by omega);subst this;exact h6 hg
 | dead=>trivial
theorem RS.same {J J':Nat->Prop} {h:List O} {m:List Ent} {w w':World} (hr:RS J h m w) (hJ:∀k,J k->J' k) (hn:∀k,J' k->J k∨w.heap.size<=k) (hlt:∀k,J' k->k<w'.heap.size)
  (hw:∀k,k<w.heap.size->w'.heap[k]?=w.heap[k]?) (hs:w.heap.size<=w'.heap.size):RS J' h m w' where
 len:=hr.len
 jlt:=hlt
 dis:=λid e B h1 h2=>by
  have:=hr.dis id e B h1 h2;refine⟨λh3=>?_,by omega⟩;rcases hn B h3 with h4 | h4
  ·exact this.1 h4
  ·omega
 inj:=hr.inj
 obj:=λid e o h1 h2=>RO.mono hJ (λk hk=>hw k (hr.jlt k hk)) (Ml.refl m) (λB hB=>hw B (hr.dis id e B h1 hB).2) (hr.obj id e o h1 h2)
theorem Ev.same {n:Nat} {J J':Nat->Prop} {m:List Ent} {w w':World} (hJ:∀k,J k->J' k) (hn:∀k,J' k->J k∨w.heap.size<=k)
  (hw:∀k,k<w.heap.size->w'.heap[k]?=w.heap[k]?) (hs:w.heap.size<=w'.heap.size) (h1:w'.os=w.os) (h2:w'.tape=w.tape) (h3:w'.output=w.output) (hdr:w.drawn<=w'.drawn):Ev n J m w J' m w' where
 os:=h1
 tape:=h2
 output:=h3
 drawn:=hdr
 size:=hs
 keep:=λk hk _=>hw k hk
 fresh:=λid e B a b=>.inr ⟨id,e,a,b⟩
 sub:=hJ
 jnew:=λk hk=>(hn k hk).imp id .inl
 ents:=λid e _ a=>⟨e,a,Nat.le_refl _,λ_=>rfl⟩
theorem Ev.push {n:Nat} {J:Nat->Prop} {m:List Ent} {w w':World} (e':Ent) (hb:∀B,e'.blk=some B->w.heap.size<=B)
  (hw:∀k,k<w.heap.size->w'.heap[k]?=w.heap[k]?) (hs:w.heap.size<=w'.heap.size) (h1:w'.os=w.os) (h2:w'.tape=w.tape) (h3:w'.output=w.output) (hdr:w.drawn<=w'.drawn):Ev n J m w J (m++[e']) w' where
 os:=h1
 tape:=h2
 output:=h3
 drawn:=hdr
 size:=hs
 keep:=λk hk _=>hw k hk
 fresh:=λid e B a b=>by
  by_cases hid:id<m.length
  ·rw[qd hid]at a
   exact .inr ⟨id,e,a,b⟩
  ·rw[qf (by omega)]at a
   rcases Nat.eq_zero_or_pos (id-m.length) with h0 | h0
   ·rw[h0]at a
    simp only[List.getElem?_cons_zero,Option.some.injEq]at a;subst a;exact .inl (hb B b)
   ·rw[show id-m.length=(id-m.length-1)+1 by omega]at a
    simp at a
 sub:=λ_ h=>h
 jnew:=λk hk=>.inl hk
 ents:=λid e _ a=>Ml.app m [e'] id e a
theorem RS.push {J:Nat->Prop} {h:List O} {m:List Ent} {w w':World} (hr:RS J h m w) (e':Ent) (o':O) (hb:∀B,e'.blk=some B->w.heap.size<=B/\B<w'.heap.size)
  (hw:∀k,k<w.heap.size->w'.heap[k]?=w.heap[k]?) (hs:w.heap.size<=w'.heap.size) (ho:RO J (m++[e']) w' e' o'):RS J (h++[o']) (m++[e']) w':=by
 have key:∀(id:Nat) (e:Ent),(m++[e'])[id]?=some e->(id<m.length/\m[id]?=some e)∨(id=m.length/\e=e'):=by
  intro id e a;by_cases hid:id<m.length
  ·rw[qd hid]at a
   exact .inl ⟨hid,a⟩
  ·rw[qf (by omega)]at a
   rcases Nat.eq_zero_or_pos (id-m.length) with h0 | h0
   ·rw[h0]at a
    simp only[List.getElem?_cons_zero,Option.some.injEq]at a;exact .inr ⟨by omega,a.symm⟩
   ·rw[show id-m.length=(id-m.length-1)+1 by omega]at a
    simp at a
 have hl:=hr.len;refine⟨by simp[hr.len],λk hk=>Nat.lt_of_lt_of_le (hr.jlt k hk) hs,?_,?_,?_⟩
 ·intro id e B h1 h2;rcases key id e h1 with⟨_,h3⟩ | ⟨_,rfl⟩
  ·have:=hr.dis id e B h3 h2;exact⟨this.1,by omega⟩
  ·have:=hb B h2;exact⟨λhj=>by have:=hr.jlt B hj;omega,this.2⟩
 ·intro id id' e e2 B h1 h2 h3 h4;rcases key id e h1 with⟨_,h5⟩ | ⟨h5,rfl⟩<;>rcases key id' e2 h2 with⟨_,h6⟩ | ⟨h6,rfl⟩
  ·exact hr.inj id id' e e2 B h5 h6 h3 h4
  ·have:=(hr.dis id e B h5 h3).2;have:=(hb B h4).1;omega
  ·have:=(hr.dis id' e2 B h6 h4).2;have:=(hb B h3).1;omega
  ·omega
 ·intro id e o h1 h2;rcases key id e h1 with⟨h4,h3⟩ | ⟨h4,rfl⟩
  ·rw[qd (by omega)]at h2
   exact RO.mono (λ_ h=>h) (λk hk=>hw k (hr.jlt k hk)) (Ml.app m [e']) (λB hB=>hw B (hr.dis id e B h3 hB).2) (hr.obj id e o h3 h2)
  ·rw[qf (by omega),show id-h.length=0 by omega]at h2
   simp only[List.getElem?_cons_zero,Option.some.injEq]at h2;subst h2;exact ho
theorem Ml.set {m:List Ent} {id:Nat} {e e':Ent} (he:m[id]?=some e) (h1:e.gen<=e'.gen) (h2:e.gen=e'.gen∨e.gen=0->e'=e):Ml m (m.set id e'):=by
 intro i x hx;by_cases hi:id=i
 ·subst hi;obtain rfl:e=x:=Option.some.inj (he.symm.trans hx);exact⟨e',by rw[qm (q8.1 hx).1],h1,h2⟩
 ·exact⟨x,by rw[qt hi];exact hx,Nat.le_refl _,λ_=>rfl⟩
theorem RS.upd {J:Nat->Prop} {h:List O} {m:List Ent} {w w':World} (hr:RS J h m w) {id:Nat} {e:Ent} (e':Ent) (o':O) (he:m[id]?=some e) (h1:e.gen<=e'.gen) (h2:e.gen=e'.gen∨e.gen=0->e'=e)
  (hb:∀B,e'.blk=some B->(e.blk=some B∨w.heap.size<=B)/\B<w'.heap.size)
  (hw:∀k,k<w.heap.size->e.blk≠some k->w'.heap[k]?=w.heap[k]?) (hs:w.heap.size<=w'.heap.size) (ho:RO J (m.set id e') w' e' o'):RS J (h.set id o') (m.set id e') w':=by
 have hid:id<m.length:=(q8.1 he).1;have key:∀(i:Nat) (x:Ent),(m.set id e')[i]?=some x->(i=id/\x=e')∨(i≠id/\m[i]?=some x):=by
  intro i x hx;by_cases hi:id=i
  ·subst hi;rw[qm hid]at hx
   exact .inl ⟨rfl,(Option.some.inj hx).symm⟩
  ·rw[qt hi]at hx
   exact .inr ⟨λh=>hi h.symm,hx⟩
 have hl:=hr.len;refine⟨by simp[hr.len],λk hk=>Nat.lt_of_lt_of_le (hr.jlt k hk) hs,?_,?_,?_⟩
 ·intro i x B hx hB;rcases key i x hx with⟨rfl,rfl⟩ | ⟨_,h3⟩
  ·obtain⟨h4,h5⟩:=hb B hB;refine⟨λhj=>?_,h5⟩;rcases h4 with h4 | h4
   ·exact(hr.dis i e B he h4).1 hj
   ·have:=hr.jlt B hj;omega
  ·have:=hr.dis i x B h3 hB;exact⟨this.1,by omega⟩
 ·intro i i' x x' B hx hx' hB hB';rcases key i x hx with⟨rfl,rfl⟩ | ⟨hne,h3⟩<;>rcases key i' x' hx' with⟨h6,h7⟩ | ⟨hne',h4⟩
  ·exact h6.symm
  ·rcases (hb B hB).1 with h5 | h5
   ·exact hr.inj i i' e x' B he h4 h5 hB'
   ·have:=(hr.dis i' x' B h4 hB').2;omega
  ·subst h6;subst h7;rcases (hb B hB').1 with h5 | h5
   ·exact hr.inj i i' x e B h3 he hB h5
   ·have:=(hr.dis i x B h3 hB).2;omega
  ·exact hr.inj i i' x x' B h3 h4 hB hB'
 ·intro i x o hx hO;rcases key i x hx with⟨rfl,rfl⟩ | ⟨hne,h3⟩
  ·rw[qm (by omega)]at hO
   obtain rfl:=Option.some.inj hO;exact ho
  ·rw[qt (λh=>hne h.symm)]at hO
   refine RO.mono (λ_ h=>h) (λk hk=>hw k (hr.jlt k hk) λhk'=>(hr.dis id e k he hk').1 hk) (Ml.set he h1 h2)
    (λB hB=>hw B (hr.dis i x B h3 hB).2 λhB'=>hne (hr.inj i id x e B h3 he hB hB')) (hr.obj i x o h3 hO)
theorem Ev.upd {n:Nat} {J:Nat->Prop} {m:List Ent} {w w':World} {id:Nat} {e:Ent} (e':Ent) (he:m[id]?=some e) (h1:e.gen<=e'.gen) (h2:e.gen=e'.gen∨e.gen=0->e'=e)
  (hb:∀B,e'.blk=some B->(e.blk=some B∨w.heap.size<=B))
  (hw:∀k,k<w.heap.size->e.blk≠some k->w'.heap[k]?=w.heap[k]?) (hs:w.heap.size<=w'.heap.size) (h3:w'.os=w.os) (h4:w'.tape=w.tape) (h5:w'.output=w.output) (hdr:w.drawn<=w'.drawn):Ev n J m w J (m.set id e') w' where
 os:=h3
 tape:=h4
 output:=h5
 drawn:=hdr
 size:=hs
 keep:=λk hk hm=>hw k hk (hm id e he)
 fresh:=λi x B hx hB=>by
  by_cases hi:id=i
  ·subst hi;rw[qm (q8.1 he).1]at hx
   obtain rfl:=Option.some.inj hx;rcases hb B hB with h6 | h6
   ·exact .inr ⟨id,e,he,h6⟩
   ·exact .inl h6
  ·rw[qt hi]at hx
   exact .inr ⟨i,x,hx,hB⟩
 sub:=λ_ h=>h
 jnew:=λk hk=>.inl hk
 ents:=λi x _ hx=>Ml.set he h1 h2 i x hx
def Fine (J:Nat->Prop) (m:List Ent) (w:World) (h':List O) (r:V) (res:Result Next):Prop :=
 ∃v w' J' m',(res=.ok (.value v) w'∨(res=.ok .skip w'/\v=undef))/\RV J' m' w' r v/\RS J' h' m' w'/\(∀n,Ev n J m w J' m' w')/\Ml m m'
theorem Fine.pure {J:Nat->Prop} {m:List Ent} {w:World} {h:List O} {r:V} {v:Value} (hs:RS J h m w) (hv:RV J m w r v):Fine J m w h r (.ok (.value v) w) :=
 ⟨v,w,J,m,.inl rfl,hv,hs,λn=>Ev.refl n J m w,Ml.refl m⟩
def cvL:Value->Option V
 | .bool b=>some (.b b)
 | .int k n=>some (.i k n)
 | .string s=>some (.s s.data.toList)
 | .slice none 0 0=>some .nil
 | .pointer none=>some .np
 | .map none=>some .mnil
 | .func (.func f) first caps=>if first.isEmpty && caps.isEmpty then some (.f f []) else none
 | .nilFunc=>some .any
 | .nilIface=>some .any
 | _=>none
def cvV:Value->V
 | .agg cs=>match cs.toList.mapM cvL with
   | some l=>.a l
   | none=>.any
 | v=>(cvL v).getD .any
def cvA:Operand->A
 | .tmp t=>.t t
 | .const v=>.c (cvV v)
 | .global _=>.c .any
 | .func f=>.c (.f f [])
section
variable {J:Nat->Prop} {m:List Ent} {w:World}
theorem Qv {v:V} {c:Value} (h:RD J w v c):RC J m w v c:=by
 cases h<;>simp only[RC,RL]
 case b x=>exact .b x
 case i k n=>exact .i k n
 case s x=>exact .s x
 case nil0=>exact .nil0
 case nil1 a=>exact .nil1 a
 case l0 sz=>exact .l0 sz
 case l1 sz a cap=>exact .l1 sz a cap
 case l sz els a cap cs hj hc hsz hcell hr=>exact .l sz els a cap cs hj hc hsz hcell hr
theorem Ie {v:V} {c:Value} (hv:v.isD=true) (h:RC J m w v c):RD J w v c:=by
 cases v<;>simp[V.isD]at hv<;>exact h
theorem Qy {v:V} {c:Value} (h:RC J m w v c):RA J m w v c:=by
 cases v<;>first | exact h | trivial | (simp only[RC,RL]at h)
theorem Z7 {v:V} {c:Value} (h:RA J m w v c):RV J m w v c:=by
 cases v<;>first | exact h | (simp only[RA,RC,RL]at h)
theorem Qh {v:V} {c:Value} (h:RC J m w v c):RV J m w v c:=Z7 (Qy h)
theorem Z0e {v:V} {c:Value} (hv:v.isC=true) (ha:v≠.any) (h:RA J m w v c):RC J m w v c:=by
 cases v<;>first | exact h | exact absurd rfl ha | simp[V.isC]at hv
theorem Z0h {v:V} {c:Value} (hv:∀vs,v≠.t vs) (h:RV J m w v c):RA J m w v c:=by
 cases v<;>first | exact h | exact absurd rfl (hv _)
theorem Qnf {v:Value} {x:V} (h:cvL v=some x):RC J m w x v:=by
 unfold cvL at h;split at h<;>simp at h<;>try subst h
 ·exact .b _
 ·exact .i _ _
 ·rename_i s;have:RD J w (.s s.data.toList) (.string ⟨s.data.toList.toArray⟩):=.s _;exact this
 ·exact .nil0
 ·rfl
 ·rfl
 ·obtain⟨⟨h1,h2⟩,rfl⟩:=h;subst h1;subst h2;exact⟨#[],rfl,rfl,by simp⟩
 ·rfl
 ·rfl
theorem Pw.nil {R:V->Value->Prop}:Pw R [] []:=⟨rfl,by simp⟩
theorem Pw.cons {R:V->Value->Prop} {v:V} {c:Value} {vs:List V} {cs:List Value} (h:R v c) (ht:Pw R vs cs):Pw R (v::vs) (c::cs):=by
 refine⟨by simp[ht.1],λi x y hx hy=>?_⟩;cases i with
 | zero=>simp at hx hy;subst hx;subst hy;exact h
 | succ i=>simp at hx hy;exact ht.2 i x y hx hy
theorem Pw.head {R:V->Value->Prop} {v:V} {c:Value} {vs:List V} {cs:List Value} (h:Pw R (v::vs) (c::cs)):R v c:=h.2 0 v c rfl rfl
theorem Pw.tail {R:V->Value->Prop} {v:V} {c:Value} {vs:List V} {cs:List Value} (h:Pw R (v::vs) (c::cs)):Pw R vs cs :=
 ⟨by have:=h.1;simpa using this,λi x y hx hy=>h.2 (i+1) x y (by simpa using hx) (by simpa using hy)⟩
theorem Pw.get {R:V->Value->Prop} {vs:List V} {cs:List Value} (h:Pw R vs cs) {i:Nat} {v:V} (hv:vs[i]?=some v):∃c,cs[i]?=some c/\R v c:=by
 have hi:=(q8.1 hv).1;have:i<cs.length:=by rw[<- h.1];exact hi
 exact⟨cs[i],q9 this,h.2 i v _ hv (q9 this)⟩
theorem Pw.drop {R:V->Value->Prop} {vs:List V} {cs:List Value} (h:Pw R vs cs) (n:Nat):Pw R (vs.drop n) (cs.drop n) :=
 ⟨by simp[h.1],λi x y hx hy=>h.2 (n+i) x y (by simpa using hx) (by simpa using hy)⟩
theorem Pw.take {R:V->Value->Prop} {vs:List V} {cs:List Value} (h:Pw R vs cs) (n:Nat):Pw R (vs.take n) (cs.take n) :=
 ⟨by simp[h.1],λi x y hx hy=>by
  rw[jf]at hx hy
  split at hx
  ·rename_i hlt;rw[if_pos hlt]at hy
   exact h.2 i x y hx hy
  ·simp at hx⟩
theorem Pw.append {R:V->Value->Prop} {vs us:List V} {cs ds:List Value} (h:Pw R vs cs) (k:Pw R us ds):Pw R (vs++us) (cs++ds):=by
 refine⟨by simp[h.1,k.1],λi x y hx hy=>?_⟩;by_cases hi:i<vs.length
 ·rw[qd hi]at hx
  rw[qd (h.1 ▸ hi)]at hy
  exact h.2 i x y hx hy
 ·rw[qf (by omega)]at hx
  rw[qf (by have:=h.1;omega),<- h.1]at hy
  exact k.2 _ x y hx hy
theorem Q2f {cs:List Value} {l:List V} (h:cs.mapM cvL=some l):Pw (RC J m w) l cs:=by
 induction cs generalizing l with
 | nil=>simp at h;subst h;exact Pw.nil
 | cons c cs ih =>
   simp only[List.mapM_cons,Option.bind_eq_bind,qr,Option.pure_def,Option.some.injEq]at h;obtain⟨x,hx,r,hrr,rfl⟩:=h;exact Pw.cons (Qnf hx) (ih hrr)
theorem cvV_ok (v:Value):RA J m w (cvV v) v:=by
 unfold cvV;split
 ·split
  ·rename_i cs o l h;exact⟨cs,rfl,Q2f h⟩
  ·trivial
 ·cases h:cvL v with
  | none=>trivial
  | some x=>exact Qy (Qnf h)
end
end Go.Abs
namespace Go.Abs
open Go.RowKit
section
variable {P:Program}
theorem Qr {T:TypeId} {n:Nat} (h:(P.info? T).map (·.size)=some n) (w:World):(sizeOf T).run P w=.ok n w:=by
 cases hi:P.info? T with
 | none=>simp[hi]at h
 | some i=>simp[hi]at h;simp[sizeOf,typeInfo,hi,h]
theorem Zv (g o:Nat) (t:TypeId) (fz:Nat × Nat):∀(vs:List Value) (i:Nat) (cur:Array Value) (w:World),w.heap[g]?=some (.cells cur t fz)->o+i+vs.length<=cur.size->(∀v∈vs,v.oneCell'=true) ->
  (∀k,k<cur.size->¬ (fz.1<=k/\k<fz.2)) ->
  (storeCells ⟨g,o,none⟩ vs i).run P w=.ok () (w.setRow g (cur.toList.take (o+i)++vs++cur.toList.drop (o+i+vs.length)).toArray)
 | [],i,cur,w,hg,_,_,_=>by
   simp only[storeCells,List.append_nil,List.length_nil,Nat.add_zero,List.take_append_drop,Array.toArray_toList];rw[setRow_self w g cur t fz hg]
   rfl
 | v::rest,i,cur,w,hg,hl,h1,hz=>by
   have hi:o+i<cur.size:=by simp at hl;omega
   have hadd:(⟨g,o,none⟩:Addr).add i=⟨g,o+i,none⟩:=by unfold Addr.add;split<;>simp_all
   have hcell:w.cell? ⟨g,o+i,none⟩=some cur[o+i]:=by simp[World.cell?,hg,hi]
   have hfro:w.frozen? ⟨g,o+i,none⟩=false:=by
    obtain⟨lo,hi'⟩:=fz;have:=hz (o+i) hi;simp only[World.frozen?,hg];simp at this ⊢;exact this
   have hst:(store ((⟨g,o,none⟩:Addr).add i) v).run P w=.ok () (w.setRow g (cur.setIfInBounds (o+i) v)):=by
    rw[hadd,run_store P w _ v _ (h1 v (by simp)),hcell];simp[hfro,setCell_eq_setRow w g (o+i) cur t fz v hg]
   have ih:=Zv g o t fz rest (i+1) (cur.setIfInBounds (o+i) v) (w.setRow g (cur.setIfInBounds (o+i) v)) (setRow_heap w g cur _ t _ hg) (by simp at hl ⊢;omega) (λx hx=>h1 x (by simp[hx])) (by simpa using hz);simp only[storeCells,Sem.run_bind,hst,Result.andThen_ok,ih,setRow_setRow];congr 3;have e:=list_seg_step cur.toList (o+i) v rest (by simp at hl ⊢;omega)
   simpa[Array.toList_setIfInBounds,Nat.add_assoc]using e
def Q4v (P:Program) (T:TypeId):Option (Option Nat) :=
 match P.underlying T,P.info? T with
 | some (.struct _),some i=>some (some i.size)
 | some (.array _ _),some i=>some (some i.size)
 | some _,some _=>some none
 | _,_=>none
theorem Y5 {T:TypeId} {n:Nat} (h:Q4v P T=some (some n)) (w:World):(isAgg T).run P w=.ok true w/\(sizeOf T).run P w=.ok n w:=by
 unfold Q4v at h;split at h<;>simp at h
 ·rename_i hu hi;exact⟨by simp[isAgg,run_underlying hu],Qr (by rw[hi];simp[h]) w⟩
 ·rename_i hu hi;exact⟨by simp[isAgg,run_underlying hu],Qr (by rw[hi];simp[h]) w⟩
theorem Kz {T:TypeId} (h:Q4v P T=some none) (w:World):(isAgg T).run P w=.ok false w:=by
 unfold Q4v at h;split at h<;>simp at h
 rename_i d i h1 h2 hu hi;cases d<;>first | (exfalso;exact h1 _ rfl) | (exfalso;exact h2 _ _ rfl) | simp[isAgg,run_underlying hu]
section
variable {J:Nat->Prop} {m:List Ent} {w:World} {h:List O}
theorem Addr.add_block (a:Addr) (n:Nat):(a.add n).block=a.block:=by unfold Addr.add;split<;>rfl
theorem Qbe (hr:RS J h m w) {X:V} {x:Value} (hx:RV J m w X x) {cs:List V} (hc:X0 h X=some cs) :
  ∃a,x=.pointer (some a)/\∃vs,Pw (RC J m w) cs vs/\∀j v,vs[j]?=some v->w.cell? (a.add j)=some v:=by
 unfold X0 at hc;split at hc
 ·rename_i cells;simp at hc;subst hc;obtain⟨a,rfl,hj,hcell⟩:=hx;refine⟨a,rfl,(List.range cells.length).map (λj=>(w.cell? (a.add j)).getD undef),⟨by simp,λi v c hv hcc=>?_⟩,λj v hv=>?_⟩
  ·obtain⟨cv,h1,h2⟩:=hcell i v hv;have hi:=(q8.1 hv).1;simp[hi,h1]at hcc
   subst hcc;exact Qv h2
  ·have hi:=(q8.1 hv).1;simp at hi;obtain⟨cv,h1,h2⟩:=hcell j cells[j] (q9 hi);simp[hi,h1]at hv
   rw[h1,hv]
 ·rename_i id g e j;split at hc
  case h_2=>simp at hc
  rename_i g' sz els ho;split at hc
  case isFalse=>simp at hc
  rename_i hgg;subst hgg;simp only[qr]at hc;obtain⟨cs0,he,hc⟩:=hc;split at hc
  case isFalse=>simp at hc
  rename_i hjl;obtain rfl:=Option.some.inj hc;obtain⟨_,en,hen,_,hp⟩:=hx;have hobj:=hr.obj id en _ hen ho;simp only[RO]at hobj;obtain⟨h1,h2,h3,h4⟩:=hobj;obtain⟨B,hB,rfl⟩:=hp h1.symm;rw[hB]at h4
  obtain⟨h5,h5',c,ty,fz,h6,h7,h8,h9⟩:=h4;have hlen:=h3 e cs0 he;subst h2;have hel:=(q8.1 he).1;have hcs:c.size=(en.base+en.cap)*en.sz:=h7;have hbase:(en.base+e)*en.sz+en.sz<=(en.base+en.cap)*en.sz:=by
   rw[<- Nat.succ_mul];exact j9 _ (by omega)
  refine⟨⟨B,(en.base+e)*en.sz+j,none⟩,rfl,(c.toList.drop ((en.base+e)*en.sz+j)).take (cs0.length-j),⟨?_,λi v cv hv hcv=>?_⟩,λi v hv=>?_⟩
  ·simp[List.length_drop];omega
  ·rw[jf]at hcv
   split at hcv<;>simp at hcv
   obtain⟨cv',h10,h11⟩:=h9 e cs0 (j+i) v he (by simpa using hv);rw[show (en.base+e)*en.sz+j+i=(en.base+e)*en.sz+(j+i) by omega,h10]at hcv
   rw[<- Option.some.inj hcv];exact h11
  ·rw[jf]at hv
   split at hv<;>simp at hv
   rw[Addr.add_lit];simp[World.cell?,h6,hv]
 ·simp at hc
theorem Q9m {n:Option Nat} {cs:List V} {r:V} (hp:Jm n cs=some r) {vs:List Value} (hv:Pw (RC J m w) cs vs) :
  match n with
  | none=>∃c,vs[0]?=some c/\RV J m w r c
  | some k=>k<=vs.length/\RV J m w r (.agg (vs.take k).toArray):=by
 cases n with
 | none =>
   simp only[Jm]at hp;cases cs with
   | nil=>simp at hp
   | cons y ys =>
     simp at hp;subst hp;obtain⟨c,h1,h2⟩:=hv.get (i:=0) rfl;exact⟨c,h1,Qh h2⟩
 | some k =>
   simp only[Jm]at hp;split at hp<;>simp at hp
   subst hp;exact⟨by rw[<- hv.1];assumption,_,rfl,by simpa using hv.take k⟩
theorem Qpe {T:TypeId} {n:Option Nat} (hT:Q4v P T=some n) (hr:RS J h m w) {X:V} {x:Value} (hx:RV J m w X x) {r:V} (hs:(X0 h X).bind (Jm n)=some r) :
  Fine J m w h r ((do pure (.value (<- Instr.loadAt T x)):Sem Next).run P w):=by
 simp only[qr]at hs;obtain⟨cs,hc,hp⟩:=hs;obtain⟨a,rfl,vs,hv,hcell⟩:=Qbe hr hx hc;have:=Q9m hp hv;cases n with
 | none =>
   obtain⟨c,h1,h2⟩:=this;have h3:=hcell 0 c h1;rw[Addr.add_zero']at h3
   simp only[Instr.loadAt,Instr.sureAddr,loadVar,Sem.run_bind,Sem.run_pure,Result.andThen_ok,Kz hT,Bool.false_eq_true,if_false,run_load,h3];exact Fine.pure hr h2
 | some k =>
   obtain⟨h1,h2⟩:=this;have hl:=run_loadCells_list (P:=P) w a (vs.take k) (λj v hj=>hcell j v (by rw[jf]at hj;split at hj<;>simp_all));have hlen:(vs.take k).length=k:=by simp;omega
   rw[hlen]at hl
   simp only[Instr.loadAt,Instr.sureAddr,loadVar,Sem.run_bind,Sem.run_pure,Result.andThen_ok,(Y5 hT w).1,if_true,(Y5 hT w).2,hl];exact Fine.pure hr h2
theorem I9 {X:V} {x:Value} (hx:RV J m w X x) (hok:X.okA=true):Pw (RC J m w) X.cells x.cells.toList:=by
 cases X<;>simp[V.okA]at hok<;>simp only[V.cells]
 case a cs =>
  obtain⟨arr,rfl,hp⟩:=hx;exact hp
 all_goals
  have h1:=Z0e (J:=J) (m:=m) (w:=w) rfl (by simp) (Z0h (by intro vs h;cases h) hx);have h2:=RC.one h1;have h3:x.cells=#[x]:=by cases x<;>first | rfl | simp[Value.oneCell']at h2
  rw[h3];exact Pw.cons h1 Pw.nil
theorem Qlt {cs ys:List V} {j k:Nat} (hj:j+ys.length<=cs.length):(K0 cs j ys)[k]?=if k<j then cs[k]? else if k<j+ys.length then ys[k-j]? else cs[k]?:=by
 unfold K0;have hl:(cs.take j).length=j:=by simp;omega
 split
 ·rename_i hk;rw[j6,qd (by omega),jf,if_pos hk]
 ·rename_i hk;split
  ·rename_i hk2;rw[qd (by simp;omega),qf (by omega),hl]
  ·rename_i hk2;rw[qf (by simp;omega)];simp only[j7,hl,jh];congr 1;omega
theorem Qls {cs ys:List V} {j:Nat} (hj:j+ys.length<=cs.length):(K0 cs j ys).length=cs.length:=by
 simp[K0];omega
theorem Yj {cs ys:List Value} {j k:Nat} (hj:j+ys.length<=cs.length):(cs.take j++ys++cs.drop (j+ys.length))[k]?=if k<j then cs[k]? else if k<j+ys.length then ys[k-j]? else cs[k]?:=by
 have hl:(cs.take j).length=j:=by simp;omega
 split
 ·rename_i hk;rw[j6,qd (by omega),jf,if_pos hk]
 ·rename_i hk;split
  ·rename_i hk2;rw[qd (by simp;omega),qf (by omega),hl]
  ·rename_i hk2;rw[qf (by simp;omega)];simp only[j7,hl,jh];congr 1;omega
theorem Qj8 {a b c d s:Nat} (hb:b<s) (hd:d<s) (h:a*s+b=c*s+d):a=c/\b=d:=by
 rcases Nat.lt_trichotomy a c with hlt | heq | hgt
 ·exfalso;have:=j9 s (show a+1<=c from hlt);rw[Nat.add_mul,Nat.one_mul]at this
  omega
 ·subst heq;exact⟨rfl,by omega⟩
 ·exfalso;have:=j9 s (show c+1<=a from hgt);rw[Nat.add_mul,Nat.one_mul]at this
  omega
theorem fine_st {T:TypeId} {n:Nat} (hT:(P.info? T).map (·.size)=some n) (hr:RS J h m w) {id g e j:Nat} {x:Value} (hx:RV J m w (.p id g e j) x) {Y:V} {y:Value} (hy:RV J m w Y y)
  {sz:Nat} {els:List (List V)} (ho:h[id]?=some (.arr g sz els)) {cs:List V} (he:els[e]?=some cs) (hn:Y.cells.length=n) (hj:j+n<=cs.length) (hok:Y.okA=true) :
  Fine J m w (h.set id (.arr g sz (els.set e (K0 cs j Y.cells)))) .any ((do Instr.storeAt T x y;pure .skip:Sem Next).run P w):=by
 obtain⟨_,en,hen,_,hp⟩:=hx;have hobj:=hr.obj id en _ hen ho;simp only[RO]at hobj;obtain⟨h1,h2,h3,h4⟩:=hobj;obtain⟨B,hB,rfl⟩:=hp h1.symm;rw[hB]at h4
 obtain⟨h5,h5',c,ty,fz,h6,h7,h8,h9⟩:=h4;have hlen:=h3 e cs he;subst h2;have hel:=(q8.1 he).1;have hbase:(en.base+e)*en.sz+en.sz<=(en.base+en.cap)*en.sz:=by
  rw[<- Nat.succ_mul];exact j9 _ (by omega)
 have hcy:=I9 hy hok;have hyl:y.cells.toList.length=n:=by rw[<- hcy.1,hn]
 have hst:=Zv (P:=P) B ((en.base+e)*en.sz+j) ty fz y.cells.toList 0 c w h6 (by rw[hyl];omega)
  (λv hv=>by
   obtain⟨i,hi⟩:=qq hv;obtain⟨hlt,_⟩:=q8.1 hi;exact RC.one (hcy.2 i _ v (q9 (by rw[hcy.1];exact hlt)) hi)) h8
 simp only[Nat.add_zero]at hst;have hrun:(do Instr.storeAt T (.pointer (some ⟨B,(en.base+e)*en.sz+j,none⟩)) y;pure .skip:Sem Next).run P w=.ok .skip (w.setRow B (c.toList.take ((en.base+e)*en.sz+j)++y.cells.toList++c.toList.drop ((en.base+e)*en.sz+j+y.cells.toList.length)).toArray):=by
  have hsz:y.cells.size=n:=by simpa using hyl
  simp only[Instr.storeAt,Instr.sureAddr,storeVar,Sem.run_bind,Sem.run_pure,Result.andThen_ok,Qr hT,hsz,ne_eq,not_true,if_false,hst]
 rw[hrun];have hwB:B<w.heap.size:=(je.1 h6).1;have hml:Ml m (m.set id en):=Ml.set hen (Nat.le_refl _) (λ_=>rfl);have hset:m.set id en=m:=by
  apply qy;intro i;by_cases hi:id=i
  ·subst hi;rw[qm (q8.1 hen).1,hen]
  ·rw[qt hi]
 have hother:∀k,k<w.heap.size->en.blk≠some k->(w.setRow B (c.toList.take ((en.base+e)*en.sz+j)++y.cells.toList++c.toList.drop ((en.base+e)*en.sz+j+y.cells.toList.length)).toArray).heap[k]?=w.heap[k]?:=λk _ hk=>setRow_other w B k _ (λhkb=>hk (by rw[hB,hkb]))
 have hJ:∀k,J k->(w.setRow B (c.toList.take ((en.base+e)*en.sz+j)++y.cells.toList++c.toList.drop ((en.base+e)*en.sz+j+y.cells.toList.length)).toArray).heap[k]?=w.heap[k]?:=λk hk=>hother k (hr.jlt k hk) (λhkb=>(hr.dis id en k hen hkb).1 hk)
 have hs:w.heap.size<=(w.setRow B (c.toList.take ((en.base+e)*en.sz+j)++y.cells.toList++c.toList.drop ((en.base+e)*en.sz+j+y.cells.toList.length)).toArray).heap.size:=by simp[World.setRow]
 refine⟨undef,_,J,m,.inr ⟨rfl,rfl⟩,trivial,?_,λn=>?_,Ml.refl m⟩
 ·have:=RS.upd hr (w':=w.setRow B (c.toList.take ((en.base+e)*en.sz+j)++y.cells.toList++c.toList.drop ((en.base+e)*en.sz+j+y.cells.toList.length)).toArray) en (.arr g en.sz (els.set e (K0 cs j Y.cells))) hen (Nat.le_refl _) (λ_=>rfl) (λB' hB'=>⟨.inl hB',by have:=(hr.dis id en B' hen hB').2;omega⟩) hother hs ?_
  ·rw[hset]at this;exact this
  ·rw[hset];simp only[RO];refine⟨h1,trivial,λi el hi=>?_,?_⟩
   ·by_cases hie:e=i
    ·subst hie;rw[qm hel]at hi
     obtain rfl:=Option.some.inj hi;rw[Qls (by omega),hlen]
    ·rw[qt hie]at hi
     exact h3 i el hi
   ·rw[hB];refine⟨by simpa using h5,h5',_,ty,fz,setRow_heap w B c _ ty fz h6,?_,?_,λi el k x hi hk=>?_⟩
    ·simp[hyl];omega
    ·intro k hk;apply h8;simp[hyl]at hk;omega
    ·have hsp:=λk=>Yj (cs:=c.toList) (ys:=y.cells.toList) (j:=(en.base+e)*en.sz+j) (k:=k) (by rw[hyl];simp;omega)
     simp only[Array.getElem?_toList]at hsp
     first | rw[List.getElem?_toArray,hsp] | rw[hsp]
     by_cases hie:e=i
     ·subst hie;rw[qm hel]at hi
      obtain rfl:=Option.some.inj hi;rw[Qlt (by omega)]at hk
      split at hk
      ·rename_i hkj;rw[if_pos (by omega)];obtain⟨cv,h10,h11⟩:=h9 e cs k x he hk;exact⟨cv,h10,RC.mono (λ_ h=>h) hJ (Ml.refl m) h11⟩
      ·rename_i hkj;split at hk
       ·rename_i hk2;rw[if_neg (by omega),if_pos (by rw[hyl];omega)];obtain⟨cv,h10,h11⟩:=hcy.get hk;refine⟨cv,?_,RC.mono (λ_ h=>h) hJ (Ml.refl m) h11⟩;rw[show (en.base+e)*en.sz+k-((en.base+e)*en.sz+j)=k-j by omega];simpa using h10
       ·rename_i hk2;rw[if_neg (by omega),if_neg (by rw[hyl];omega)];obtain⟨cv,h10,h11⟩:=h9 e cs k x he hk;exact⟨cv,h10,RC.mono (λ_ h=>h) hJ (Ml.refl m) h11⟩
     ·rw[qt hie]at hi
      have hkl:k<en.sz:=by
       have:=(q8.1 hk).1;have:=h3 i el hi;omega
      obtain⟨cv,h10,h11⟩:=h9 i el k x hi hk;refine⟨cv,?_,RC.mono (λ_ h=>h) hJ (Ml.refl m) h11⟩;split
      ·exact h10
      ·rename_i hq1;split
       ·rename_i hq2;exfalso;rw[hyl]at hq2
        have hq3:(en.base+i)*en.sz+k=(en.base+e)*en.sz+((en.base+i)*en.sz+k-(en.base+e)*en.sz):=by omega
        have:=Qj8 hkl (show (en.base+i)*en.sz+k-(en.base+e)*en.sz<en.sz by omega) hq3;omega
       ·exact h10
 ·have:=Ev.upd (n:=n) (J:=J) (w:=w) (w':=w.setRow B (c.toList.take ((en.base+e)*en.sz+j)++y.cells.toList++c.toList.drop ((en.base+e)*en.sz+j+y.cells.toList.length)).toArray) en hen (Nat.le_refl _) (λ_=>rfl) (λB' hB'=>.inl hB') hother hs rfl rfl rfl (Nat.le_refl _);rw[hset]at this;exact this
theorem I5 (hr:RS J h m w) {sz:Nat} {els:List (List V)} (hsz:∀(i:Nat) (el:List V),els[i]?=some el->el.length=sz) {w':World} {c:Array Value} {ty:TypeId} {fz:Nat × Nat} {cap:Nat}
  (h1:w'.os=w.os) (h2:w'.tape=w.tape) (h3:w'.output=w.output) (hdr:w.drawn<=w'.drawn) (hw:∀k,k<w.heap.size->w'.heap[k]?=w.heap[k]?) (hs:w.heap.size<w'.heap.size)
  (hnew:w'.heap[w.heap.size]?=some (.cells c ty fz)) (hcs:c.size=cap*sz) (hcap:els.length<=cap) (hml:cap<=maxLen) (hfz:∀k,k<c.size->¬ (fz.1<=k/\k<fz.2))
  (hcell:∀(i:Nat) (el:List V) (j:Nat) (x:V),els[i]?=some el->el[j]?=some x->∃cv,c[i*sz+j]?=some cv/\RC J m w x cv) :
  RS J (h++[.arr 1 sz els]) (m++[⟨1,sz,some w.heap.size,0,cap⟩]) w'/\(∀n,Ev n J m w J (m++[⟨1,sz,some w.heap.size,0,cap⟩]) w')/\Ml m (m++[⟨1,sz,some w.heap.size,0,cap⟩]):=by
 refine⟨RS.push hr _ _ (λB hB=>?_) hw (by omega) ?_,λn=>Ev.push _ (λB hB=>?_) hw (by omega) h1 h2 h3 hdr,Ml.app _ _⟩
 ·simp at hB;omega
 ·simp only[RO];refine⟨trivial,trivial,hsz,hcap,by omega,c,ty,fz,hnew,by simpa using hcs,hfz,λi el j x hi hj=>?_⟩;obtain⟨cv,h4,h5⟩:=hcell i el j x hi hj;exact⟨cv,by simpa using h4,RC.mono (λ_ h=>h) (λk hk=>hw k (hr.jlt k hk)) (Ml.app _ _) h5⟩
 ·simp at hB;omega
theorem Yr (m:List Ent) (e:Ent):(m++[e])[m.length]?=some e:=by simp
theorem I7 (hr:RS J h m w) {cs:List V} {vs:Array Value} (hv:Pw (RC J m w) cs vs.toList) (T:TypeId) {x:Value} (hx:x.cells=vs) :
  Fine J m w (h++[.arr 1 cs.length [cs]]) (.p h.length 1 0 0) ((do pure (.value (<- Instr.box T x)):Sem Next).run P w):=by
 have hlen:vs.size=cs.length:=by simpa using hv.1.symm
 have hrun:(do pure (.value (<- Instr.box T x)):Sem Next).run P w=.ok (.value (.pointer (some ⟨w.heap.size,0,none⟩))) (w.alloc (.cells vs T)):=by
  simp[Instr.box,newVar,newRow,hx]
 rw[hrun];have:=I5 hr (sz:=cs.length) (els:=[cs]) (w':=w.alloc (.cells vs T)) (c:=vs) (ty:=T) (fz:=(0,0)) (cap:=1) (by intro i el hi;cases i<;>simp at hi;subst hi;rfl)
  rfl rfl rfl (by simp) (λk hk=>heap_alloc_old w _ hk) (by simp) (heap_alloc_new w _) (by omega) (by simp) (by simp[maxLen]) (by intro k _;simp)
  (by intro i el j x hi hj
      cases i<;>simp at hi
      subst hi;obtain⟨cv,h1,h2⟩:=hv.get hj;exact⟨cv,by simpa using h1,h2⟩)
 refine⟨_,_,J,_,.inl rfl,⟨rfl,?_⟩,this.1,this.2.1,this.2.2⟩;refine⟨⟨1,cs.length,some w.heap.size,0,1⟩,by rw[<- hr.len];exact Yr _ _,by simp,λ_=>⟨w.heap.size,rfl,by simp⟩⟩
theorem Qys (hr:RS J h m w) {X:V} {x:Value} (hx:RV J m w X x) (hok:X.okA=true) (T:TypeId) :
  Fine J m w (h++[.arr 1 X.cells.length [X.cells]]) (.p h.length 1 0 0) ((do pure (.value (<- Instr.box T x)):Sem Next).run P w) :=
 I7 hr (I9 hx hok) T rfl
def zc (P:Program) (T:TypeId):Option (List V):=(P.info? T).bind λi=>i.zero.bind λz=>z.cells.toList.mapM cvL
theorem Qu2 {T:TypeId} {z:List V} (hz:zc P T=some z):∃v,(∀w,(zeroValue T).run P w=.ok v w)/\∀(J:Nat->Prop) m w,Pw (RC J m w) z v.cells.toList:=by
 unfold zc at hz;simp only[qr]at hz;obtain⟨i,hi,v,hv,hm⟩:=hz;exact⟨v,λw=>by simp[zeroValue,typeInfo,hi,hv],λJ m w=>Q2f hm⟩
theorem Qnb (hr:RS J h m w) {T:TypeId} {z:List V} (hz:zc P T=some z) :
  Fine J m w (h++[.arr 1 z.length [z]]) (.p h.length 1 0 0) ((do pure (.value (<- Instr.alloc T true (.tuple #[]))):Sem Next).run P w):=by
 obtain⟨v,hv,hp⟩:=Qu2 hz;have:=I7 (P:=P) hr (hp J m w) T rfl;have e:(do pure (.value (<- Instr.alloc T true (.tuple #[]))):Sem Next).run P w=(do pure (.value (<- Instr.box T v)):Sem Next).run P w:=by
  simp[Instr.alloc,Instr.box,hv w,newVar,newRow]
 rw[e];exact this
end
end
end Go.Abs
