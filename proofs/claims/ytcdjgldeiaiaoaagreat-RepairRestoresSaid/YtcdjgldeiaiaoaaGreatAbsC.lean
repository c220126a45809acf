/- Part of the library on which the proof stands: an abstract machine, its values and its soundness against the model; or what functions of the program do to such values. -/
import Derived.Test.YtcdjgldeiaiaoaaGreatAbsB
set_option linter.unusedVariables false
namespace Go.Abs
open Go.RowKit
theorem RO.mono {J J':Nat->Prop} {m m':List Ent} {w w':World} (hJ:∀k,J k->J' k) (hw:∀k,J k->w'.heap[k]?=w.heap[k]?) (hm:Ml m m') {e:Ent} {o:O}
  (hb:∀B,e.blk=some B->w'.heap[B]?=w.heap[B]?) (h:RO J m w e o):RO J' m' w' e o:=by
 cases o with
 | arr g sz els =>
   simp only[RO]at h ⊢
   obtain⟨h1,h2,h3,h4⟩:=h
   refine⟨h1,h2,h3,?_⟩
   cases hbk:e.blk with
   | none=>rw[hbk]at h4;exact h4
   | some B =>
     rw[hbk]at h4
     obtain⟨h5,h5',c,ty,fz,h6,h7,h8,h9⟩:=h4
     refine⟨h5,h5',c,ty,fz,by rw[hb B hbk];exact h6,h7,h8,λi el j x hi hj=>?_⟩
     obtain⟨cv,h10,h11⟩:=h9 i el j x hi hj
     exact⟨cv,h10,RC.mono hJ hw hm h11⟩
 | mp ents =>
   simp only[RO]at h ⊢
   obtain⟨h0,B,h1,es,h2,h3,h4⟩:=h
   refine⟨h0,B,h1,es,by rw[hb B h1];exact h2,h3,λi k v hi=>?_⟩
   obtain⟨en,h5,h6,h7,h8⟩:=h4 i k v hi
   exact⟨en,h5,h6,RA.mono hJ hw hm h7,RA.mono hJ hw hm h8⟩
 | md ents =>
   simp only[RO]at h ⊢
   obtain⟨h0,B,h1,es,c,h2,h3,h4⟩:=h
   refine⟨h0,B,h1,es,c,by rw[hb B h1];exact h2,h3,λi k v hi=>?_⟩
   obtain⟨en,h5,h7,h8⟩:=h4 i k v hi
   exact⟨en,h5,RA.mono hJ hw hm h7,RA.mono hJ hw hm h8⟩
 | it mid since seen =>
   simp only[RO]at h ⊢
   obtain⟨h0,h01,h02,B,h1,mb,h2,h3⟩:=h
   refine⟨h0,h01,h02,B,h1,mb,by rw[hb B h1];exact h2,?_⟩
   cases mid with
   | none=>exact h3
   | some i =>
     obtain⟨e',h4,h5,h6⟩:=h3
     obtain⟨e2,h7,h8,h9⟩:=hm i e' h4
     refine⟨e2,h7,by omega,λhg=>?_⟩
     have:=h9 (by omega)
     subst this
     exact h6 hg
 | dead=>trivial
theorem RS.same {J J':Nat->Prop} {h:List O} {m:List Ent} {w w':World} (hr:RS J h m w) (hJ:∀k,J k->J' k) (hn:∀k,J' k->J k∨w.heap.size<=k) (hlt:∀k,J' k->k<w'.heap.size)
  (hw:∀k,k<w.heap.size->w'.heap[k]?=w.heap[k]?) (hs:w.heap.size<=w'.heap.size):RS J' h m w' where
 len:=hr.len
 jlt:=hlt
 dis:=λid e B h1 h2=>by
  have:=hr.dis id e B h1 h2
  refine⟨λh3=>?_,by omega⟩
  rcases hn B h3 with h4 | h4
  ·exact this.1 h4
  ·omega
 inj:=hr.inj
 obj:=λid e o h1 h2=>RO.mono hJ (λk hk=>hw k (hr.jlt k hk)) (Ml.refl m) (λB hB=>hw B (hr.dis id e B h1 hB).2) (hr.obj id e o h1 h2)
theorem Ev.same {n:Nat} {J J':Nat->Prop} {m:List Ent} {w w':World} (hJ:∀k,J k->J' k) (hn:∀k,J' k->J k∨w.heap.size<=k)
  (hw:∀k,k<w.heap.size->w'.heap[k]?=w.heap[k]?) (hs:w.heap.size<=w'.heap.size) (h1:w'.os=w.os) (h2:w'.tape=w.tape) (h3:w'.output=w.output) (hdr:w.drawn<=w'.drawn):Ev n J m w J' m w' where
 os:=h1
 tape:=h2
 output:=h3
 drawn:=hdr
 size:=hs
 keep:=λk hk _=>hw k hk
 fresh:=λid e B a b=>.inr ⟨id,e,a,b⟩
 sub:=hJ
 jnew:=λk hk=>(hn k hk).imp id .inl
 ents:=λid e _ a=>⟨e,a,Nat.le_refl _,λ_=>rfl⟩
theorem Ev.push {n:Nat} {J:Nat->Prop} {m:List Ent} {w w':World} (e':Ent) (hb:∀B,e'.blk=some B->w.heap.size<=B)
  (hw:∀k,k<w.heap.size->w'.heap[k]?=w.heap[k]?) (hs:w.heap.size<=w'.heap.size) (h1:w'.os=w.os) (h2:w'.tape=w.tape) (h3:w'.output=w.output) (hdr:w.drawn<=w'.drawn):Ev n J m w J (m++[e']) w' where
 os:=h1
 tape:=h2
 output:=h3
 drawn:=hdr
 size:=hs
 keep:=λk hk _=>hw k hk
 fresh:=λid e B a b=>by
  by_cases hid:id<m.length
  ·rw[qd hid]at a
   exact .inr ⟨id,e,a,b⟩
  ·rw[qf (by omega)]at a
   rcases Nat.eq_zero_or_pos (id-m.length) with h0 | h0
   ·rw[h0]at a
    simp only[List.getElem?_cons_zero,Option.some.injEq]at a
    subst a
    exact .inl (hb B b)
   ·rw[show id-m.length=(id-m.length-1)+1 by omega]at a
    simp at a
 sub:=λ_ h=>h
 jnew:=λk hk=>.inl hk
 ents:=λid e _ a=>Ml.app m [e'] id e a
theorem RS.push {J:Nat->Prop} {h:List O} {m:List Ent} {w w':World} (hr:RS J h m w) (e':Ent) (o':O) (hb:∀B,e'.blk=some B->w.heap.size<=B/\B<w'.heap.size)
  (hw:∀k,k<w.heap.size->w'.heap[k]?=w.heap[k]?) (hs:w.heap.size<=w'.heap.size) (ho:RO J (m++[e']) w' e' o'):RS J (h++[o']) (m++[e']) w':=by
 have key:∀(id:Nat) (e:Ent),(m++[e'])[id]?=some e->(id<m.length/\m[id]?=some e)∨(id=m.length/\e=e'):=by
  intro id e a
  by_cases hid:id<m.length
  ·rw[qd hid]at a
   exact .inl ⟨hid,a⟩
  ·rw[qf (by omega)]at a
   rcases Nat.eq_zero_or_pos (id-m.length) with h0 | h0
   ·rw[h0]at a
    simp only[List.getElem?_cons_zero,Option.some.injEq]at a
    exact .inr ⟨by omega,a.symm⟩
   ·rw[show id-m.length=(id-m.length-1)+1 by omega]at a
    simp at a
 have hl:=hr.len
 refine⟨by simp[hr.len],λk hk=>Nat.lt_of_lt_of_le (hr.jlt k hk) hs,?_,?_,?_⟩
 ·intro id e B h1 h2
  rcases key id e h1 with⟨_,h3⟩ | ⟨_,rfl⟩
  ·have:=hr.dis id e B h3 h2
   exact⟨this.1,by omega⟩
  ·have:=hb B h2
   exact⟨λhj=>by have:=hr.jlt B hj;omega,this.2⟩
 ·intro id id' e e2 B h1 h2 h3 h4
  rcases key id e h1 with⟨_,h5⟩ | ⟨h5,rfl⟩<;>rcases key id' e2 h2 with⟨_,h6⟩ | ⟨h6,rfl⟩
  ·exact hr.inj id id' e e2 B h5 h6 h3 h4
  ·have:=(hr.dis id e B h5 h3).2;have:=(hb B h4).1;omega
  ·have:=(hr.dis id' e2 B h6 h4).2;have:=(hb B h3).1;omega
  ·omega
 ·intro id e o h1 h2
  rcases key id e h1 with⟨h4,h3⟩ | ⟨h4,rfl⟩
  ·rw[qd (by omega)]at h2
   exact RO.mono (λ_ h=>h) (λk hk=>hw k (hr.jlt k hk)) (Ml.app m [e']) (λB hB=>hw B (hr.dis id e B h3 hB).2) (hr.obj id e o h3 h2)
  ·rw[qf (by omega),show id-h.length=0 by omega]at h2
   simp only[List.getElem?_cons_zero,Option.some.injEq]at h2
   subst h2
   exact ho
theorem Ml.set {m:List Ent} {id:Nat} {e e':Ent} (he:m[id]?=some e) (h1:e.gen<=e'.gen) (h2:e.gen=e'.gen∨e.gen=0->e'=e):Ml m (m.set id e'):=by
 intro i x hx
 by_cases hi:id=i
 ·subst hi
  obtain rfl:e=x:=Option.some.inj (he.symm.trans hx)
  exact⟨e',by rw[qn (q8.1 hx).1],h1,h2⟩
 ·exact⟨x,by rw[qu hi];exact hx,Nat.le_refl _,λ_=>rfl⟩
theorem RS.upd {J:Nat->Prop} {h:List O} {m:List Ent} {w w':World} (hr:RS J h m w) {id:Nat} {e:Ent} (e':Ent) (o':O) (he:m[id]?=some e) (h1:e.gen<=e'.gen) (h2:e.gen=e'.gen∨e.gen=0->e'=e)
  (hb:∀B,e'.blk=some B->(e.blk=some B∨w.heap.size<=B)/\B<w'.heap.size)
  (hw:∀k,k<w.heap.size->e.blk≠some k->w'.heap[k]?=w.heap[k]?) (hs:w.heap.size<=w'.heap.size) (ho:RO J (m.set id e') w' e' o'):RS J (h.set id o') (m.set id e') w':=by
 have hid:id<m.length:=(q8.1 he).1
 have key:∀(i:Nat) (x:Ent),(m.set id e')[i]?=some x->(i=id/\x=e')∨(i≠id/\m[i]?=some x):=by
  intro i x hx
  by_cases hi:id=i
  ·subst hi
   rw[qn hid]at hx
   exact .inl ⟨rfl,(Option.some.inj hx).symm⟩
  ·rw[qu hi]at hx
   exact .inr ⟨λh=>hi h.symm,hx⟩
 have hl:=hr.len
 refine⟨by simp[hr.len],λk hk=>Nat.lt_of_lt_of_le (hr.jlt k hk) hs,?_,?_,?_⟩
 ·intro i x B hx hB
  rcases key i x hx with⟨rfl,rfl⟩ | ⟨_,h3⟩
  ·obtain⟨h4,h5⟩:=hb B hB
   refine⟨λhj=>?_,h5⟩
   rcases h4 with h4 | h4
   ·exact(hr.dis i e B he h4).1 hj
   ·have:=hr.jlt B hj;omega
  ·have:=hr.dis i x B h3 hB
   exact⟨this.1,by omega⟩
 ·intro i i' x x' B hx hx' hB hB'
  rcases key i x hx with⟨rfl,rfl⟩ | ⟨hne,h3⟩<;>rcases key i' x' hx' with⟨h6,h7⟩ | ⟨hne',h4⟩
  ·exact h6.symm
  ·rcases (hb B hB).1 with h5 | h5
   ·exact hr.inj i i' e x' B he h4 h5 hB'
   ·have:=(hr.dis i' x' B h4 hB').2;omega
  ·subst h6;subst h7
   rcases (hb B hB').1 with h5 | h5
   ·exact hr.inj i i' x e B h3 he hB h5
   ·have:=(hr.dis i x B h3 hB).2;omega
  ·exact hr.inj i i' x x' B h3 h4 hB hB'
 ·intro i x o hx hO
  rcases key i x hx with⟨rfl,rfl⟩ | ⟨hne,h3⟩
  ·rw[qn (by omega)]at hO
   obtain rfl:=Option.some.inj hO
   exact ho
  ·rw[qu (λh=>hne h.symm)]at hO
   refine RO.mono (λ_ h=>h) (λk hk=>hw k (hr.jlt k hk) λhk'=>(hr.dis id e k he hk').1 hk) (Ml.set he h1 h2)
    (λB hB=>hw B (hr.dis i x B h3 hB).2 λhB'=>hne (hr.inj i id x e B h3 he hB hB')) (hr.obj i x o h3 hO)
theorem Ev.upd {n:Nat} {J:Nat->Prop} {m:List Ent} {w w':World} {id:Nat} {e:Ent} (e':Ent) (he:m[id]?=some e) (h1:e.gen<=e'.gen) (h2:e.gen=e'.gen∨e.gen=0->e'=e)
  (hb:∀B,e'.blk=some B->(e.blk=some B∨w.heap.size<=B))
  (hw:∀k,k<w.heap.size->e.blk≠some k->w'.heap[k]?=w.heap[k]?) (hs:w.heap.size<=w'.heap.size) (h3:w'.os=w.os) (h4:w'.tape=w.tape) (h5:w'.output=w.output) (hdr:w.drawn<=w'.drawn):Ev n J m w J (m.set id e') w' where
 os:=h3
 tape:=h4
 output:=h5
 drawn:=hdr
 size:=hs
 keep:=λk hk hm=>hw k hk (hm id e he)
 fresh:=λi x B hx hB=>by
  by_cases hi:id=i
  ·subst hi
   rw[qn (q8.1 he).1]at hx
   obtain rfl:=Option.some.inj hx
   rcases hb B hB with h6 | h6
   ·exact .inr ⟨id,e,he,h6⟩
   ·exact .inl h6
  ·rw[qu hi]at hx
   exact .inr ⟨i,x,hx,hB⟩
 sub:=λ_ h=>h
 jnew:=λk hk=>.inl hk
 ents:=λi x _ hx=>Ml.set he h1 h2 i x hx
def Fine (J:Nat->Prop) (m:List Ent) (w:World) (h':List O) (r:V) (res:Result Next):Prop :=
 ∃v w' J' m',(res=.ok (.value v) w'∨(res=.ok .skip w'/\v=undef))/\RV J' m' w' r v/\RS J' h' m' w'/\(∀n,Ev n J m w J' m' w')/\Ml m m'
theorem Fine.pure {J:Nat->Prop} {m:List Ent} {w:World} {h:List O} {r:V} {v:Value} (hs:RS J h m w) (hv:RV J m w r v):Fine J m w h r (.ok (.value v) w) :=
 ⟨v,w,J,m,.inl rfl,hv,hs,λn=>Ev.refl n J m w,Ml.refl m⟩
def cvL:Value->Option V
 | .bool b=>some (.b b)
 | .int k n=>some (.i k n)
 | .string s=>some (.s s.data.toList)
 | .slice none 0 0=>some .nil
 | .pointer none=>some .np
 | .map none=>some .mnil
 | .func (.func f) first caps=>if first.isEmpty && caps.isEmpty then some (.f f []) else none
 | .nilFunc=>some .any
 | .nilIface=>some .any
 | _=>none
def cvV:Value->V
 | .agg cs=>match cs.toList.mapM cvL with
   | some l=>.a l
   | none=>.any
 | v=>(cvL v).getD .any
def cvA:Operand->A
 | .tmp t=>.t t
 | .const v=>.c (cvV v)
 | .global _=>.c .any
 | .func f=>.c (.f f [])
section
variable {J:Nat->Prop} {m:List Ent} {w:World}
theorem Qn {v:V} {c:Value} (h:RD J w v c):RC J m w v c:=by
 cases h<;>simp only[RC,RL]
 case b x=>exact .b x
 case i k n=>exact .i k n
 case s x=>exact .s x
 case nil0=>exact .nil0
 case nil1 a=>exact .nil1 a
 case l0 sz=>exact .l0 sz
 case l1 sz a cap=>exact .l1 sz a cap
 case l sz els a cap cs hj hc hsz hcell hr=>exact .l sz els a cap cs hj hc hsz hcell hr
theorem Wp {v:V} {c:Value} (hv:v.isD=true) (h:RC J m w v c):RD J w v c:=by
 cases v<;>simp[V.isD]at hv<;>exact h
theorem Qq {v:V} {c:Value} (h:RC J m w v c):RA J m w v c:=by
 cases v<;>first | exact h | trivial | (simp only[RC,RL]at h)
theorem Qw {v:V} {c:Value} (h:RA J m w v c):RV J m w v c:=by
 cases v<;>first | exact h | (simp only[RA,RC,RL]at h)
theorem Qe {v:V} {c:Value} (h:RC J m w v c):RV J m w v c:=Qw (Qq h)
theorem Qkw {v:V} {c:Value} (hv:v.isC=true) (ha:v≠.any) (h:RA J m w v c):RC J m w v c:=by
 cases v<;>first | exact h | exact absurd rfl ha | simp[V.isC]at hv
theorem Qky {v:V} {c:Value} (hv:∀vs,v≠.t vs) (h:RV J m w v c):RA J m w v c:=by
 cases v<;>first | exact h | exact absurd rfl (hv _)
theorem Qbo {v:Value} {x:V} (h:cvL v=some x):RC J m w x v:=by
 unfold cvL at h
 split at h<;>simp at h<;>try subst h
 ·exact .b _
 ·exact .i _ _
 ·rename_i s
  have:RD J w (.s s.data.toList) (.string ⟨s.data.toList.toArray⟩):=.s _
  exact this
 ·exact .nil0
 ·rfl
 ·rfl
 ·obtain⟨⟨h1,h2⟩,rfl⟩:=h
  subst h1;subst h2
  exact⟨#[],rfl,rfl,by simp⟩
 ·rfl
 ·rfl
theorem Pw.nil {R:V->Value->Prop}:Pw R [] []:=⟨rfl,by simp⟩
theorem Pw.cons {R:V->Value->Prop} {v:V} {c:Value} {vs:List V} {cs:List Value} (h:R v c) (ht:Pw R vs cs):Pw R (v::vs) (c::cs):=by
 refine⟨by simp[ht.1],λi x y hx hy=>?_⟩
 cases i with
 | zero=>simp at hx hy;subst hx;subst hy;exact h
 | succ i=>simp at hx hy;exact ht.2 i x y hx hy
theorem Pw.head {R:V->Value->Prop} {v:V} {c:Value} {vs:List V} {cs:List Value} (h:Pw R (v::vs) (c::cs)):R v c:=h.2 0 v c rfl rfl
theorem Pw.tail {R:V->Value->Prop} {v:V} {c:Value} {vs:List V} {cs:List Value} (h:Pw R (v::vs) (c::cs)):Pw R vs cs :=
 ⟨by have:=h.1;simpa using this,λi x y hx hy=>h.2 (i+1) x y (by simpa using hx) (by simpa using hy)⟩
theorem Pw.get {R:V->Value->Prop} {vs:List V} {cs:List Value} (h:Pw R vs cs) {i:Nat} {v:V} (hv:vs[i]?=some v):∃c,cs[i]?=some c/\R v c:=by
 have hi:=(q8.1 hv).1
 have:i<cs.length:=by rw[<- h.1];exact hi
 exact⟨cs[i],q9 this,h.2 i v _ hv (q9 this)⟩
theorem Pw.drop {R:V->Value->Prop} {vs:List V} {cs:List Value} (h:Pw R vs cs) (n:Nat):Pw R (vs.drop n) (cs.drop n) :=
 ⟨by simp[h.1],λi x y hx hy=>h.2 (n+i) x y (by simpa using hx) (by simpa using hy)⟩
theorem Pw.take {R:V->Value->Prop} {vs:List V} {cs:List Value} (h:Pw R vs cs) (n:Nat):Pw R (vs.take n) (cs.take n) :=
 ⟨by simp[h.1],λi x y hx hy=>by
  rw[jb]at hx hy
  split at hx
  ·rename_i hlt
   rw[if_pos hlt]at hy
   exact h.2 i x y hx hy
  ·simp at hx⟩
theorem Pw.append {R:V->Value->Prop} {vs us:List V} {cs ds:List Value} (h:Pw R vs cs) (k:Pw R us ds):Pw R (vs++us) (cs++ds):=by
 refine⟨by simp[h.1,k.1],λi x y hx hy=>?_⟩
 by_cases hi:i<vs.length
 ·rw[qd hi]at hx
  rw[qd (h.1 ▸ hi)]at hy
  exact h.2 i x y hx hy
 ·rw[qf (by omega)]at hx
  rw[qf (by have:=h.1;omega),<- h.1]at hy
  exact k.2 _ x y hx hy
theorem I9 {cs:List Value} {l:List V} (h:cs.mapM cvL=some l):Pw (RC J m w) l cs:=by
 induction cs generalizing l with
 | nil=>simp at h;subst h;exact Pw.nil
 | cons c cs ih =>
   simp only[List.mapM_cons,Option.bind_eq_bind,qt,Option.pure_def,Option.some.injEq]at h
   obtain⟨x,hx,r,hrr,rfl⟩:=h
   exact Pw.cons (Qbo hx) (ih hrr)
theorem cvV_ok (v:Value):RA J m w (cvV v) v:=by
 unfold cvV
 split
 ·split
  ·rename_i cs o l h
   exact⟨cs,rfl,I9 h⟩
  ·trivial
 ·cases h:cvL v with
  | none=>trivial
  | some x=>exact Qq (Qbo h)
end
end Go.Abs
