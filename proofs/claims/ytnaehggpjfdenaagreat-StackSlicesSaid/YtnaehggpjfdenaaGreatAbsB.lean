/- Part of the library on which the proof stands: an abstract machine, its values and its soundness against the model; or what functions of the program do to such values. -/
import Derived.WalkKit
set_option linter.unusedVariables false
namespace Go.Abs
abbrev q8:=@List.getElem?_eq_some_iff
abbrev q9:=@List.getElem?_eq_getElem
abbrev qa:=@Option.map_eq_some_iff
abbrev qb:=@List.mem_of_getElem?
abbrev qd:=@List.getElem?_append_left
abbrev qe:=@List.take_of_length_le
abbrev qf:=@List.getElem?_append_right
abbrev qg:=@List.mem_append
abbrev qh:=@Nat.le_of_ble_eq_true
abbrev qi:=@List.take_length
abbrev qj:=@List.all_eq_true
abbrev qk:=@List.getElem?_eq_none
abbrev ql:=@List.eq_nil_of_length_eq_zero
abbrev qm:=@List.getElem?_set_self
abbrev qn:=@List.mem_singleton
abbrev qo:=@List.mem_map
abbrev qp:=@List.getElem?_map
abbrev qq:=@List.getElem?_of_mem
abbrev qr:=@Option.bind_eq_some_iff
abbrev qt:=@List.getElem?_set_ne
abbrev qu:=@List.mem_filter
abbrev qv:=@List.length_take
abbrev qx:=@List.map_append
abbrev qy:=@List.ext_getElem?
abbrev qz:=@List.mem_range
abbrev j6:=@List.append_assoc
abbrev j7:=@List.length_append
abbrev j8:=@List.pairwise_iff_getElem
abbrev j9:=@Nat.mul_le_mul_right
abbrev ja:=@Option.ite_none_right_eq_some
abbrev jb:=@Decidable.byContradiction
abbrev jc:=@List.length_filter_le
abbrev jd:=@List.pairwise_cons
abbrev je:=@Array.getElem?_eq_some_iff
abbrev jf:=@List.getElem?_take
abbrev jg:=@List.pairwise_append
abbrev jh:=@List.getElem?_drop
abbrev ji:=@List.pairwise_map
abbrev jk:=@List.getElem?_replicate
abbrev jl:=@List.length_pos_iff
abbrev jm:=@Int.mul_le_mul_of_nonneg_left
abbrev jn:=@Int.mul_le_mul_of_nonneg_right
abbrev jo:=@List.getElem?_range
abbrev jp:=@List.mem_of_mem_take
abbrev jq:=@List.set_append_right
abbrev jr:=@List.mem_flatMap
abbrev jt:=@Int.tmod_eq_emod_of_nonneg
abbrev ju:=@List.mem_map_of_mem
abbrev jv:=@List.map_congr_left
abbrev jw:=@Array.getElem?_append_left
theorem Rfl {p:Prop}(h:p):p:=h
open Go.RowKit
inductive V where
 | any
 | b (x:Bool)
 | i (k:IntKind) (n:Int)
 | s (x:List UInt8)
 | nil
 | l (sz:Nat) (els:List (List V))
 | own (id g off len:Nat)
 | p (id g e j:Nat)
 | ip (cells:List V)
 | np
 | mp (id:Nat)
 | mnil
 | f (fn:FuncId) (caps:List V)
 | a (cells:List V)
 | t (vs:List V)
structure Ent where
 gen:Nat
 sz:Nat
 blk:Option Nat
 base:Nat
 cap:Nat
inductive O where
 | arr (g sz:Nat) (els:List (List V))
 | mp (ents:List (V × V))
 | md (ents:List (V × V))
 | it (mid:Option Nat) (since:Nat) (seen:List Nat)
 | dead
inductive RD (J:Nat->Prop) (w:World):V->Value->Prop
 | b (x:Bool):RD J w (.b x) (.bool x)
 | i (k:IntKind) (n:Int):RD J w (.i k n) (.int k n)
 | s (x:List UInt8):RD J w (.s x) (.string ⟨x.toArray⟩)
 | nil0:RD J w .nil (.slice none 0 0)
 | nil1 (a:Addr):RD J w .nil (.slice (some a) 0 0)
 | l0 (sz:Nat):RD J w (.l sz []) (.slice none 0 0)
 | l1 (sz:Nat) (a:Addr) (cap:Nat):RD J w (.l sz []) (.slice (some a) 0 cap)
 | l (sz:Nat) (els:List (List V)) (a:Addr) (cap:Nat) (cs:Nat->Nat->Value) (hj:J a.block) (hc:els.length<=cap)
     (hsz:∀(i:Nat) (el:List V),els[i]?=some el->el.length=sz)
     (hcell:∀i j:Nat,i<els.length->j<sz->w.cell? (a.add (i*sz+j))=some (cs i j))
     (hr:∀(i:Nat) (el:List V) (j:Nat) (v:V),els[i]?=some el->el[j]?=some v->RD J w v (cs i j)):RD J w (.l sz els) (.slice (some a) els.length cap)
def Pw (R:V->Value->Prop) (vs:List V) (cs:List Value):Prop :=
 vs.length=cs.length/\∀(i:Nat) v c,vs[i]?=some v->cs[i]?=some c->R v c
def Ent.sl (e:Ent) (off len:Nat) (v:Value):Prop :=
 match e.blk with
 | none=>off=0/\len=0/\(v=.slice none 0 0∨∃a,v=.slice (some a) 0 0)
 | some B=>∃o c,v=.slice (some ⟨B,o,none⟩) len c/\(len<=c/\off+c<=e.cap)/\(0<c->o=(e.base+off)*e.sz)
def RL (J:Nat->Prop) (m:List Ent) (w:World):V->Value->Prop
 | .any,v=>v.oneCell'=true
 | .own id g off len,v=>v.oneCell'=true/\∃e,m[id]?=some e/\(1<=g/\g<=e.gen)/\(g=e.gen->e.sl off len v)
 | .p id g el j,v=>v.oneCell'=true/\∃e,m[id]?=some e/\(1<=g/\g<=e.gen)/\(g=e.gen->∃B,e.blk=some B/\v=.pointer (some ⟨B,(e.base+el)*e.sz+j,none⟩))
 | .ip cells,v=>∃a,v=.pointer (some a)/\J a.block/\∀(j:Nat) (x:V),cells[j]?=some x->∃c,w.cell? (a.add j)=some c/\RD J w x c
 | .np,v=>v=.pointer none
 | .mp id,v=>v.oneCell'=true/\∃e,m[id]?=some e/\1<=e.gen/\(1=e.gen->∃B,e.blk=some B/\v=.map (some B))
 | .mnil,v=>v=.map none
 | .b x,v=>RD J w (.b x) v
 | .i k n,v=>RD J w (.i k n) v
 | .s x,v=>RD J w (.s x) v
 | .nil,v=>RD J w .nil v
 | .l sz els,v=>RD J w (.l sz els) v
 | .f _ _,_=>False
 | .a _,_=>False
 | .t _,_=>False
def RC (J:Nat->Prop) (m:List Ent) (w:World):V->Value->Prop
 | .f fn caps,v=>∃cs,v=.func (.func fn) #[] cs/\Pw (RL J m w) caps cs.toList
 | x,v=>RL J m w x v
def RA (J:Nat->Prop) (m:List Ent) (w:World):V->Value->Prop
 | .any,_=>True
 | .a cs,v=>∃arr,v=.agg arr/\Pw (RC J m w) cs arr.toList
 | x,v=>RC J m w x v
def RV (J:Nat->Prop) (m:List Ent) (w:World):V->Value->Prop
 | .t vs,v=>∃arr,v=.tuple arr/\Pw (RA J m w) vs arr.toList
 | x,v=>RA J m w x v
def RO (J:Nat->Prop) (m:List Ent) (w:World) (e:Ent):O->Prop
 | .arr g sz els=>e.gen=g/\e.sz=sz/\(∀(i:Nat) (el:List V),els[i]?=some el->el.length=sz) /\
   (match e.blk with
    | none=>els=[]/\e.cap=0
    | some B=>els.length<=e.cap/\e.base+e.cap<=maxLen/\∃c ty fz,w.heap[B]?=some (.cells c ty fz)/\c.size=(e.base+e.cap)*sz /\
      (∀k,k<c.size->¬ (fz.1<=k/\k<fz.2)) /\
      ∀(i:Nat) (el:List V) (j:Nat) (x:V),els[i]?=some el->el[j]?=some x->∃cv:Value,c[(e.base+i)*sz+j]?=some cv/\RC J m w x cv)
 | .mp ents=>e.gen=1/\∃B,e.blk=some B/\∃es:Array MapEntry,w.heap[B]?=some (.map es es.size)/\es.size=ents.length /\
   ∀(i:Nat) (k v:V),ents[i]?=some (k,v)->∃en:MapEntry,es[i]?=some en/\en.born=i/\RA J m w k en.key/\RA J m w v en.val
 | .md ents=>e.gen=1/\∃B,e.blk=some B/\∃(es:Array MapEntry) (c:Nat),w.heap[B]?=some (.map es c)/\es.size=ents.length /\
   ∀(i:Nat) (k v:V),ents[i]?=some (k,v)->∃en:MapEntry,es[i]?=some en/\RA J m w k en.key/\RA J m w v en.val
 | .it mid since seen=>e.gen=1/\e.base=0/\e.sz=0/\∃B,e.blk=some B/\∃(mb:Option Nat),w.heap[B]?=some (.mapIter mb since seen.toArray since) /\
   (match mid with
    | none=>mb=none
    | some i=>∃e',m[i]?=some e'/\1<=e'.gen/\(1=e'.gen->∃B',e'.blk=some B'/\mb=some B'))
 | .dead=>True
structure RS (J:Nat->Prop) (h:List O) (m:List Ent) (w:World):Prop where
 len:m.length=h.length
 jlt:∀k,J k->k<w.heap.size
 dis:∀(id:Nat) (e:Ent) (B:Nat),m[id]?=some e->e.blk=some B->¬ J B/\B<w.heap.size
 inj:∀(id id':Nat) (e e':Ent) (B:Nat),m[id]?=some e->m[id']?=some e'->e.blk=some B->e'.blk=some B->id=id'
 obj:∀(id:Nat) (e:Ent) (o:O),m[id]?=some e->h[id]?=some o->RO J m w e o
structure Ev (n:Nat) (J:Nat->Prop) (m:List Ent) (w:World) (J':Nat->Prop) (m':List Ent) (w':World):Prop where
 os:w'.os=w.os
 tape:w'.tape=w.tape
 output:w'.output=w.output
 drawn:w.drawn<=w'.drawn
 size:w.heap.size<=w'.heap.size
 keep:∀k,k<w.heap.size->(∀(id:Nat) (e:Ent),m[id]?=some e->e.blk≠some k)->w'.heap[k]?=w.heap[k]?
 fresh:∀(id:Nat) (e:Ent) (B:Nat),m'[id]?=some e->e.blk=some B->w.heap.size<=B∨∃(id0:Nat) (e0:Ent),m[id0]?=some e0/\e0.blk=some B
 sub:∀k,J k->J' k
 jnew:∀k,J' k->J k∨w.heap.size<=k∨∃(id0:Nat) (e0:Ent),m[id0]?=some e0/\e0.blk=some k
 ents:∀(id:Nat) (e:Ent),id<n->m[id]?=some e->∃e',m'[id]?=some e'/\e.gen<=e'.gen/\(e.gen=e'.gen∨e.gen=0->e'=e)
theorem Ev.refl (n:Nat) (J:Nat->Prop) (m:List Ent) (w:World):Ev n J m w J m w :=
 ⟨rfl,rfl,rfl,Nat.le_refl _,Nat.le_refl _,λ_ _ _=>rfl,λid e B h1 h2=>.inr ⟨id,e,h1,h2⟩,λ_ h=>h,λ_ h=>.inl h,λ_ e _ h=>⟨e,h,Nat.le_refl _,λ_=>rfl⟩⟩
theorem Ev.trans {n:Nat} {J J1 J2:Nat->Prop} {m m1 m2:List Ent} {w w1 w2:World} (h:Ev n J m w J1 m1 w1) (k:Ev n J1 m1 w1 J2 m2 w2):Ev n J m w J2 m2 w2 where
 os:=k.os.trans h.os
 tape:=k.tape.trans h.tape
 output:=k.output.trans h.output
 drawn:=Nat.le_trans h.drawn k.drawn
 size:=Nat.le_trans h.size k.size
 keep:=λb hb hm=>by
  rw[k.keep b (Nat.lt_of_lt_of_le hb h.size) (λid e h1 h2=>?_),h.keep b hb hm];rcases h.fresh id e b h1 h2 with h3 | ⟨id0,e0,h3,h4⟩
  ·omega
  ·exact hm id0 e0 h3 h4
 fresh:=λid e B h1 h2=>by
  rcases k.fresh id e B h1 h2 with h3 | ⟨id0,e0,h3,h4⟩
  ·exact .inl (Nat.le_trans h.size h3)
  ·exact h.fresh id0 e0 B h3 h4
 sub:=λb hb=>k.sub b (h.sub b hb)
 jnew:=λb hb=>by
  rcases k.jnew b hb with h1 | h1 | ⟨id0,e0,h3,h4⟩
  ·exact h.jnew b h1
  ·exact .inr (.inl (Nat.le_trans h.size h1))
  ·rcases h.fresh id0 e0 b h3 h4 with h5 | h5
   ·exact .inr (.inl h5)
   ·exact .inr (.inr h5)
 ents:=λid e hn h1=>by
  obtain⟨e1,h2,h3,h4⟩:=h.ents id e hn h1;obtain⟨e2,h5,h6,h7⟩:=k.ents id e1 hn h2;refine⟨e2,h5,Nat.le_trans h3 h6,λhe=>?_⟩;have h8:=h4 (by omega);subst h8;exact h7 he
theorem RD.one {J:Nat->Prop} {w:World} {v:V} {c:Value} (h:RD J w v c):c.oneCell'=true:=by cases h<;>rfl
theorem RL.one {J:Nat->Prop} {m:List Ent} {w:World} {v:V} {c:Value} (h:RL J m w v c):c.oneCell'=true:=by
 cases v<;>simp only[RL]at h
 case any=>exact h
 case own=>exact h.1
 case p=>exact h.1
 case ip=>obtain⟨a,rfl,_⟩:=h;rfl
 case np=>subst h;rfl
 case mp=>exact h.1
 case mnil=>subst h;rfl
 all_goals exact RD.one h
theorem RC.one {J:Nat->Prop} {m:List Ent} {w:World} {v:V} {c:Value} (h:RC J m w v c):c.oneCell'=true:=by
 cases v<;>simp only[RC]at h
 case f=>obtain⟨_,rfl,_⟩:=h;rfl
 all_goals exact RL.one h
theorem RD.mono {J J':Nat->Prop} {w w':World} (hJ:∀k,J k->J' k) (hw:∀k,J k->w'.heap[k]?=w.heap[k]?) {v:V} {c:Value} (h:RD J w v c):RD J' w' v c:=by
 induction h with
 | b x=>exact .b x
 | i k n=>exact .i k n
 | s x=>exact .s x
 | nil0=>exact .nil0
 | nil1 a=>exact .nil1 a
 | l0 sz=>exact .l0 sz
 | l1 sz a cap=>exact .l1 sz a cap
 | l sz els a cap cs hj hc hsz hcell _ ih =>
   refine .l sz els a cap cs (hJ _ hj) hc hsz (λi j hi hjj=>?_) ih;rw[World.cell?_of_block (w:=w),hcell i j hi hjj];have:(a.add (i*sz+j)).block=a.block:=by unfold Addr.add;split<;>rfl
   rw[this];exact hw _ hj
def Ml (m m':List Ent):Prop:=∀(id:Nat) (e:Ent),m[id]?=some e->∃e',m'[id]?=some e'/\e.gen<=e'.gen/\(e.gen=e'.gen∨e.gen=0->e'=e)
def Ml0 (m m':List Ent):Prop:=∀(id:Nat) (e:Ent),m[id]?=some e->1<=e.gen->∃e',m'[id]?=some e'/\e.gen<=e'.gen/\(e.gen=e'.gen->e'=e)
theorem Ml.weak {m m':List Ent} (h:Ml m m'):Ml0 m m':=λid e he _=>by
 obtain⟨e',h1,h2,h3⟩:=h id e he;exact⟨e',h1,h2,λhg=>h3 (.inl hg)⟩
theorem Ml.refl (m:List Ent):Ml m m:=λ_ e h=>⟨e,h,Nat.le_refl _,λ_=>rfl⟩
theorem Ml.nil (m:List Ent):Ml [] m:=λ_ _ h=>by simp at h
theorem Ml.app (m k:List Ent):Ml m (m++k):=λid e h=>⟨e,by rw[qd (q8.1 h).1];exact h,Nat.le_refl _,λ_=>rfl⟩
theorem Pw.imp {R R':V->Value->Prop} {vs:List V} {cs:List Value} (h:Pw R vs cs) (hr:∀v c,R v c->R' v c):Pw R' vs cs :=
 ⟨h.1,λi v c h1 h2=>hr _ _ (h.2 i v c h1 h2)⟩
section mono0
variable {J J':Nat->Prop} {m m':List Ent} {w w':World} (hJ:∀k,J k->J' k) (hw:∀k,J k->w'.heap[k]?=w.heap[k]?) (hm:Ml0 m m')
include hJ hw hm
theorem RL.mono0 {v:V} {c:Value} (h:RL J m w v c):RL J' m' w' v c:=by
 cases v<;>simp only[RL]at h ⊢
 case any=>exact h
 case own id g off len =>
  obtain⟨h0,e,h1,h2,h3⟩:=h;obtain⟨e',h4,h5,h6⟩:=hm id e h1 (by omega);refine⟨h0,e',h4,⟨h2.1,Nat.le_trans h2.2 h5⟩,λhg=>?_⟩;have:=h6 (by omega);subst this;exact h3 (by omega)
 case p id g el j =>
  obtain⟨h0,e,h1,h2,h3⟩:=h;obtain⟨e',h4,h5,h6⟩:=hm id e h1 (by omega);refine⟨h0,e',h4,⟨h2.1,Nat.le_trans h2.2 h5⟩,λhg=>?_⟩;have:=h6 (by omega);subst this;exact h3 (by omega)
 case ip cells =>
  obtain⟨a,h1,h2,h3⟩:=h;refine⟨a,h1,hJ _ h2,λj x hx=>?_⟩;obtain⟨cv,h4,h5⟩:=h3 j x hx;refine⟨cv,?_,h5.mono hJ hw⟩;rw[World.cell?_of_block (w:=w),h4];have:(a.add j).block=a.block:=by unfold Addr.add;split<;>rfl
  rw[this];exact hw _ h2
 case np=>exact h
 case mp id =>
  obtain⟨h0,e,h1,h2,h3⟩:=h;obtain⟨e',h4,h5,h6⟩:=hm id e h1 h2;refine⟨h0,e',h4,by omega,λhg=>?_⟩;have:=h6 (by omega);subst this;exact h3 hg
 case mnil=>exact h
 all_goals exact h.mono hJ hw
theorem RC.mono0 {v:V} {c:Value} (h:RC J m w v c):RC J' m' w' v c:=by
 cases v<;>simp only[RC]at h ⊢
 case f fn caps =>
  obtain⟨cs,h1,h2⟩:=h;exact⟨cs,h1,h2.imp λ_ _ h=>RL.mono0 hJ hw hm h⟩
 all_goals exact RL.mono0 hJ hw hm h
theorem RA.mono0 {v:V} {c:Value} (h:RA J m w v c):RA J' m' w' v c:=by
 cases v<;>simp only[RA]at h ⊢
 case a cs =>
  obtain⟨arr,h1,h2⟩:=h;exact⟨arr,h1,h2.imp λ_ _ h=>RC.mono0 hJ hw hm h⟩
 all_goals exact RC.mono0 hJ hw hm h
theorem RV.mono0 {v:V} {c:Value} (h:RV J m w v c):RV J' m' w' v c:=by
 cases v<;>simp only[RV]at h ⊢
 case t vs =>
  obtain⟨arr,h1,h2⟩:=h;exact⟨arr,h1,h2.imp λ_ _ h=>RA.mono0 hJ hw hm h⟩
 all_goals exact RA.mono0 hJ hw hm h
end mono0
section mono
variable {J J':Nat->Prop} {m m':List Ent} {w w':World} (hJ:∀k,J k->J' k) (hw:∀k,J k->w'.heap[k]?=w.heap[k]?) (hm:Ml m m')
include hJ hw hm
theorem RC.mono {v:V} {c:Value} (h:RC J m w v c):RC J' m' w' v c:=RC.mono0 hJ hw hm.weak h
theorem RA.mono {v:V} {c:Value} (h:RA J m w v c):RA J' m' w' v c:=RA.mono0 hJ hw hm.weak h
theorem RV.mono {v:V} {c:Value} (h:RV J m w v c):RV J' m' w' v c:=RV.mono0 hJ hw hm.weak h
end mono
structure St where
 env:List (Nat × V)
 h:List O
def get (t:Nat):List (Nat × V)->V
 | []=>.any
 | (s,u)::r=>if t=s then u else get t r
def put (t:Nat) (v:V):List (Nat × V)->List (Nat × V)
 | []=>[(t,v)]
 | (s,u)::r=>if t<s then (t,v)::(s,u)::r else if t=s then (t,v)::r else (s,u)::put t v r
theorem Qs (t:Nat) (v:V) (env:List (Nat × V)):get t (put t v env)=v:=by
 induction env with
 | nil=>simp[put,get]
 | cons x r ih =>
   obtain⟨s,u⟩:=x;simp only[put];split
   ·simp[get]
   ·split
    ·simp[get]
    ·rename_i h1 h2;simp[get,h2,ih]
theorem Qe {t u:Nat} (v:V) (env:List (Nat × V)) (h:u≠t):get u (put t v env)=get u env:=by
 induction env with
 | nil=>simp[put,get,h]
 | cons x r ih =>
   obtain⟨s,y⟩:=x;simp only[put];split
   ·simp[get,h]
   ·split
    ·rename_i h1 h2;subst h2;simp[get,h]
    ·rename_i h1 h2;simp only[get];split
     ·rfl
     ·exact ih
end Go.Abs
namespace Go.Abs
open Go.RowKit
inductive A where
 | t (n:Nat)
 | c (v:V)
def A.ev (env:List (Nat × V)):A->V
 | .t n=>get n env
 | .c v=>v
inductive I where
 | mv (x:A)
 | pick (c a b:A)
 | ld (n:Option Nat) (x:A)
 | st (n:Nat) (x y:A)
 | alloc (zero:List V)
 | box (x:A)
 | fa (off:Nat) (x:A)
 | fld (off:Nat) (n:Option Nat) (x:A)
 | ia (es:Nat) (x i:A)
 | iaa (len es:Nat) (x i:A)
 | ix (len es:Nat) (n:Option Nat) (x i:A)
 | ixs (x i:A)
 | bin (op:BinOp) (x y:A)
 | eqb (neg:Bool) (x y:A)
 | eqa (ks:List Nat) (neg:Bool) (x y:A)
 | un (op:UnOp) (x:A)
 | cvi (k:IntKind) (x:A)
 | s2b (x:A)
 | b2s (x:A)
 | len (k:Nat) (x:A)
 | mx (xs:List A)
 | mn (xs:List A)
 | build (zero:List V) (parts:List (Nat × Nat × A))
 | bsi (sz len:Nat) (zero:List V) (parts:List (Nat × A))
 | bso (sz len:Nat) (zero:List V) (parts:List (Nat × A))
 | mks (sz bytes:Nat) (zero:List V) (n:A)
 | mki (sz bytes:Nat) (zero:List V) (n:A)
 | app (sz bytes:Nat) (s x:A)
 | copy (sz:Nat) (x y:A)
 | slc (sz:Nat) (x:A) (lo hi:Option A)
 | slcs (x:A) (lo hi:Option A)
 | ext (x:A) (i:Nat)
 | nck (x:A)
 | mkf (f:FuncId) (caps:List A)
 | mkm (x:Option A)
 | apz (sz bytes:Nat) (zero:List V) (s n:A)
 | sla (sz n:Nat) (x:A)
 | lk (ks:List Nat) (zero:V) (ok:Bool) (m k:A)
 | mup (ks:List Nat) (m k v:A)
 | mdel (ks:List Nat) (m k:A)
 | ment (ks:List Nat) (zero:V) (m k:A)
 | est (m s v:A)
 | slc3 (sz:Nat) (x:A) (lo hi:Option A) (mx:A)
 | isn (neg:Bool) (x:A)
 | mrng (x:A)
 | mnx (x:A)
 | men (x:A)
 | call (f:FuncId) (args:List A)
 | callv (x:A) (args:List A)
def Q8v (k:Nat):V->V->Option Bool
 | .b x,.b y=>if k=0 then some (x == y) else none
 | .i k1 x,.i k2 y=>if k=1/\k1=k2 then some (x == y) else none
 | .s x,.s y=>if k=2 then some (x == y) else none
 | _,_=>none
def Zi:List Nat->List V->List V->Option Bool
 | [],[],[]=>some true
 | k::ks,x::xs,y::ys=>match Q8v k x y,Zi ks xs ys with
   | some a,some b=>some (a && b)
   | _,_=>none
 | _,_,_=>none
def Wb (op:BinOp) (k:IntKind) (x y:Int):Option V :=
 match op with
 | .add=>some (.i k (k.wrap (x+y)))
 | .sub=>some (.i k (k.wrap (x-y)))
 | .mul=>some (.i k (k.wrap (x*y)))
 | .quo=>if y=0 then none else some (.i k (k.wrap (x.tdiv y)))
 | .rem=>if y=0 then none else some (.i k (x.tmod y))
 | .and=>some (.i k (k.wrap ((BitVec.ofInt k.bits x &&& BitVec.ofInt k.bits y).toNat:Int)))
 | .or=>some (.i k (k.wrap ((BitVec.ofInt k.bits x ||| BitVec.ofInt k.bits y).toNat:Int)))
 | .xor=>some (.i k (k.wrap ((BitVec.ofInt k.bits x ^^^ BitVec.ofInt k.bits y).toNat:Int)))
 | .eql=>some (.b (x == y))
 | .neq=>some (.b (x != y))
 | .lss=>some (.b (x<y))
 | .leq=>some (.b (x<=y))
 | .gtr=>some (.b (x > y))
 | .geq=>some (.b (x≥y))
 | _=>none
def Qfj (op:BinOp) (k:IntKind) (x y:Int):Option V :=
 if y<0 then none else
 match op with
 | .shl=>some (.i k (k.wrap (x*2^(min y.toNat k.bits))))
 | .shr=>some (.i k (x.fdiv (2^(min y.toNat k.bits))))
 | _=>none
def strV (op:BinOp) (x y:List UInt8):Option V :=
 match op with
 | .add=>if x.length+y.length<=9223372036854775807 then some (.s (x++y)) else none
 | .eql=>some (.b (x == y))
 | .neq=>some (.b (!(x == y)))
 | .lss=>some (.b (Op.bytesLess x y))
 | .leq=>some (.b (Op.bytesLess x y || x == y))
 | .gtr=>some (.b (!(Op.bytesLess x y || x == y)))
 | .geq=>some (.b (!(Op.bytesLess x y)))
 | _=>none
def Qzg (op:BinOp):V->V->Option V
 | .i k x,.i k' y=>if op=.shl∨op=.shr then Qfj op k x y else if k=k' then Wb op k x y else none
 | .s x,.s y=>strV op x y
 | _,_=>none
def unV (op:UnOp):V->Option V
 | .b x=>match op with | .not=>some (.b (!x)) | _=>none
 | .i k x=>match op with | .neg=>some (.i k (k.wrap (0-x))) | _=>none
 | _=>none
def X0 (h:List O):V->Option (List V)
 | .ip cs=>some cs
 | .p id g e j=>match h[id]? with
   | some (.arr g' _ els)=>if g=g' then (els[e]?).bind λcs=>if j<=cs.length then some (cs.drop j) else none else none
   | _=>none
 | _=>none
def Jm (n:Option Nat) (cs:List V):Option V :=
 match n with
 | none=>cs.head?
 | some k=>if k<=cs.length then some (.a (cs.take k)) else none
def V.cells:V->List V
 | .a cs=>cs
 | v=>[v]
def V.isD:V->Bool
 | .b _ | .i _ _ | .s _ | .nil | .l _ _=>true
 | _=>false
def V.flat:V->Bool
 | .b _ | .i _ _ | .s _=>true
 | _=>false
def V.isC:V->Bool
 | .a _ | .t _=>false
 | _=>true
def V.isCap:V->Bool
 | .any | .a _ | .t _ | .f _ _=>false
 | _=>true
def V.okA:V->Bool
 | .any | .t _=>false
 | _=>true
def Zr (sz:Nat) (h:List O):V->Option (List (List V))
 | .nil=>some []
 | .l sz' els=>if sz'=sz then some els else none
 | .own id g off len=>match h[id]? with
   | some (.arr g' sz' els)=>if g=g'/\sz'=sz/\off+len<=els.length then some ((els.drop off).take len) else none
   | _=>none
 | _=>none
def Yv (b:UInt8):List V:=[.i .u8 b.toNat]
def Kf:List (List V)->Option (List UInt8)
 | []=>some []
 | [.i .u8 n]::r=>(Kf r).map (UInt8.ofNat n.toNat::·)
 | _=>none
def K0 (cs:List V) (j:Nat) (ys:List V):List V:=cs.take j++ys++cs.drop (j+ys.length)
def idx (x:V):Option Int:=match x with | .i _ n=>some n | _=>none
def Q06 (zero:List V):List (Nat × Nat × V)->Option (List V)
 | []=>some zero
 | (off,sz,v)::r=>if v.cells.length=sz/\off+sz<=zero.length/\v.okA then Q06 (K0 zero off v.cells) r else none
def Jt (sz:Nat) (els:List (List V)):List (Nat × V)->Option (List (List V))
 | []=>some els
 | (i,v)::r=>if v.cells.length=sz/\i<els.length/\v.okA then Jt sz (els.set i v.cells) r else none
def Qjr (mx:Bool) (k:IntKind) (x:Int):List V->Option V
 | []=>some (.i k x)
 | .i k' y::r=>if k=k' then Qjr mx k (if mx then (if y > x then y else x) else (if y<x then y else x)) r else none
 | _=>none
def W4 (mx:Bool):List V->Option V
 | .i k x::r=>Qjr mx k x r
 | _=>none
def bnd (x:Option V) (d:Nat):Option Nat :=
 match x with
 | none=>some d
 | some (.i _ n)=>if 0<=n then some n.toNat else none
 | _=>none
def V.isT:V->Bool
 | .t _=>true
 | _=>false
def Zl (ks:List Nat):V->Bool
 | .a _=>!(ks.length == 1)
 | .any | .t _ | .f _ _=>false
 | _=>ks.length == 1
def Qo (ks:List Nat) (k:V):List (V × V)->Option (Option (Nat × V))
 | []=>if (Zl ks k && k.cells.length == ks.length)=true then some none else none
 | (k',v)::r=>if (Zl ks k && Zl ks k')=true then match Zi ks k.cells k'.cells with
   | some true=>some (some (0,v))
   | some false=>(Qo ks k r).map (Option.map λ(i,v)=>(i+1,v))
   | none=>none else none
def Zm (h:List O):V->Option (List (V × V))
 | .mnil=>some []
 | .mp id=>match h[id]? with
   | some (.mp es)=>some es
   | some (.md es)=>some es
   | _=>none
 | _=>none
def Wa (sz:Nat):Nat->List V->List (List V)
 | 0,_=>[]
 | n+1,cs=>cs.take sz::Wa sz n (cs.drop sz)
def Q3 (i:I) (ev:A->V) (h:List O):Option (V × List O) :=
 match i with
 | .mv x=>some (ev x,h)
 | .pick c a b=>match ev c with
   | .b t=>some (if t then ev a else ev b,h)
   | _=>none
 | .ld n x=>((X0 h (ev x)).bind (Jm n)).map (·,h)
 | .st n x y=>match ev x with
   | .p id g e j=>match h[id]? with
     | some (.arr g' sz els)=>match els[e]? with
       | some cs=>if g=g'/\(ev y).cells.length=n/\j+n<=cs.length/\(ev y).okA
         then some (.any,h.set id (.arr g' sz (els.set e (K0 cs j (ev y).cells)))) else none
       | none=>none
     | _=>none
   | _=>none
 | .alloc zero=>some (.p h.length 1 0 0,h++[.arr 1 zero.length [zero]])
 | .box x=>match ev x with
   | .any=>none
   | .t _=>none
   | v=>some (.p h.length 1 0 0,h++[.arr 1 v.cells.length [v.cells]])
 | .fa off x=>match ev x with
   | .p id g e j=>match h[id]? with
     | some (.arr g' _ _)=>if g=g' then some (.p id g e (j+off),h) else none
     | _=>none
   | .ip cs=>some (.ip (cs.drop off),h)
   | _=>none
 | .fld off n x=>match ev x with
   | .a cs=>if off<=cs.length then (Jm n (cs.drop off)).map (·,h) else none
   | _=>none
 | .ia es x i=>match idx (ev i),ev x with
   | some n,.l sz els=>if sz=es/\0<=n then (els[n.toNat]?).map λel=>(.ip el,h) else none
   | some n,.own id g off len=>match h[id]? with
     | some (.arr g' sz els)=>if g=g'/\sz=es/\0<=n/\n.toNat<len then some (.p id g (off+n.toNat) 0,h) else none
     | _=>none
   | _,_=>none
 | .iaa len es x i=>match idx (ev i),ev x with
   | some n,.p id g e j=>match h[id]? with
     | some (.arr g' _ _)=>if g=g'/\0<=n/\n.toNat<len then some (.p id g e (j+n.toNat*es),h) else none
     | _=>none
   | some n,.ip cs=>if 0<=n/\n.toNat<len then some (.ip (cs.drop (n.toNat*es)),h) else none
   | _,_=>none
 | .ix len es n x i=>match idx (ev i),ev x with
   | some k,.a cs=>if 0<=k/\k.toNat<len/\k.toNat*es<=cs.length then (Jm n (cs.drop (k.toNat*es))).map (·,h) else none
   | _,_=>none
 | .ixs x i=>match idx (ev i),ev x with
   | some n,.s l=>if 0<=n then (l[n.toNat]?).map λb=>(.i .u8 b.toNat,h) else none
   | _,_=>none
 | .bin op x y=>(Qzg op (ev x) (ev y)).map (·,h)
 | .eqb neg x y=>match ev x,ev y with
   | .b p,.b q=>some (.b (if neg then !(p == q) else p == q),h)
   | _,_=>none
 | .eqa ks neg x y=>match ev x,ev y with
   | .a p,.a q=>(Zi ks p q).map λr=>(.b (if neg then !r else r),h)
   | _,_=>none
 | .un op x=>(unV op (ev x)).map (·,h)
 | .cvi k x=>match ev x with
   | .i _ n=>some (.i k (k.wrap n),h)
   | _=>none
 | .s2b x=>match ev x with
   | .s l=>if l.length<=9223372036854775807 then some (.own h.length 1 0 l.length,h++[.arr 1 1 (l.map Yv)]) else none
   | _=>none
 | .b2s x=>((Zr 1 h (ev x)).bind Kf).map λl=>(.s l,h)
 | .len k x=>match ev x with
   | .s l=>if k=1 then some (.i .i64 l.length,h) else none
   | .l _ els=>if k=0 then some (.i .i64 els.length,h) else none
   | .own id g off len=>if k=0 then match h[id]? with
     | some (.arr g' _ _)=>if g=g' then some (.i .i64 len,h) else none
     | _=>none else none
   | .nil=>if k=0 then some (.i .i64 0,h) else none
   | .mp id=>if k=2 then match h[id]? with
     | some (.mp es)=>some (.i .i64 es.length,h)
     | _=>none else none
   | .mnil=>if k=2 then some (.i .i64 0,h) else none
   | _=>none
 | .mx xs=>(W4 true (xs.map ev)).map (·,h)
 | .mn xs=>(W4 false (xs.map ev)).map (·,h)
 | .build zero parts=>(Q06 zero (parts.map λ(o,s,x)=>(o,s,ev x))).map λcs=>(.a cs,h)
 | .bsi sz len zero parts=>(Jt sz (List.replicate len zero) (parts.map λ(i,x)=>(i,ev x))).bind λels =>
   if els.all (·.all V.isD) then some (.l sz els,h) else none
 | .bso sz len zero parts=>(Jt sz (List.replicate len zero) (parts.map λ(i,x)=>(i,ev x))).map λels =>
   if len=0 then (.nil,h) else (.own h.length 1 0 len,h++[.arr 1 sz els])
 | .mks sz bytes zero n=>match ev n with
   | .i .i64 k=>if 0<=k/\k*bytes<=140737488355328/\k<=9223372036854775807 then some (.own h.length 1 0 k.toNat,h++[.arr 1 sz (List.replicate k.toNat zero)]) else none
   | _=>none
 | .mki sz bytes zero n=>match ev n with
   | .i .i64 k=>if 0<=k/\k*bytes<=140737488355328/\k<=9223372036854775807/\zero.all V.isD then some (.l sz (List.replicate k.toNat zero),h) else none
   | _=>none
 | .app sz bytes s x=>match Zr sz h (ev x) with
   | some news=>match ev s with
     | .nil=>if news.length*bytes<=140737488355328/\news.length<=9223372036854775807 then some (.own h.length 1 0 news.length,h++[.arr 1 sz news]) else none
     | .own id g off len=>match h[id]? with
       | some (.arr g' sz' els)=>if g=g'/\sz'=sz/\off+len<=els.length/\(len+news.length)*bytes<=140737488355328/\len+news.length<=9223372036854775807
         then some (.own id (g+1) 0 (len+news.length),h.set id (.arr (g+1) sz ((els.drop off).take len++news))) else none
       | _=>none
     | _=>none
   | none=>none
 | .copy sz x y=>match ev x,(match ev y with | .s l=>if sz=1 then some (l.map Yv) else none | v=>Zr sz h v) with
   | .own id g off len,some src=>match h[id]? with
     | some (.arr g' sz' els)=>if g=g'/\sz'=sz/\off+len<=els.length
       then some (.i .i64 (min src.length len:Nat),h.set id (.arr g' sz (els.take off++src.take len++els.drop (off+min src.length len)))) else none
     | _=>none
   | _,_=>none
 | .slc sz x lo hi=>match ev x with
   | .l sz' els=>match bnd (lo.map ev) 0,bnd (hi.map ev) els.length with
     | some a,some b=>if sz'=sz/\a<=b/\b<=els.length then some (.l sz ((els.take b).drop a),h) else none
     | _,_=>none
   | .own id g off len=>match bnd (lo.map ev) 0,bnd (hi.map ev) len,h[id]? with
     | some a,some b,some (.arr g' sz' els)=>if g=g'/\sz'=sz/\a<=b/\b<=len then some (.own id g (off+a) (b-a),h) else none
     | _,_,_=>none
   | .nil=>match bnd (lo.map ev) 0,bnd (hi.map ev) 0 with
     | some 0,some 0=>some (.nil,h)
     | _,_=>none
   | _=>none
 | .slcs x lo hi=>match ev x with
   | .s l=>match bnd (lo.map ev) 0,bnd (hi.map ev) l.length with
     | some a,some b=>if a<=b/\b<=l.length then some (.s ((l.take b).drop a),h) else none
     | _,_=>none
   | _=>none
 | .ext x i=>match ev x with
   | .t vs=>(vs[i]?).map (·,h)
   | _=>none
 | .nck x=>match ev x with
   | .p id g e j=>match h[id]? with
     | some (.arr g' _ _)=>if g=g' then some (.p id g e j,h) else none
     | _=>none
   | .ip cs=>some (.ip cs,h)
   | .f f cs=>some (.f f cs,h)
   | _=>none
 | .mkf f caps=>if (caps.map ev).all V.isCap then some (.f f (caps.map ev),h) else none
 | .mkm x=>match x.map ev with
   | none=>some (.mp h.length,h++[.mp []])
   | some (.i _ _)=>some (.mp h.length,h++[.mp []])
   | _=>none
 | .sla sz n x=>match ev x with
   | .p id g 0 0=>match h[id]? with
     | some (.arr g' sz' [cells])=>if g=g'/\sz'=n*sz/\0<n/\cells.all V.isD=true then some (.l sz (Wa sz n cells),h.set id .dead) else none
     | _=>none
   | _=>none
 | .apz sz bytes zero s n=>match ev s,ev n with
   | .own id g off len,.i _ k=>match h[id]? with
     | some (.arr g' sz' els)=>if g=g'/\sz'=sz/\off+len<=els.length/\0<=k/\(len+k.toNat)*bytes<=140737488355328/\len+k.toNat<=9223372036854775807
       then some (.own id (g+1) 0 (len+k.toNat),h.set id (.arr (g+1) sz ((els.drop off).take len++List.replicate k.toNat zero))) else none
     | _=>none
   | _,_=>none
 | .lk ks zero ok m k=>match Zm h (ev m) with
   | some es=>match Qo ks (ev k) es with
     | some (some (_,v))=>some (if ok then .t [v,.b true] else v,h)
     | some none=>some (if ok then .t [zero,.b false] else zero,h)
     | none=>none
   | none=>none
 | .mup ks m k v=>match ev m with
   | .mp id=>match h[id]? with
     | some (.mp es)=>if (ev v).isT=false then match Qo ks (ev k) es with
       | some (some (i,_))=>some (.any,h.set id (.mp (es.set i (ev k,ev v))))
       | some none=>some (.any,h.set id (.mp (es++[(ev k,ev v)])))
       | none=>none else none
     | some (.md es)=>if (ev v).isT=false then match Qo ks (ev k) es with
       | some (some (i,_))=>some (.any,h.set id (.md (es.set i (ev k,ev v))))
       | _=>none else none
     | _=>none
   | _=>none
 | .mdel ks m k=>match ev m with
   | .mp id=>match Zm h (.mp id) with
     | some es=>match Qo ks (ev k) es with
       | some (some (i,_))=>some (.t [],h.set id (.md (es.eraseIdx i)))
       | _=>none
     | none=>none
   | _=>none
 | .ment ks zero m k=>match ev m with
   | .mp id=>match h[id]? with
     | some (.mp es)=>match Qo ks (ev k) es with
       | some (some (i,v))=>some (.t [v,.i .i64 i],h.set id (.mp (es.set i (ev k,v))))
       | some none=>some (.t [zero,.i .i64 es.length],h.set id (.mp (es++[(ev k,zero)])))
       | none=>none
     | _=>none
   | _=>none
 | .est m s v=>match ev m,ev s with
   | .mp id,.i _ n=>match h[id]? with
     | some (.mp es)=>if 0<=n then match es[n.toNat]? with
       | some (k,_)=>if (ev v).isT=false then some (.any,h.set id (.mp (es.set n.toNat (k,ev v)))) else none
       | none=>none else none
     | _=>none
   | _,_=>none
 | .slc3 sz x lo hi mx=>match ev x,ev mx with
   | .own id g off len,.i _ c=>match bnd (lo.map ev) 0,bnd (hi.map ev) len,h[id]? with
     | some a,some b,some (.arr g' sz' els)=>if g=g'/\sz'=sz/\a<=b/\b<=len/\c=len then some (.own id g (off+a) (b-a),h) else none
     | _,_,_=>none
   | .nil,.i _ c=>match bnd (lo.map ev) 0,bnd (hi.map ev) 0 with
     | some 0,some 0=>if c=0 then some (.nil,h) else none
     | _,_=>none
   | _,_=>none
 | .isn neg x=>match ev x with
   | .l _ (_::_)=>some (.b neg,h)
   | .own id g off len=>match h[id]? with
     | some (.arr g' _ _)=>if g=g'/\0<len then some (.b neg,h) else none
     | _=>none
   | _=>none
 | .mrng x=>match ev x with
   | .mp id=>match h[id]? with
     | some (.mp es)=>some (.p h.length 1 0 0,h++[.it (some id) es.length []])
     | _=>none
   | .mnil=>some (.p h.length 1 0 0,h++[.it none 0 []])
   | _=>none
 | .mnx _=>none
 | .men x=>match ev x with
   | .p id g 0 0=>match h[id]? with
     | some (.it (some mid) since seen)=>match h[mid]? with
       | some (.mp es)=>if g=1/\es.length=since then (seen.getLast?.bind λi=>es[i]?).map λe=>(.t [e.1,e.2],h) else none
       | _=>none
     | _=>none
   | _=>none
 | .call _ _=>none
 | .callv _ _=>none
end Go.Abs
