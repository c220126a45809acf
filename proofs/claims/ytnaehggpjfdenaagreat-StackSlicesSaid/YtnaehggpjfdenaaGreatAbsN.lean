/- Part of the library on which the proof stands: an abstract machine, its values and its soundness against the model; or what functions of the program do to such values. -/
import Derived.Test.YtnaehggpjfdenaaGreatAbsD
import Derived.Test.YtnaehggpjfdenaaGreatAbsL
import Derived.Deep.LoopGhost
set_option linter.unusedVariables false
set_option linter.unusedSimpArgs false
namespace Go.Abs
open Go.RowKit
def mvN (L s id:Nat):Nat:=if id<L then id else s+(id-L)
def V.mv0 (L s:Nat):V->V
 | .own id g off len=>.own (mvN L s id) g off len
 | .p id g e j=>.p (mvN L s id) g e j
 | .mp id=>.mp (mvN L s id)
 | v=>v
def V.mv1 (L s:Nat):V->V
 | .f fn caps=>.f fn (caps.map (V.mv0 L s))
 | v=>v.mv0 L s
def V.mv2 (L s:Nat):V->V
 | .a cs=>.a (cs.map (V.mv1 L s))
 | v=>v.mv1 L s
def V.mv (L s:Nat):V->V
 | .t vs=>.t (vs.map (V.mv2 L s))
 | v=>v.mv2 L s
def O.mv (L s:Nat):O->O
 | .arr g sz els=>.arr g sz (els.map λel=>el.map (V.mv1 L s))
 | .mp es=>.mp (es.map λe=>(e.1.mv2 L s,e.2.mv2 L s))
 | .md es=>.md (es.map λe=>(e.1.mv2 L s,e.2.mv2 L s))
 | .it mid since seen=>.it (mid.map (mvN L s)) since seen
 | .dead=>.dead
def Xi {α:Type} (l xs:List α) (s:Nat):List α:=l.take s++xs++l.drop (s+xs.length)
theorem J7 {α:Type} {l xs:List α} {s:Nat} (h:s+xs.length<=l.length):(Xi l xs s).length=l.length:=by
 simp[Xi];omega
theorem Ip {α:Type} {l xs:List α} {s i:Nat} (h:s+xs.length<=l.length) (hi:i<xs.length):(Xi l xs s)[s+i]?=xs[i]?:=by
 have h1:(l.take s).length=s:=by simp;omega
 unfold Xi;rw[j6,qf (by omega),h1,Nat.add_sub_cancel_left,qd hi]
theorem Km {α:Type} {l xs:List α} {s id:Nat} (h:s+xs.length<=l.length) (hi:id<s∨s+xs.length<=id):(Xi l xs s)[id]?=l[id]?:=by
 have h1:(l.take s).length=s:=by simp;omega
 unfold Xi;rcases hi with hi | hi
 ·rw[j6,qd (by omega),jf,if_pos hi]
 ·rw[j6,qf (by omega),h1,qf (by omega),jh];congr 1;omega
section
variable {J:Nat->Prop} {w:World}
theorem RL_ids {m:List Ent} {v:V} {c:Value} (h:RL J m w v c):(∀id g off len,v=.own id g off len->∃e,m[id]?=some e/\1<=e.gen)/\(∀id g e' j,v=.p id g e' j->∃e,m[id]?=some e/\1<=e.gen)/\(∀id,v=.mp id->∃e,m[id]?=some e/\1<=e.gen):=by
 refine⟨?_,?_,?_⟩
 ·rintro id g off len rfl;obtain⟨_,e,h1,h2,_⟩:=h;exact⟨e,h1,by omega⟩
 ·rintro id g e' j rfl;obtain⟨_,e,h1,h2,_⟩:=h;exact⟨e,h1,by omega⟩
 ·rintro id rfl;obtain⟨_,e,h1,h2,_⟩:=h;exact⟨e,h1,h2⟩
theorem Qgm {L s id:Nat} (h:id<L):mvN L s id=id:=if_pos h
theorem Z0c {m:List Ent} {v:V} {c:Value} (h:RL J m w v c) (s:Nat):v.mv0 m.length s=v:=by
 cases v<;>simp only[V.mv0]
 all_goals
  obtain⟨_,e,h1,_⟩:=h;rw[Qgm (q8.1 h1).1]
theorem Qgo {R:V->Value->Prop} {f:V->V} (hR:∀v c,R v c->f v=v) {vs:List V} {cs:List Value} (hp:Pw R vs cs):vs.map f=vs:=by
 apply qy;intro i;rw[qp];cases hv:vs[i]? with
 | none=>rfl
 | some v =>
   obtain⟨c,_,h2⟩:=hp.get hv;simp[hR v c h2]
theorem Qo3 {m:List Ent} {v:V} {c:Value} (h:RC J m w v c) (s:Nat):v.mv1 m.length s=v:=by
 cases v
 case f fn caps =>
  obtain⟨cs,h1,h2⟩:=h;simp only[V.mv1];rw[Qgo (λv c h=>Z0c h s) h2]
 all_goals
  simp only[RC]at h;exact Z0c (J:=J) (w:=w) h s
theorem Q50 {m:List Ent} {v:V} {c:Value} (h:RA J m w v c) (s:Nat):v.mv2 m.length s=v:=by
 cases v
 case any=>rfl
 case a cs =>
  obtain⟨arr,h1,h2⟩:=h;simp only[V.mv2];rw[Qgo (λv c h=>Qo3 h s) h2]
 all_goals
  simp only[RA]at h;exact Qo3 (J:=J) (w:=w) h s
theorem RV_clo {m:List Ent} {v:V} {c:Value} (h:RV J m w v c) (s:Nat):v.mv m.length s=v:=by
 cases v
 case t vs =>
  obtain⟨arr,h1,h2⟩:=h;simp only[V.mv];rw[Qgo (λv c h=>Q50 h s) h2]
 all_goals
  simp only[RV]at h;exact Q50 (J:=J) (w:=w) h s
theorem RO_clo {m:List Ent} {e:Ent} {o:O} (h:RO J m w e o) (s:Nat):o.mv m.length s=o:=by
 cases o with
 | dead=>rfl
 | it mid since seen =>
   obtain⟨_,_,_,B,_,mb,_,h1⟩:=h;cases mid with
   | none=>rfl
   | some i =>
     obtain⟨e',h2,_⟩:=h1;simp[O.mv,Qgm (q8.1 h2).1]
 | mp es =>
   obtain⟨_,B,_,ms,_,h1,h2⟩:=h;simp only[O.mv];congr 1;apply qy;intro i;rw[qp];cases hv:es[i]? with
   | none=>rfl
   | some p =>
     obtain⟨k,v⟩:=p;obtain⟨en,_,_,h3,h4⟩:=h2 i k v hv;simp[Q50 h3 s,Q50 h4 s]
 | md es =>
   obtain⟨_,B,_,ms,c,_,h1,h2⟩:=h;simp only[O.mv];congr 1;apply qy;intro i;rw[qp];cases hv:es[i]? with
   | none=>rfl
   | some p =>
     obtain⟨k,v⟩:=p;obtain⟨en,_,h3,h4⟩:=h2 i k v hv;simp[Q50 h3 s,Q50 h4 s]
 | arr g sz els =>
   obtain⟨_,_,_,h1⟩:=h;simp only[O.mv];cases hb:e.blk with
   | none =>
     rw[hb]at h1
     rw[h1.1];rfl
   | some B =>
     rw[hb]at h1
     obtain⟨_,_,c,ty,fz,_,_,_,h2⟩:=h1;congr 1;apply qy;intro i;rw[qp];cases hv:els[i]? with
     | none=>rfl
     | some el =>
       simp only[Option.map_some];congr 1;apply qy;intro j;rw[qp];cases hx:el[j]? with
       | none=>rfl
       | some x =>
         obtain⟨cv,_,h3⟩:=h2 i el j x hv hx;simp[Qo3 h3 s]
section fill
variable {mA mk:List Ent} {s:Nat} (hs:s+mk.length<=mA.length) (hg:∀id e,s<=id->id<s+mk.length->mA[id]?=some e->e.gen=0)
include hs hg
theorem Qhk {id:Nat} {e:Ent} (he:(mA++mk)[id]?=some e) (h1:1<=e.gen):(Xi mA mk s)[mvN mA.length s id]?=some e:=by
 unfold mvN;split
 ·rename_i hlt;rw[qd hlt]at he
  rw[Km hs,he];rcases Nat.lt_or_ge id s with h2 | h2
  ·exact .inl h2
  ·rcases Nat.lt_or_ge id (s+mk.length) with h3 | h3
   ·have:=hg id e h2 h3 he;omega
   ·exact .inr h3
 ·rename_i hge;rw[qf (by omega)]at he
  rw[Ip hs (q8.1 he).1];exact he
theorem RL.mv {v:V} {c:Value} (h:RL J (mA++mk) w v c):RL J (Xi mA mk s) w (v.mv0 mA.length s) c:=by
 cases v<;>simp only[V.mv0,RL]at h ⊢
 case own=>obtain⟨h0,e,h1,h2,h3⟩:=h;exact⟨h0,e,Qhk hs hg h1 (by omega),h2,h3⟩
 case p=>obtain⟨h0,e,h1,h2,h3⟩:=h;exact⟨h0,e,Qhk hs hg h1 (by omega),h2,h3⟩
 case mp=>obtain⟨h0,e,h1,h2,h3⟩:=h;exact⟨h0,e,Qhk hs hg h1 h2,h2,h3⟩
 all_goals exact h
omit hs hg in
theorem Pw.mapf {R R':V->Value->Prop} {f:V->V} (hR:∀v c,R v c->R' (f v) c) {vs:List V} {cs:List Value} (hp:Pw R vs cs):Pw R' (vs.map f) cs:=by
 refine⟨by rw[List.length_map,hp.1],λi v c h1 h2=>?_⟩;rw[qp,qa]at h1
 obtain⟨u,hu,rfl⟩:=h1;exact hR u c (hp.2 i u c hu h2)
theorem RC.mv {v:V} {c:Value} (h:RC J (mA++mk) w v c):RC J (Xi mA mk s) w (v.mv1 mA.length s) c:=by
 cases v
 case f fn caps =>
  obtain⟨cs,h1,h2⟩:=h;exact⟨cs,h1,h2.mapf λ_ _ h=>RL.mv hs hg h⟩
 all_goals
  simp only[RC]at h;exact RL.mv (w:=w) hs hg h
theorem RA.mv {v:V} {c:Value} (h:RA J (mA++mk) w v c):RA J (Xi mA mk s) w (v.mv2 mA.length s) c:=by
 cases v
 case any=>trivial
 case a cs =>
  obtain⟨arr,h1,h2⟩:=h;exact⟨arr,h1,h2.mapf λ_ _ h=>RC.mv hs hg h⟩
 all_goals
  simp only[RA]at h;exact RC.mv (w:=w) hs hg h
theorem RV.mv {v:V} {c:Value} (h:RV J (mA++mk) w v c):RV J (Xi mA mk s) w (v.mv mA.length s) c:=by
 cases v
 case t vs =>
  obtain⟨arr,h1,h2⟩:=h;exact⟨arr,h1,h2.mapf λ_ _ h=>RA.mv hs hg h⟩
 all_goals
  simp only[RV]at h;exact RA.mv (w:=w) hs hg h
theorem RO.mv {e:Ent} {o:O} (h:RO J (mA++mk) w e o):RO J (Xi mA mk s) w e (o.mv mA.length s):=by
 cases o with
 | dead=>trivial
 | it mid since seen =>
   obtain⟨h1,h2,h3,B,h4,mb,h5,h6⟩:=h;refine⟨h1,h2,h3,B,h4,mb,h5,?_⟩;cases mid with
   | none=>exact h6
   | some i =>
     obtain⟨e',h7,h8,h9⟩:=h6;exact⟨e',Qhk hs hg h7 h8,h8,h9⟩
 | mp es =>
   obtain⟨h1,B,h2,es',h3,h4,h5⟩:=h;refine⟨h1,B,h2,es',h3,by simp[h4],λi k v hi=>?_⟩;rw[qp,qa]at hi
   obtain⟨⟨k0,v0⟩,hu,hkv⟩:=hi;simp only[Prod.mk.injEq]at hkv;obtain⟨rfl,rfl⟩:=hkv;obtain⟨en,h6,h7,h8,h9⟩:=h5 i k0 v0 hu;exact⟨en,h6,h7,RA.mv hs hg h8,RA.mv hs hg h9⟩
 | md es =>
   obtain⟨h1,B,h2,es',c,h3,h4,h5⟩:=h;refine⟨h1,B,h2,es',c,h3,by simp[h4],λi k v hi=>?_⟩;rw[qp,qa]at hi
   obtain⟨⟨k0,v0⟩,hu,hkv⟩:=hi;simp only[Prod.mk.injEq]at hkv;obtain⟨rfl,rfl⟩:=hkv;obtain⟨en,h6,h8,h9⟩:=h5 i k0 v0 hu;exact⟨en,h6,RA.mv hs hg h8,RA.mv hs hg h9⟩
 | arr g sz els =>
   obtain⟨h1,h2,h3,h4⟩:=h;refine⟨h1,h2,λi el hi=>?_,?_⟩
   ·rw[qp,qa]at hi
    obtain⟨u,hu,rfl⟩:=hi;rw[List.length_map];exact h3 i u hu
   ·cases hb:e.blk with
    | none =>
      rw[hb]at h4
      obtain⟨rfl,h5⟩:=h4;exact⟨rfl,h5⟩
    | some B =>
      rw[hb]at h4
      obtain⟨h5,h6,c,ty,fz,h7,h8,h9,h10⟩:=h4;refine⟨by simpa using h5,h6,c,ty,fz,h7,h8,h9,λi el j x hi hj=>?_⟩;rw[qp,qa]at hi
      obtain⟨u,hu,rfl⟩:=hi;rw[qp,qa]at hj
      obtain⟨y,hy,rfl⟩:=hj;obtain⟨cv,h11,h12⟩:=h10 i u j y hu hy;exact⟨cv,h11,RC.mv hs hg h12⟩
omit hg in
theorem J8 {id:Nat} {e:Ent} (he:(Xi mA mk s)[id]?=some e):(mA++mk)[if s<=id/\id<s+mk.length then mA.length+(id-s) else id]?=some e:=by
 split
 ·rename_i hin;have h1:=Ip (l:=mA) (xs:=mk) (s:=s) (i:=id-s) hs (by omega);rw[show s+(id-s)=id by omega]at h1
  rw[qf (by omega),Nat.add_sub_cancel_left,<- h1];exact he
 ·rename_i hout;have hlt:=(q8.1 he).1;rw[J7 hs]at hlt
  rw[Km hs (by omega)]at he
  rw[qd hlt];exact he
theorem RS.put {hA hk:List O} (hr:RS J (hA++hk) (mA++mk) w) (hl1:hA.length=mA.length) (hl2:hk.length=mk.length) :
  RS J (Xi (hA.map (O.mv mA.length s)) (hk.map (O.mv mA.length s)) s) (Xi mA mk s) w:=by
 have hlen:(Xi (hA.map (O.mv mA.length s)) (hk.map (O.mv mA.length s)) s).length=hA.length:=by
  rw[J7 (by simp;omega)];simp
 refine⟨by rw[J7 hs,hlen,hl1],hr.jlt,λid e B h1 h2=>hr.dis _ e B (J8 hs h1) h2,λid id' e e' B h1 h2 h3 h4=>?_,λid e o h1 h2=>?_⟩
 ·have h5:=hr.inj _ _ e e' B (J8 hs h1) (J8 hs h2) h3 h4;have g1:=(q8.1 h1).1;have g2:=(q8.1 h2).1;rw[J7 hs]at g1 g2
  split at h5<;>split at h5<;>omega
 ·have g1:=(q8.1 h1).1;rw[J7 hs]at g1
  by_cases hin:s<=id/\id<s+mk.length
  ·have h3:=J8 hs h1;rw[if_pos hin]at h3
   have h4:=Ip (l:=hA.map (O.mv mA.length s)) (xs:=hk.map (O.mv mA.length s)) (s:=s) (i:=id-s) (by simp;omega) (by simp;omega);rw[show s+(id-s)=id by omega,h2,qp]at h4
   obtain⟨o',h5,rfl⟩:=qa.1 h4.symm;refine RO.mv hs hg (hr.obj _ e o' h3 ?_);rw[qf (by omega),<- h5];congr 1;omega
  ·have h3:=J8 hs h1;rw[if_neg hin]at h3
   rw[Km (by simp;omega) (by simp;omega),qp]at h2
   obtain⟨o',h5,rfl⟩:=qa.1 h2;refine RO.mv hs hg (hr.obj _ e o' h3 ?_);rw[qd (by omega),h5]
end fill
theorem Ev.put {n:Nat} {J J':Nat->Prop} {m:List Ent} {w w':World} {mA mk:List Ent} {s:Nat} (hs:s+mk.length<=mA.length) (hm:m.length<=s) (hev:Ev n J m w J' (mA++mk) w'):Ev n J m w J' (Xi mA mk s) w' where
 os:=hev.os
 tape:=hev.tape
 output:=hev.output
 drawn:=hev.drawn
 size:=hev.size
 keep:=hev.keep
 fresh:=λid e B h1 h2=>hev.fresh _ e B (J8 hs h1) h2
 sub:=hev.sub
 jnew:=hev.jnew
 ents:=λid e hn h1=>by
  have hlt:=(q8.1 h1).1;obtain⟨e',h2,h3⟩:=hev.ents id e hn h1;refine⟨e',?_,h3⟩;rw[Km hs (by omega)];rw[qd (by omega)]at h2
  exact h2
theorem RS.pad {h:List O} {m:List Ent} (hr:RS J h m w) (k:Nat):RS J (h++List.replicate k .dead) (m++List.replicate k ⟨0,0,none,0,0⟩) w:=by
 have hfrom:∀(id:Nat) (e:Ent) (B:Nat),(m++List.replicate k (⟨0,0,none,0,0⟩:Ent))[id]?=some e->e.blk=some B->m[id]?=some e:=by
  intro id e B h1 h2;by_cases hlt:id<m.length
  ·rw[qd hlt]at h1;exact h1
  ·rw[qf (by omega),jk]at h1
   split at h1
   ·simp at h1;subst h1;simp at h2
   ·simp at h1
 refine⟨by simp[hr.len],hr.jlt,λid e B h1 h2=>hr.dis id e B (hfrom id e B h1 h2) h2,λid id' e e' B h1 h2 h3 h4=>hr.inj id id' e e' B (hfrom _ _ B h1 h3) (hfrom _ _ B h2 h4) h3 h4,λid e o h1 h2=>?_⟩;by_cases hlt:id<m.length
 ·rw[qd hlt]at h1
  rw[qd (by rw[<- hr.len];exact hlt)]at h2
  exact RO.mono (λ_ h=>h) (λ_ _=>rfl) (Ml.app m _) (λ_ _=>rfl) (hr.obj id e o h1 h2)
 ·rw[qf (by rw[<- hr.len];omega),jk]at h2
  split at h2
  ·simp at h2;subst h2;trivial
  ·simp at h2
theorem Ev.pad {n:Nat} {J J':Nat->Prop} {m m':List Ent} {w w':World} (hev:Ev n J m w J' m' w') (k:Nat):Ev n J m w J' (m'++List.replicate k ⟨0,0,none,0,0⟩) w' where
 os:=hev.os
 tape:=hev.tape
 output:=hev.output
 drawn:=hev.drawn
 size:=hev.size
 keep:=hev.keep
 fresh:=λid e B h1 h2=>by
  by_cases hlt:id<m'.length
  ·rw[qd hlt]at h1;exact hev.fresh id e B h1 h2
  ·rw[qf (by omega),jk]at h1
   split at h1
   ·simp at h1;subst h1;simp at h2
   ·simp at h1
 sub:=hev.sub
 jnew:=hev.jnew
 ents:=λid e hn h1=>by
  obtain⟨e',h2,h3⟩:=hev.ents id e hn h1;exact⟨e',by rw[qd (q8.1 h2).1];exact h2,h3⟩
end
end Go.Abs
namespace Go.Abs
open Go.RowKit
structure Ins where
 d:Option Nat
 g:Option (Nat × Bool)
 i:I
abbrev Am (d s:Nat):Ins:=⟨some d,none,.mv (.t s)⟩
abbrev Af (d n s:Nat):Ins:=⟨some d,none,.fa n (.t s)⟩
abbrev Al (d s:Nat):Ins:=⟨some d,none,.ld none (.t s)⟩
abbrev Ag (d n s:Nat):Ins:=⟨some d,none,.ld (some n) (.t s)⟩
abbrev Ac (d:Nat) (n:Int):Ins:=⟨some d,none,.mv (.c (.i .i64 n))⟩
abbrev As (n s t:Nat):Ins:=⟨none,none,.st n (.t s) (.t t)⟩
abbrev Ai (d n s t:Nat):Ins:=⟨some d,none,.ia n (.t s) (.t t)⟩
abbrev An (d n s:Nat):Ins:=⟨some d,none,.len n (.t s)⟩
abbrev Ax1 (d n s:Nat):Ins:=⟨some d,none,.ext (.t s) n⟩
abbrev Ad (d s:Nat) (n:Int):Ins:=⟨some d,none,.bin .add (.t s) (.c (.i .i64 n))⟩
abbrev Aj (o:BinOp) (d s t:Nat):Ins:=⟨some d,none,.bin o (.t s) (.t t)⟩
abbrev Ak (o:BinOp) (d s:Nat) (n:Int):Ins:=⟨some d,none,.bin o (.t s) (.c (.i .i64 n))⟩
abbrev Ao (d s t:Nat):Ins:=⟨some d,none,.pick (.t s) (.c (.b true)) (.t t)⟩
abbrev Ap (d s t:Nat):Ins:=⟨some d,none,.pick (.t s) (.t t) (.c (.b false))⟩
abbrev Ab (d:Nat) (b:Bool):Ins:=⟨some d,none,.mv (.c (.b b))⟩
abbrev Az (d:Nat):Ins:=⟨some d,none,.mv (.c .nil)⟩
abbrev Au (d:Nat) (i:I):Ins:=⟨some d,none,i⟩
abbrev Av (d g:Nat) (i:I):Ins:=⟨some d,some (g,true),i⟩
abbrev Aw (d g:Nat) (i:I):Ins:=⟨some d,some (g,false),i⟩
inductive C where
 | skip
 | reg (l:List Ins)
 | drw (l:List Ins) (ps:List (List Nat))
 | seq (a b:C)
 | ite (c:A) (a b:C)
 | blk (id:Nat) (c:C)
 | loop (c:C)
 | exit (id:Nat)
 | ret
abbrev Bs (l:List Ins) (k:C):C:=.seq (.reg l) k
inductive X where
 | n
 | e (id:Nat)
 | r
def Qp (d:Option Nat) (v:V) (env:List (Nat × V)):List (Nat × V) :=
 match d with
 | some t=>put t v env
 | none=>env
def ACall (P:Program) (f:FuncId) (vs:List V) (h:List O) (R:V->List O->Prop):Prop :=
 ∀(J:Nat->Prop) (m:List Ent) (w:World) (cargs:List Value),RS J h m w->Pw (RV J m w) vs cargs ->
  Calls P f cargs.toArray w λe w'=>∃v r h' J' m',e=.returned v/\R r h'/\RV J' m' w' r v/\RS J' h' m' w'/\(∀n,Ev n J m w J' m' w')/\Ml m m'
theorem ACall.mono {P:Program} {f:FuncId} {vs:List V} {h:List O} {R R':V->List O->Prop} (ha:ACall P f vs h R) (hr:∀r h',R r h'->R' r h'):ACall P f vs h R' :=
 λJ m w cargs h1 h2=>(ha J m w cargs h1 h2).mono λe w' ⟨v,r,h',J',m',a,b,c⟩=>⟨v,r,h',J',m',a,hr _ _ b,c⟩
def CallIs (P:Program) (f:FuncId) (vs:List V) (r:V):Prop:=∀h,ACall P f vs h (λr' h'=>r'=r/\h'=h)
def Qx (P:Program) (f:FuncId):Bool:=match P.funcs[f]? with
 | some fn=>fn.body.isSome && !(fn.name == "runtime.NumGoroutine")
 | none=>false
def V.empt:V->Bool
 | .nil=>true
 | .l _ []=>true
 | _=>false
def A1 (P:Program) (x:Ins) (σ:St) (κ:St->Prop):Prop :=
 match x.i with
 | .call f args=>ACall P f (args.map (A.ev σ.env)) σ.h (λr h'=>κ ⟨Qp x.d r σ.env,h'⟩)
 | .callv c args=>match A.ev σ.env c with
   | .f f caps=>Qx P f=true/\ACall P f (args.map (A.ev σ.env)++caps) σ.h (λr h'=>κ ⟨Qp x.d r σ.env,h'⟩)
   | _=>False
 | .isn neg y=>match (A.ev σ.env y).empt with
   | true=>κ ⟨Qp x.d (.b true) σ.env,σ.h⟩/\κ ⟨Qp x.d (.b false) σ.env,σ.h⟩
   | false=>match Q3 (.isn neg y) (A.ev σ.env) σ.h with
     | some (r,h')=>κ ⟨Qp x.d r σ.env,h'⟩
     | none=>False
 | .mnx y=>Mnx (A.ev σ.env y) σ.h λr h'=>κ ⟨Qp x.d r σ.env,h'⟩
 | i=>match Q3 i (A.ev σ.env) σ.h with
   | some (r,h')=>κ ⟨Qp x.d r σ.env,h'⟩
   | none=>False
def Xa (v:V) (Z0:Bool) (p q:Prop):Prop :=
 match v with
 | .b t=>(t=Z0->p)/\(t = !Z0->q)
 | .t []=>q
 | _=>False
def Skp (v:V) (Z0:Bool):Prop:=v=.b (!Z0)∨v=.t []
def AO (P:Program):List Ins->St->(St->Prop)->Prop
 | [],σ,κ=>κ σ
 | x::l,σ,κ=>match x.g with
   | none=>A1 P x σ (λσ'=>AO P l σ' κ)
   | some (t,Z0)=>Xa (get t σ.env) Z0 (A1 P x σ (λσ'=>AO P l σ' κ)) (AO P l ⟨Qp x.d (.t []) σ.env,σ.h⟩ κ)
def V.ids0:V->List Nat
 | .own id _ _ _=>[id]
 | .p id _ _ _=>[id]
 | .mp id=>[id]
 | _=>[]
def V.ids1:V->List Nat
 | .f _ caps=>caps.flatMap V.ids0
 | v=>v.ids0
def V.ids2:V->List Nat
 | .a cs=>cs.flatMap V.ids1
 | v=>v.ids1
def I.foot (i:I) (ev:A->V):List Nat × List Nat :=
 match i with
 | .ld _ x | .fa _ x | .b2s x | .len _ x | .nck x | .isn _ x | .mrng x=>((ev x).ids0,[])
 | .ia _ x _ | .iaa _ _ x _ | .slc _ x _ _ | .slc3 _ x _ _ _=>((ev x).ids0,[])
 | .lk _ _ _ m _=>((ev m).ids0,[])
 | .st _ x _=>((ev x).ids0,(ev x).ids0)
 | .copy _ x y=>((ev x).ids0++(ev y).ids0,(ev x).ids0)
 | .app _ _ s x=>((ev s).ids0++(ev x).ids0,(ev s).ids0)
 | .apz _ _ _ s _=>((ev s).ids0,(ev s).ids0)
 | .sla _ _ x=>((ev x).ids0,(ev x).ids0)
 | .mup _ m _ _ | .ment _ _ m _ | .mdel _ m _=>((ev m).ids0,(ev m).ids0)
 | .est m _ _=>((ev m).ids0,(ev m).ids0)
 | _=>([],[])
def Dis (a b:List Nat):Bool:=a.all λi=>!b.contains i
def Qae (f g:List Nat × List Nat):Bool:=Dis f.2 g.1 && Dis g.2 f.1
def chk (js:List Nat) (lg:List (List Nat × List Nat)) (f:List Nat × List Nat):Bool :=
 js.all λj=>match lg[j]? with
  | some g=>Qae g f
  | none=>true
def I.news:I->Bool
 | .alloc _ | .box _ | .s2b _ | .bso _ _ _ _ | .mks _ _ _ _ | .mkm _ | .app _ _ _ _ | .mrng _=>true
 | _=>false
def V.cl0 (n:Nat):V->Bool
 | .own id _ _ _=>id<n
 | .p id _ _ _=>id<n
 | .mp id=>id<n
 | _=>true
def V.cl1 (n:Nat):V->Bool
 | .f _ caps=>caps.all (V.cl0 n)
 | v=>v.cl0 n
def V.cl (n:Nat):V->Bool
 | .a cs=>cs.all (V.cl1 n)
 | .t _=>false
 | v=>v.cl1 n
def O.cl (n:Nat):O->Prop
 | .arr _ _ els=>∀el∈els,∀x∈el,x.cl n=true
 | .mp es=>∀e∈es,e.1.cl n=true/\e.2.cl n=true
 | .md es=>∀e∈es,e.1.cl n=true/\e.2.cl n=true
 | .it mid _ _=>∀i,mid=some i->i<n
 | .dead=>True
def Z2 (i:I) (h h':List O):Prop :=
 match i.news with
 | true=>∀o∈h'.drop h.length,o.cl h.length
 | false=>True
def Q5p (h2:List O) (W:List Nat) (h':List O):List O:=(List.range h2.length).map λid=>if W.contains id then (h'[id]?).getD .dead else (h2[id]?).getD .dead
def LCall (P:Program) (n0:Nat) (al:List Nat) (f:FuncId) (vs:List V) (h:List O) (r:V) (h':List O) (T W:List Nat):Prop :=
 h.length<=h'.length/\(∀id∈T,id<h.length/\(id<n0∨id∈al))/\(∀id∈W,id∈T)/\(∀id,id<h.length->id∉W->h'[id]?=h[id]?) /\
 ∀h2,h.length<=h2.length->(∀id∈T,h2[id]?=h[id]?)->∃r2 hk,ACall P f vs h2 (λr' h2'=>r'=r2/\h2'=Q5p h2 W h'++hk) /\
  ((hk=[]/\r2=r/\h'.length=h.length)∨(W=[]/\r2.mv h2.length h.length=r/\hk.map (O.mv h2.length h.length)=h'.drop h.length))
def Ub (P:Program) (n0:Nat) (js:List Nat) (lg:List (List Nat × List Nat)) (al:List Nat) (f:FuncId) (vs:List V) (h:List O) (k:List Nat × List Nat->V->List O->Prop):Prop :=
 ∃T W r h',chk js lg (T,W)=true/\LCall P n0 al f vs h r h' T W/\k (T,W) r h'
def GdP (g:Option (Nat × Bool)) (σ:St) (F:(V->List O->Prop)->Prop) (h:List O) (k:V->List O->Prop):Prop :=
 match g with
 | none=>F k
 | some (t,Z0)=>Xa (get t σ.env) Z0 (F k) (k (.t []) h)
def GdC (g:Option (Nat × Bool)) (σ:St) (F:(List Nat × List Nat->V->List O->Prop)->Prop) (h:List O) (k:List Nat × List Nat->V->List O->Prop):Prop :=
 match g with
 | none=>F k
 | some (t,Z0)=>Xa (get t σ.env) Z0 (F k) (k ([],[]) (.t []) h)
def Opt (o:Option (V × List O)) (k:V->List O->Prop):Prop :=
 match o with | some (r,h)=>k r h | none=>False
def E1 (P:Program) (n0:Nat) (js:List Nat) (lg:List (List Nat × List Nat)) (c:V) (vs:List V) (h:List O) (k:List Nat × List Nat->V->List O->Prop):Prop :=
 match c with
 | .f f caps=>Qx P f=true/\Ub P n0 js lg (c.ids2++vs.flatMap V.ids2) f (vs++caps) h k
 | _=>False
def AD (P:Program) (n0:Nat):List Ins->List (List Nat)->List (List Nat × List Nat)->St->(St->Prop)->Prop
 | [],_,_,σ,κ=>κ σ
 | x::l,ps,lg,σ,κ=>match x.i with
   | .call f args=>GdC x.g σ (Ub P n0 (ps.headD []) lg ((args.map (A.ev σ.env)).flatMap V.ids2) f (args.map (A.ev σ.env)) σ.h) σ.h
     (λfp r h'=>AD P n0 l ps.tail (lg++[fp]) ⟨Qp x.d r σ.env,h'⟩ κ)
   | .callv c args=>GdC x.g σ (E1 P n0 (ps.headD []) lg (A.ev σ.env c) (args.map (A.ev σ.env)) σ.h) σ.h
     (λfp r h'=>AD P n0 l ps.tail (lg++[fp]) ⟨Qp x.d r σ.env,h'⟩ κ)
   | .mnx _=>False
   | .men _=>False
   | i=>chk (ps.headD []) lg (i.foot (A.ev σ.env))=true/\GdP x.g σ (Opt (Q3 i (A.ev σ.env) σ.h)) σ.h
       (λr h'=>Z2 i σ.h h'/\AD P n0 l ps.tail (lg++[i.foot (A.ev σ.env)]) ⟨Qp x.d r σ.env,h'⟩ κ)
def WeakH (k:Nat):List O->List O->Prop
 | _,[]=>True
 | [],_::_=>False
 | o::os,p::ps=>(p=.dead∨(o=p/\p.cl k))/\WeakH k os ps
def Weak (n:Nat) (σ τ:St):Prop :=
 n<=τ.h.length/\τ.h.length<=σ.h.length/\(∀p∈τ.env,p.2=.any∨(get p.1 σ.env=p.2/\p.2.cl τ.h.length=true))/\WeakH τ.h.length σ.h τ.h
inductive Gho where
 | t (t sz:Nat)
 | c (id i j sz:Nat)
def Q0y:Gho->St->Option St
 | .t t sz,σ=>match get t σ.env with
   | .nil=>some ⟨put t (.own σ.h.length 1 0 0) σ.env,σ.h++[.arr 1 sz []]⟩
   | _=>none
 | .c id i j sz,σ=>match σ.h[id]? with
   | some (.arr g s els)=>match els[i]? with
     | some el=>match el[j]? with
       | some .nil=>some ⟨σ.env,σ.h.set id (.arr g s (els.set i (el.set j (.own σ.h.length 1 0 0))))++[.arr 1 sz []]⟩
       | _=>none
     | none=>none
   | _=>none
def I2:List Gho->St->Option St
 | [],σ=>some σ
 | g::gs,σ=>(Q0y g σ).bind (I2 gs)
def Q55 (v:V) (p q:Prop):Prop :=
 match v with
 | .b t=>(t=true->p)/\(t=false->q)
 | _=>False
def AS (P:Program) (n:Nat):C->St->(X->St->Prop)->Prop
 | .skip,σ,κ=>κ .n σ
 | .reg l,σ,κ=>AO P l σ (κ .n)
 | .drw l ps,σ,κ=>AD P σ.h.length l ps [] σ (κ .n)
 | .seq a b,σ,κ=>AS P n a σ (λx τ=>match x with | .n=>AS P n b τ κ | .e id=>κ (.e id) τ | .r=>κ .r τ)
 | .ite c a b,σ,κ=>Q55 (A.ev σ.env c) (AS P n a σ κ) (AS P n b σ κ)
 | .blk id c,σ,κ=>AS P n c σ (λx τ=>match x with | .e id'=>if id'=id then κ .n τ else κ (.e id') τ | .n=>κ .n τ | .r=>κ .r τ)
 | .loop c,σ,κ=>∃(α:Type) (φ:α->Prop) (S:α->St) (μ:α->Nat),(∃x,φ x/\∃gs σ',I2 gs σ=some σ'/\Weak n σ' (S x)) /\
   ∀x,φ x->AS P n c (S x) (λy τ=>match y with | .n=>∃x',φ x'/\μ x'<μ x/\Weak n τ (S x') | .e id=>κ (.e id) τ | .r=>κ .r τ)
 | .exit id,σ,κ=>κ (.e id) σ
 | .ret,σ,κ=>κ .r σ
def I.cls:I->Nat
 | .mv _ | .pick _ _ _ | .fld _ _ _ | .ix _ _ _ _ _ | .ixs _ _ | .bin _ _ _ | .eqb _ _ _ | .eqa _ _ _ _ | .un _ _ | .cvi _ _ | .mx _ | .mn _ | .build _ _ | .bsi _ _ _ _ | .slcs _ _ _ | .mki _ _ _ _ | .ext _ _ | .mkf _ _=>0
 | .alloc _ | .box _ | .s2b _ | .bso _ _ _ _ | .mks _ _ _ _ | .mkm _=>0
 | .ld _ _ | .fa _ _ | .ia _ _ _ | .iaa _ _ _ _ | .b2s _ | .len _ _ | .slc _ _ _ _ | .nck _ | .lk _ _ _ _ _ | .slc3 _ _ _ _ _ | .isn _ _ | .mrng _ | .men _=>1
 | _=>2
def A.tmps:A->List Nat
 | .t n=>[n]
 | .c _=>[]
def I.opnds:I->List A
 | .mv x | .ld _ x | .box x | .fa _ x | .fld _ _ x | .un _ x | .cvi _ x | .s2b x | .b2s x | .len _ x | .ext x _ | .nck x=>[x]
 | .pick c a b=>[c,a,b]
 | .st _ x y | .ia _ x y | .iaa _ _ x y | .ix _ _ _ x y | .ixs x y | .bin _ x y | .eqb _ x y | .eqa _ _ x y | .app _ _ x y | .copy _ x y=>[x,y]
 | .alloc _=>[]
 | .mkm x=>x.toList
 | .apz _ _ _ s n=>[s,n]
 | .sla _ _ x=>[x]
 | .mx xs | .mn xs | .mkf _ xs | .call _ xs=>xs
 | .build _ ps=>ps.map λp=>p.2.2
 | .bsi _ _ _ ps | .bso _ _ _ ps=>ps.map λp=>p.2
 | .mks _ _ _ n=>[n]
 | .mki _ _ _ n=>[n]
 | .slc _ x lo hi | .slcs x lo hi=>x::(lo.toList++hi.toList)
 | .lk _ _ _ m k=>[m,k]
 | .mup _ m k v=>[m,k,v]
 | .mdel _ m k=>[m,k]
 | .ment _ _ m k=>[m,k]
 | .est m s v=>[m,s,v]
 | .callv c xs=>c::xs
 | .slc3 _ x lo hi z=>x::z::(lo.toList++hi.toList)
 | .isn _ x | .mrng x | .mnx x | .men x=>[x]
def A.cok:A->Bool
 | .t _=>true
 | .c v=>v.ids2.isEmpty
def I.uses (i:I):List Nat:=i.opnds.flatMap A.tmps
def Ins.uses (x:Ins):List Nat:=(match x.g with | some (t,_)=>[t] | none=>[])++x.i.uses
end Go.Abs
namespace Go.Abs
open Go.RowKit
theorem Q1l {P:Program} {f:FuncId} (hc:Qx P f=true) (args:Array Value) (w:World):(callFunc f args).run P w=.ok (.enter f args) w:=by
 unfold Qx at hc;split at hc
 ·rename_i fn hf;simp only[Bool.and_eq_true,Bool.not_eq_true',beq_eq_false_iff_ne,ne_eq]at hc;obtain⟨b,hb⟩:=Option.isSome_iff_exists.1 hc.1;simp[callFunc,hf,hc.2,hb]
 ·simp at hc
def immOk (ops:Array Oper) (t:Nat):Bool :=
 let names (o:Oper):Bool:=o.op.operands.any fun | .tmp u=>u == t | _=>false
 ops.any names && ops.all λo=>!names o || (match o.op with
  | .convert _ _ _=>true
  | .call c=>(match c.callee,c.args.toList with
    | .builtin .append,[s,_]=>(match s with | .tmp u=>!(u == t) | _=>true)
    | .value _,_=>true
    | _,_=>false)
  | _=>false)
def Qkl (P:Program) (o:Oper):Option I :=
 match o.op with
 | .call c=>match c.callee with
   | .value (.func g)=>if Qx P g then some (.call g (c.args.toList.map cvA)) else none
   | .value (.tmp t)=>some (.callv (.t t) (c.args.toList.map cvA))
   | _=>none
 | .next it false=>some (.mnx (cvA it))
 | _=>none
def okd (d:Option Nat) (N:Nat):Bool:=match d with
 | some d=>decide (d<N)
 | none=>true
def Q7z (ops:Array Oper):Option (Nat × Bool)->Option (Option (Nat × Bool))
 | none=>some none
 | some (j,Z0)=>((ops[j]?).bind (·.dst)).map λt=>some (t,Z0)
def I.isCall:I->Bool
 | .call _ _ | .callv _ _ | .mnx _=>true
 | _=>false
def Qz0 (P:Program) (imm:Bool) (o:Oper):Option I:=match Qkl P o with
 | some i=>some i
 | none=>(Qek P imm o).bind λi=>if i.isCall then none else some i
def Jg (P:Program) (N:Nat) (ops:Array Oper) (imm:Bool) (o:Oper):Option Ins :=
 (Qz0 P imm o).bind λi=>if okd o.dst N=true then (Q7z ops o.guard).map λg=>⟨o.dst,g,i⟩ else none
theorem X9 {P:Program} {N:Nat} {ops:Array Oper} {imm:Bool} {o:Oper} {x:Ins} (h:Jg P N ops imm o=some x) :
  Qz0 P imm o=some x.i/\(∀t,o.dst=some t->t<N)/\x.d=o.dst/\Q7z ops o.guard=some x.g:=by
 simp only[Jg,qr,ja,qa]at h;obtain⟨i,hi,hd,g,hg,rfl⟩:=h;refine⟨hi,λt ht=>?_,rfl,hg⟩;simp only[okd,ht,decide_eq_true_eq]at hd;exact hd
def Qho (P:Program) (N:Nat) (ops:Array Oper):Option (List Ins) :=
 ops.toList.mapM λo=>Jg P N ops (match o.dst with | some t=>immOk ops t | none=>false) o
section
variable {P:Program}
structure RelF (N:Nat) (J:Nat->Prop) (m:List Ent) (E:Nat->V) (h:List O) (a:Act) (w:World):Prop where
 tmps:∀t,RV J m w (E t) (a.tmps.getD t undef)
 rs:RS J h m w
 defers:a.defers=[]
 size:a.tmps.size=N
def evF (E:Nat->V):A->V
 | .t n=>E n
 | .c v=>v
theorem Xv (env:List (Nat × V)):evF (λt=>get t env)=A.ev env:=by
 funext x;cases x<;>rfl
theorem RelF.ev {N:Nat} {J:Nat->Prop} {m:List Ent} {E:Nat->V} {h:List O} {a:Act} {w:World} (hr:RelF N J m E h a w) (x:Operand):RV J m w (evF E (cvA x)) (a.eval x):=by
 cases x with
 | tmp t=>exact hr.tmps t
 | const v=>exact Z7 (cvV_ok v)
 | global g=>exact trivial
 | func f=>exact⟨#[],rfl,Pw.nil⟩
def Q1w (d:Option Nat) (v:V) (E:Nat->V):Nat->V:=λt=>if d=some t then v else E t
theorem I3 (d:Option Nat) (v:V) (env:List (Nat × V)):(λt=>get t (Qp d v env))=Q1w d v (λt=>get t env):=by
 funext t;cases d with
 | none=>simp[Qp,Q1w]
 | some d =>
   simp only[Qp,Q1w,Option.some.injEq];split
   ·rename_i h;subst h;exact Qs _ _ _
   ·rename_i h;exact Qe _ _ (λh'=>h h'.symm)
theorem RelF.put {N:Nat} {J J':Nat->Prop} {m m':List Ent} {E:Nat->V} {h h':List O} {a:Act} {w w':World} (hr:RelF N J m E h a w) {n:Nat} (hev:Ev n J m w J' m' w') (hml:Ml m m') (hrs:RS J' h' m' w')
  {d:Option Nat} (hd:∀t,d=some t->t<N) {r:V} {v:Value} (hv:RV J' m' w' r v):RelF N J' m' (Q1w d r E) h' (a.put d v) w':=by
 have hmono:∀V c,RV J m w V c->RV J' m' w' V c:=λV c hc =>
  RV.mono hev.sub (λk hk=>hev.keep k (hr.rs.jlt k hk) (λid e h1 h2=>(hr.rs.dis id e k h1 h2).1 hk)) hml hc
 refine⟨λt=>?_,hrs,?_,?_⟩
 ·cases d with
  | none=>simp only[Q1w,Act.put];exact hmono _ _ (hr.tmps t)
  | some d =>
    simp only[Q1w,Act.put,Option.some.injEq];have hd':d<a.tmps.size:=by rw[hr.size];exact hd d rfl
    by_cases ht:d=t
    ·subst ht;rw[if_pos rfl];simp[Array.getD,hd'];exact hv
    ·rw[if_neg ht];have:(a.tmps.setIfInBounds d v).getD t undef=a.tmps.getD t undef:=by
      simp[Array.getD_eq_getD_getElem?,Array.getElem?_setIfInBounds,ht]
     rw[this];exact hmono _ _ (hr.tmps t)
 ·cases d<;>exact hr.defers
 ·cases d<;>simp[Act.put,hr.size]
def Wc (P:Program) (i:I) (E:Nat->V) (h:List O) (κ:V->List O->Prop):Prop :=
 match i with
 | .call f args=>ACall P f (args.map (evF E)) h κ
 | .callv c args=>match evF E c with
   | .f f caps=>Qx P f=true/\ACall P f (args.map (evF E)++caps) h κ
   | _=>False
 | .isn neg y=>match (evF E y).empt with
   | true=>κ (.b true) h/\κ (.b false) h
   | false=>match Q3 (.isn neg y) (evF E) h with
     | some (r,h')=>κ r h'
     | none=>False
 | .mnx y=>Mnx (evF E y) h κ
 | i=>match Q3 i (evF E) h with
   | some (r,h')=>κ r h'
   | none=>False
theorem Qxh {imm:Bool} {o:Oper} {neg:Bool} {X:A} (h:Qek P imm o=some (.isn neg X)) :
  ∃op T x y yT e,o.op=.binOp op T x y yT/\(op=.eql∨op=.neq)/\P.underlying T=some (.slice e)/\Qgx y=true/\neg=decide (op=.neq)/\X=cvA x:=by
 unfold Qek at h
 revert h
 repeat' split
 all_goals try (simp;done)
 rename_i op T x y yT ho _ e hu hc;intro h;simp only[Option.some.injEq,I.isn.injEq]at h;exact⟨op,T,x,y,yT,e,ho,hc.1,hu,hc.2,h.1.symm,h.2.symm⟩
theorem Qmu {N:Nat} {ops:Array Oper} {imm:Bool} {o:Oper} {x:Ins} (hx:Jg P N ops imm o=some x) {J:Nat->Prop} {m:List Ent} {E:Nat->V} {h:List O} {a:Act} {w:World} (hr:RelF N J m E h a w)
  {κ:V->List O->Prop} (hdo:Wc P x.i E h κ)
  {K:Act->World->Prop} {Q:Exit->Act->World->Prop}
  (hK:∀r h' J' m' a' w',κ r h'->RelF N J' m' (Q1w x.d r E) h' a' w'->(∀n,Ev n J m w J' m' w')->Ml m m'->K a' w'):o.wp P a w K Q:=by
 obtain⟨hxi,hd,hxd,_⟩:=X9 hx;have hcall:∀(f:FuncId) (vs:List V) (cargs:List Value),Qx P f=true->ACall P f vs h κ->Pw (RV J m w) vs cargs->(execOp a.eval o).run P w=(callFunc f cargs.toArray).run P w->o.wp P a w K Q:=by
  intro f vs cargs hcl hac hpw hrun;unfold Oper.wp;rw[hrun,Q1l hcl,Oper.upon_enter];refine (hac J m w cargs hr.rs hpw).mono λe w' hh=>?_
  obtain⟨v,r,h',J',m',rfl,hκ,hv,hrs,hev,hml⟩:=hh;exact hK r h' J' m' _ _ hκ (by rw[hxd];exact hr.put (hev 0) hml hrs hd hv) hev hml
 have hplain:Qek P imm o=some x.i->x.i.isCall=false->o.wp P a w K Q:=by
  intro hci hnc;by_cases hisn:∃neg y,x.i=.isn neg y/\(evF E y).empt=true
  ·obtain⟨neg,y,hxi2,hemp⟩:=hisn;rw[hxi2]at hdo hci
   simp only[Wc,hemp]at hdo;obtain⟨op,T,x1,y1,yT,e,ho,hop,hu,hny,_,rfl⟩:=Qxh hci;have h1:=hr.ev x1;have hsl:∃ad n c,a.eval x1=.slice ad n c:=by
    generalize evF E (cvA x1)=X at *
    generalize a.eval x1=xv at *
    unfold V.empt at hemp;split at hemp
    ·have h2:RD J w .nil xv:=h1;cases h2 with
     | nil0=>exact⟨_,_,_,rfl⟩
     | nil1 ad=>exact⟨_,_,_,rfl⟩
    ·rename_i sz;have h2:RD J w (.l sz []) xv:=h1;cases h2 with
     | l0=>exact⟨_,_,_,rfl⟩
     | l1=>exact⟨_,_,_,rfl⟩
     | l=>exact⟨_,_,_,rfl⟩
    ·simp at hemp
   obtain⟨ad,n,c,hsl⟩:=hsl;obtain⟨v,w',J',m',hres,hv,hrs,hev,hml⟩:=Qkd (P:=P) (J:=J) (m:=m) (w:=w) (h:=h) (ox:=x1) (oy:=y1) hop hu (Qp0 (a:=a) hny) hr.rs ad n c;have hrun:(execOp a.eval o).run P w=(do pure (.value (<- (do eqGuard op T x1 y1 (.slice ad n c) (a.eval y1);binOp op T (.slice ad n c) (a.eval y1)))):Sem Next).run P w:=by
    simp only[execOp,ho,hsl]
   unfold Oper.wp;rw[hrun];have hκ:κ (.b (if op=.neq then !ad.isNone else ad.isNone)) h:=by
    cases (if op=.neq then !ad.isNone else ad.isNone)
    ·exact hdo.2
    ·exact hdo.1
   rcases hres with hres | ⟨hres,rfl⟩
   ·rw[hres];simp only[Oper.upon_value];exact hK _ h J' m' _ _ hκ (by rw[hxd];exact hr.put (hev 0) hml hrs hd hv) hev hml
   ·rw[hres];simp only[Oper.upon_skip];exact hK _ h J' m' _ _ hκ (by rw[hxd];exact hr.put (hev 0) hml hrs hd hv) hev hml
  have hdo':match Q3 x.i (evF E) h with | some (r,h')=>κ r h' | none=>False:=by
   generalize x.i=i at *
   cases i
   case isn neg y =>
    have hf:(evF E y).empt=false:=by
     cases he:(evF E y).empt with
     | false=>rfl
     | true=>exact absurd ⟨neg,y,rfl,he⟩ hisn
    simp only[Wc,hf]at hdo;exact hdo
   all_goals first | exact hdo | (simp[I.isCall]at hnc;done)
  split at hdo'
  case h_2=>exact hdo'.elim
  rename_i r h' hst;obtain⟨v,w',J',m',hres,hv,hrs,hev,hml⟩:=Qum hci (ev:=evF E) (λ_=>rfl) hr.ev hr.rs hst;unfold Oper.wp;rcases hres with hres | ⟨hres,rfl⟩
  ·rw[hres];simp only[Oper.upon_value];exact hK r h' J' m' _ _ hdo' (by rw[hxd];exact hr.put (hev 0) hml hrs hd hv) hev hml
  ·rw[hres];simp only[Oper.upon_skip];exact hK r h' J' m' _ _ hdo' (by rw[hxd];exact hr.put (hev 0) hml hrs hd hv) hev hml
 have hargs:∀l:List Operand,Pw (RV J m w) ((l.map cvA).map (evF E)) (l.map a.eval):=by
  intro l;refine⟨by simp,λk v c hv hc=>?_⟩;simp only[List.map_map,qp,qa]at hv hc;obtain⟨q,hq,rfl⟩:=hv;obtain⟨q',hq',rfl⟩:=hc;obtain rfl:=Option.some.inj (hq.symm.trans hq');exact hr.ev q
 unfold Qz0 at hxi;split at hxi
 ·rename_i i hcc;obtain rfl:=Option.some.inj hxi;unfold Qkl at hcc;split at hcc
  case h_3=>simp at hcc
  case h_2 =>
   rename_i it ho;have hcc:=Option.some.inj hcc;rw[<- hcc]at hdo
   simp only[Wc]at hdo;obtain⟨r,h',v,w',hrun,hκ,hv,hrs,hev⟩:=mnx_ok (P:=P) hr.rs (hr.ev it) hdo o.type;have hrun':(execOp a.eval o).run P w=.ok (.value v) w':=by
    simp only[execOp,ho,Sem.run_bind,hrun,Result.andThen_ok,Sem.run_pure]
   unfold Oper.wp;rw[hrun'];simp only[Oper.upon_value];exact hK r h' J m _ _ hκ (by rw[hxd];exact hr.put (hev 0) (Ml.refl m) hrs hd hv) hev (Ml.refl m)
  rename_i c ho;split at hcc
  ·rename_i g hcal;simp only[ja,Option.some.injEq]at hcc;obtain⟨hcl,hcc⟩:=hcc;rw[<- hcc]at hdo
   refine hcall g _ (c.args.toList.map a.eval) hcl hdo (hargs _) ?_;have:(c.args.toList.map a.eval).toArray=c.args.map a.eval:=by apply Array.ext';simp
   rw[this];simp[execOp,ho,resolve,hcal,Act.eval,Deferred.ofValue,invoke]
  ·rename_i t hcal;have hcc:=Option.some.inj hcc;rw[<- hcc]at hdo
   simp only[Wc]at hdo;split at hdo
   case h_2=>exact hdo.elim
   rename_i f caps hE;have h1:=hr.tmps t;have hE':E t=.f f caps:=hE;rw[hE']at h1
   obtain⟨cs,hcs,hp⟩:=h1;refine hcall f _ (c.args.toList.map a.eval++cs.toList) hdo.1 hdo.2 (Pw.append (hargs _) (hp.imp λv c' hh=>Qh (by cases v<;>first | exact hh | simp only[RL]at hh))) ?_;have:(c.args.toList.map a.eval++cs.toList).toArray=c.args.map a.eval++cs:=by apply Array.ext';simp
   rw[this];have hae:a.eval (.tmp t)=.func (.func f) #[] cs:=hcs;simp[execOp,ho,resolve,hcal,hae,Deferred.ofValue,invoke]
  ·simp at hcc
 ·rename_i hcc;simp only[qr]at hxi;obtain⟨i,hi,hxi⟩:=hxi;split at hxi
  case isTrue=>simp at hxi
  rename_i hnc;obtain rfl:=Option.some.inj hxi;exact hplain hi (by simpa using hnc)
def Q4x (E:Nat->V) (b:Bool):Option (Nat × Bool)->Prop
 | none=>b=true
 | some (t,Z0)=>(∀c,E t=.b c->b=(c == Z0))/\(E t=.t []->b=false)
theorem Ih {N:Nat} {ops:Array Oper} {o:Oper} {J:Nat->Prop} {m:List Ent} {E:Nat->V} {h:List O} {a:Act} {w:World} (hr:RelF N J m E h a w) {g:Option (Nat × Bool)} (hg:Q7z ops o.guard=some g) :
  Q4x E (Region.wanted o (yielded ops a.tmps)) g:=by
 cases hog:o.guard with
 | none =>
   rw[hog]at hg
   obtain rfl:=Option.some.inj hg;simp[Q4x,Region.wanted,hog]
 | some p =>
   obtain⟨j,Z0⟩:=p;rw[hog]at hg
   simp only[Q7z,qa]at hg;obtain⟨t,ht,rfl⟩:=hg;refine⟨?_,λhu=>?_⟩
   case refine_2 =>
    have h1:=hr.tmps t;rw[hu]at h1
    obtain⟨arr,h2,h3⟩:=h1;have h4:yielded ops a.tmps j=none:=by
     simp only[yielded,ht,Option.bind_some];cases h5:a.tmps[t]? with
     | none=>rfl
     | some y =>
       have h6:a.tmps.getD t undef=y:=by simp[Array.getD_eq_getD_getElem?,h5]
       rw[h6]at h2
       rw[h2]
    simp[Region.wanted,hog,h4]
   intro b hb;have h1:=hr.tmps t;rw[hb]at h1
   have h2:=Ym h1;have h3:a.tmps[t]?=some (.bool b):=by
    rcases Nat.lt_or_ge t a.tmps.size with hlt | hge
    ·have:a.tmps.getD t undef=a.tmps[t]:=by simp[Array.getD,hlt]
     rw[this]at h2
     rw[Array.getElem?_eq_getElem hlt,h2]
    ·have:a.tmps.getD t undef=undef:=by simp[Array.getD,Nat.not_lt.2 hge]
     rw[this]at h2
     simp[undef]at h2
   have h4:yielded ops a.tmps j=some b:=by
    simp[yielded,ht,h3]
   simp[Region.wanted,hog,h4]
def Ql5 (N:Nat) (J:Nat->Prop) (m:List Ent) (w:World) (n:Nat) (κ:X->St->Prop) (e:Exit) (a':Act) (w':World):Prop :=
 ∃x σ' J' m',(match e,x with | .normal,.n=>True | .exit i,.e j=>i=j | .ret,.r=>True | _,_=>False)/\κ x σ'/\RelF N J' m' (λt=>get t σ'.env) σ'.h a' w'/\Ev n J m w J' m' w'
theorem Qvl {N:Nat} {n:Nat} {ops:Array Oper} {Q:Exit->Act->World->Prop}:∀(l:List Oper) (xs:List Ins),l.length=xs.length->(∀(k:Nat) (o:Oper) (x:Ins),l[k]?=some o->xs[k]?=some x->∃imm,Jg P N ops imm o=some x) ->
  ∀(σ:St) (κ:St->Prop),AO P xs σ κ->∀(J:Nat->Prop) (m:List Ent) (a:Act) (w:World),RelF N J m (λt=>get t σ.env) σ.h a w ->
   (∀σ' J' m' a' w',κ σ'->RelF N J' m' (λt=>get t σ'.env) σ'.h a' w'->Ev n J m w J' m' w'->Q .normal a' w')->wpList P ops Q l a w
 | [],[],_,_,σ,κ,hao,J,m,a,w,hr,hQ=>hQ σ J m a w hao hr (Ev.refl n J m w)
 | [],_::_,hl,_,_,_,_,_,_,_,_,_,_=>by simp at hl
 | _::_,[],hl,_,_,_,_,_,_,_,_,_,_=>by simp at hl
 | o::l,x::xs,hl,hk,σ,κ,hao,J,m,a,w,hr,hQ=>by
   obtain⟨imm,hx⟩:=hk 0 o x rfl rfl;obtain⟨_,hd,hxd,hg⟩:=X9 hx;have hw:=Ih hr hg;have hrest:=λσ κ=>Qvl (N:=N) (n:=n) (ops:=ops) (Q:=Q) l xs (by simpa using hl) (λk o x a b=>hk (k+1) o x (by simpa using a) (by simpa using b)) σ κ
   have hwant:A1 P x σ (λσ'=>AO P xs σ' κ)->o.wp P a w (wpList P ops Q l) Q:=by
    intro ha1;refine Qmu hx hr (κ:=λr h'=>AO P xs ⟨Qp x.d r σ.env,h'⟩ κ) ?_ ?_
    ·unfold A1 at ha1;unfold Wc;rw[Xv];exact ha1
    ·intro r h' J' m' a' w' hκ hr' hev hml;refine hrest ⟨Qp x.d r σ.env,h'⟩ κ hκ J' m' a' w' (by rw[I3];exact hr') ?_;intro σ' J'' m'' a'' w'' h1 h2 h3;exact hQ σ' J'' m'' a'' w'' h1 h2 ((hev n).trans h3)
   have hskip:AO P xs ⟨Qp x.d (.t []) σ.env,σ.h⟩ κ->wpList P ops Q l (a.put o.dst undef) w:=by
    intro ha1;refine hrest ⟨Qp x.d (.t []) σ.env,σ.h⟩ κ ha1 J m (a.put o.dst undef) w ?_ hQ;rw[I3,hxd];exact hr.put (Ev.refl 0 J m w) (Ml.refl m) hr.rs hd ⟨#[],rfl,Pw.nil⟩
   simp only[AO]at hao;cases hxg:x.g with
   | none =>
     rw[hxg]at hw hao
     simp only[Q4x]at hw hao;simp only[wpList,hw,if_true];exact .inl (hwant hao)
   | some p =>
     obtain⟨t,Z0⟩:=p;rw[hxg]at hw hao
     simp only[Q4x]at hw hao;unfold Xa at hao;split at hao
     case h_3=>exact hao.elim
     case h_2 =>
      rename_i hb;have hw':=hw.2 hb;simp only[wpList,hw',Bool.false_eq_true,if_false];exact hskip hao
     rename_i b hb;have hw':=hw.1 b hb;simp only[wpList,hw'];by_cases hbw:b=Z0
     ·subst hbw;simp only[beq_self_eq_true,if_true];exact .inl (hwant (hao.1 rfl))
     ·have:(b == Z0)=false:=by simpa using hbw
      simp only[this,Bool.false_eq_true,if_false];exact hskip (hao.2 (by cases b<;>cases Z0<;>simp at hbw ⊢))
end
end Go.Abs
