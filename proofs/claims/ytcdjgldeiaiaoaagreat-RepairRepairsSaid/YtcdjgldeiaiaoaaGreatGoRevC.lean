/- Part of the library on which the proof stands: an abstract machine, its values and its soundness against the model; or what functions of the program do to such values. -/
import Derived.Test.YtcdjgldeiaiaoaaGreatAbsSS
set_option linter.unusedVariables false
set_option linter.unusedSimpArgs false
namespace Go.Abs
def Le0 (u v:V):Prop:=u=v∨(u=.nil/\∃sz,v=.l sz [])∨v=.any/\False
def LeL (R:V->V->Prop):List V->List V->Prop
 | [],[]=>True
 | u::us,v::vs=>R u v/\LeL R us vs
 | _,_=>False
def Le1 (u v:V):Prop:=Le0 u v∨∃us vs,u=.a us/\v=.a vs/\LeL Le0 us vs
def Le (u v:V):Prop:=Le1 u v∨∃us vs,u=.t us/\v=.t vs/\LeL Le1 us vs
theorem Le0.refl (u:V):Le0 u u:=.inl rfl
theorem Le0.nil (sz:Nat):Le0 .nil (.l sz []):=.inr (.inl ⟨rfl,sz,rfl⟩)
theorem LeL.refl {R:V->V->Prop} (hR:∀u,R u u):∀us,LeL R us us
 | []=>trivial
 | u::us=>⟨hR u,LeL.refl hR us⟩
theorem Le1.refl (u:V):Le1 u u:=.inl (.inl rfl)
theorem Le.refl (u:V):Le u u:=.inl (Le1.refl u)
theorem LeL.pw {R:V->V->Prop} {Q:V->Value->Prop} (hR:∀u v c,R u v->Q u c->Q v c):∀{us vs:List V} {cs:List Value},LeL R us vs->Pw Q us cs->Pw Q vs cs
 | [],[],cs,_,hp=>hp
 | [],_::_,_,h,_=>h.elim
 | _::_,[],_,h,_=>h.elim
 | u::us,v::vs,[],_,hp=>by have:=hp.1;simp at this
 | u::us,v::vs,c::cs,h,hp=>by
   have h1:=LeL.pw hR h.2 hp.tail
   exact Pw.cons (hR u v c h.1 hp.head) h1
section
variable {J:Nat->Prop} {m:List Ent} {w:World}
theorem Le0.rd {u v:V} {c:Value} (h:Le0 u v) (hc:RC J m w u c):RC J m w v c:=by
 rcases h with rfl | ⟨rfl,sz,rfl⟩ | ⟨_,h⟩
 ·exact hc
 ·have h1:RD J w .nil c:=hc
  show RD J w (.l sz []) c
  cases h1 with
  | nil0=>exact .l0 sz
  | nil1 a=>exact .l1 sz a 0
 ·exact h.elim
theorem Le0.ra {u v:V} {c:Value} (h:Le0 u v) (hc:RA J m w u c):RA J m w v c:=by
 rcases h with rfl | ⟨rfl,sz,rfl⟩ | ⟨_,h⟩
 ·exact hc
 ·exact Qr (Le0.rd (J:=J) (m:=m) (Le0.nil sz) (by exact hc))
 ·exact h.elim
theorem Le1.ra {u v:V} {c:Value} (h:Le1 u v) (hc:RA J m w u c):RA J m w v c:=by
 rcases h with h | ⟨us,vs,rfl,rfl,h⟩
 ·exact h.ra hc
 ·obtain⟨arr,rfl,hp⟩:=hc
  exact⟨arr,rfl,LeL.pw (λ_ _ _ h1 h2=>h1.rd h2) h hp⟩
theorem Le.rv {u v:V} {c:Value} (h:Le u v) (hc:RV J m w u c):RV J m w v c:=by
 rcases h with h | ⟨us,vs,rfl,rfl,h⟩
 ·rcases h with (rfl | ⟨rfl,sz,rfl⟩ | ⟨_,h⟩) | ⟨us,vs,rfl,rfl,h⟩
  ·exact hc
  ·exact Qx (Le0.ra (Le0.nil sz) (by exact hc))
  ·exact h.elim
  ·exact Qx (Le1.ra (.inr ⟨us,vs,rfl,rfl,h⟩) (by exact hc))
 ·obtain⟨arr,rfl,hp⟩:=hc
  exact⟨arr,rfl,LeL.pw (λ_ _ _ h1 h2=>h1.ra h2) h hp⟩
end
variable {P:Program}
theorem ACall_le {f:FuncId} {us vs:List V} {h:List O} {R:V->List O->Prop} (hl:LeL Le us vs) (hc:ACall P f vs h R):ACall P f us h R :=
 λJ m w cargs hr hp=>hc J m w cargs hr (LeL.pw (λ_ _ _ h1 h2=>h1.rv h2) hl hp)
theorem ACall_res {f:FuncId} {vs:List V} {h:List O} {R R':V->List O->Prop} (hR:∀r h',R r h'->∃r',Le r r'/\R' r' h') (hc:ACall P f vs h R):ACall P f vs h R' :=
 λJ m w cargs hr hp=>(hc J m w cargs hr hp).mono λe w' ⟨v,r,h',J',m',h1,h2,h3,h4,h5,h6⟩=>by
  obtain⟨r',q1,q2⟩:=hR r h' h2
  exact⟨v,r',h',J',m',h1,q2,q1.rv h3,h4,h5,h6⟩
theorem CallIs.le {f:FuncId} {us vs:List V} {r r':V} (hc:CallIs P f vs r) (hl:LeL Le us vs) (hr:Le r r'):CallIs P f us r' :=
 λh=>ACall_le hl (ACall_res (λr0 h0 hh=>⟨r',by rw[hh.1];exact hr,rfl,hh.2⟩) (hc h))
theorem CallIs.res {f:FuncId} {us:List V} {r r':V} (hc:CallIs P f us r) (hr:Le r r'):CallIs P f us r':=hc.le (LeL.refl Le.refl us) hr
theorem PureC.res {f:FuncId} {us:List V} {r r':V} (hc:PureC P f us (·=r)) (hr:Le r r'):PureC P f us (·=r') :=
 ACall_res (λr0 h0 hh=>⟨r',by rw[hh.1];exact hr,rfl,hh.2⟩) hc
def apV (sz:Nat) (els:List (List V)):V:=if els=[] then .nil else .l sz els
theorem apV_le (sz:Nat) (els:List (List V)):Le0 (apV sz els) (.l sz els):=by
 unfold apV;split
 ·rename_i h;subst h;exact Le0.nil sz
 ·exact Le0.refl _
end Go.Abs
set_option linter.unusedVariables false
set_option linter.unusedSimpArgs false
namespace Go.Abs
def vec_within.c:C :=(.seq (.reg [⟨some 2,none,.box (.t 0)⟩,⟨some 4,none,.mv (.c (.b false))⟩]) (.seq (.reg [⟨some 5,none,.fa 0 (.t 2)⟩,⟨some 6,none,.ld none (.t 5)⟩,⟨some 7,none,.mv (.t 1)⟩,⟨some 8,none,.un .neg (.t 7)⟩,⟨some 9,none,.bin .geq (.t 6) (.t 8)⟩,⟨some 10,none,.mv (.t 9)⟩,⟨some 11,(some (10,true)),.fa 0 (.t 2)⟩,⟨some 12,(some (10,true)),.ld none (.t 11)⟩,⟨some 13,(some (10,true)),.mv (.t 1)⟩,⟨some 14,(some (10,true)),.bin .leq (.t 12) (.t 13)⟩,⟨some 15,none,.pick (.t 10) (.t 14) (.c (.b false))⟩,⟨some 16,none,.mv (.t 15)⟩,⟨some 17,(some (16,true)),.fa 1 (.t 2)⟩,⟨some 18,(some (16,true)),.ld none (.t 17)⟩,
 ⟨some 19,(some (16,true)),.mv (.t 1)⟩,⟨some 20,(some (16,true)),.un .neg (.t 19)⟩,⟨some 21,(some (16,true)),.bin .geq (.t 18) (.t 20)⟩,⟨some 22,none,.pick (.t 16) (.t 21) (.c (.b false))⟩,⟨some 23,none,.mv (.t 22)⟩,⟨some 24,(some (23,true)),.fa 1 (.t 2)⟩,⟨some 25,(some (23,true)),.ld none (.t 24)⟩,⟨some 26,(some (23,true)),.mv (.t 1)⟩,⟨some 27,(some (23,true)),.bin .leq (.t 25) (.t 26)⟩,⟨some 28,none,.pick (.t 23) (.t 27) (.c (.b false))⟩,⟨some 29,none,.mv (.t 28)⟩,⟨some 30,(some (29,true)),.fa 2 (.t 2)⟩,⟨some 31,(some (29,true)),.ld none (.t 30)⟩,⟨some 32,(some (29,true)),.mv (.t 1)⟩,⟨some 33,(some (29,true)),.un .neg (.t 32)⟩,
 ⟨some 34,(some (29,true)),.bin .geq (.t 31) (.t 33)⟩,⟨some 35,none,.pick (.t 29) (.t 34) (.c (.b false))⟩,⟨some 36,none,.mv (.t 35)⟩,⟨some 37,(some (36,true)),.fa 2 (.t 2)⟩,⟨some 38,(some (36,true)),.ld none (.t 37)⟩,⟨some 39,(some (36,true)),.mv (.t 1)⟩,⟨some 40,(some (36,true)),.bin .leq (.t 38) (.t 39)⟩,⟨some 41,none,.pick (.t 36) (.t 40) (.c (.b false))⟩,⟨some 4,none,.mv (.t 41)⟩]) .ret))
def vec_within.r:List Rr:=[.tmp 4]
abbrev vec_within.n:Nat:=42
def vec_Valid.c (vec_within:FuncId):C :=(.seq (.reg [⟨some 1,none,.box (.t 0)⟩,⟨some 2,none,.mv (.c (.b false))⟩]) (.seq (.reg [⟨some 3,none,.ld (some 3) (.t 1)⟩,⟨some 4,none,.call vec_within [.t 3,(.c (.i .i64 65536))]⟩,⟨some 2,none,.mv (.t 4)⟩]) .ret))
def vec_Valid.r:List Rr:=[.tmp 2]
abbrev vec_Valid.n:Nat:=5
def ref04_within.c:C :=(.seq (.reg [⟨some 2,none,.box (.t 0)⟩,⟨some 4,none,.mv (.c (.b false))⟩]) (.seq (.reg [⟨some 5,none,.fa 0 (.t 2)⟩,⟨some 6,none,.ld none (.t 5)⟩,⟨some 7,none,.mv (.t 1)⟩,⟨some 8,none,.un .neg (.t 7)⟩,⟨some 9,none,.bin .geq (.t 6) (.t 8)⟩,⟨some 10,none,.mv (.t 9)⟩,⟨some 11,(some (10,true)),.fa 0 (.t 2)⟩,⟨some 12,(some (10,true)),.ld none (.t 11)⟩,⟨some 13,(some (10,true)),.mv (.t 1)⟩,⟨some 14,(some (10,true)),.bin .leq (.t 12) (.t 13)⟩,⟨some 15,none,.pick (.t 10) (.t 14) (.c (.b false))⟩,⟨some 16,none,.mv (.t 15)⟩,⟨some 17,(some (16,true)),.fa 1 (.t 2)⟩,⟨some 18,(some (16,true)),.ld none (.t 17)⟩,
 ⟨some 19,(some (16,true)),.mv (.t 1)⟩,⟨some 20,(some (16,true)),.un .neg (.t 19)⟩,⟨some 21,(some (16,true)),.bin .geq (.t 18) (.t 20)⟩,⟨some 22,none,.pick (.t 16) (.t 21) (.c (.b false))⟩,⟨some 23,none,.mv (.t 22)⟩,⟨some 24,(some (23,true)),.fa 1 (.t 2)⟩,⟨some 25,(some (23,true)),.ld none (.t 24)⟩,⟨some 26,(some (23,true)),.mv (.t 1)⟩,⟨some 27,(some (23,true)),.bin .leq (.t 25) (.t 26)⟩,⟨some 28,none,.pick (.t 23) (.t 27) (.c (.b false))⟩,⟨some 29,none,.mv (.t 28)⟩,⟨some 30,(some (29,true)),.fa 2 (.t 2)⟩,⟨some 31,(some (29,true)),.ld none (.t 30)⟩,⟨some 32,(some (29,true)),.mv (.t 1)⟩,⟨some 33,(some (29,true)),.un .neg (.t 32)⟩,
 ⟨some 34,(some (29,true)),.bin .geq (.t 31) (.t 33)⟩,⟨some 35,none,.pick (.t 29) (.t 34) (.c (.b false))⟩,⟨some 36,none,.mv (.t 35)⟩,⟨some 37,(some (36,true)),.fa 2 (.t 2)⟩,⟨some 38,(some (36,true)),.ld none (.t 37)⟩,⟨some 39,(some (36,true)),.mv (.t 1)⟩,⟨some 40,(some (36,true)),.bin .leq (.t 38) (.t 39)⟩,⟨some 41,none,.pick (.t 36) (.t 40) (.c (.b false))⟩,⟨some 4,none,.mv (.t 41)⟩]) .ret))
def ref04_within.r:List Rr:=[.tmp 4]
abbrev ref04_within.n:Nat:=42
def ref04_Valid.c (ref04_within:FuncId):C :=(.seq (.reg [⟨some 1,none,.box (.t 0)⟩,⟨some 2,none,.mv (.c (.b false))⟩]) (.seq (.reg [⟨some 3,none,.ld (some 3) (.t 1)⟩,⟨some 4,none,.call ref04_within [.t 3,(.c (.i .i64 65536))]⟩,⟨some 2,none,.mv (.t 4)⟩]) .ret))
def ref04_Valid.r:List Rr:=[.tmp 2]
abbrev ref04_Valid.n:Nat:=5
def mesh_Check.c (vec_Valid:FuncId):C :=(.seq (.reg [⟨some 1,none,.box (.t 0)⟩,⟨some 2,none,.mv (.c (.i .i64 0))⟩]) (.seq (.reg [⟨some 8,none,.fa 0 (.t 1)⟩,⟨some 9,none,.ld none (.t 8)⟩,⟨some 10,none,.len 0 (.t 9)⟩,⟨some 3,none,.mv (.t 10)⟩]) (.seq (.seq (.reg [⟨some 11,none,.mv (.t 3)⟩,⟨some 12,none,.bin .gtr (.t 11) (.c (.i .i64 4096))⟩,⟨some 13,none,.mv (.t 12)⟩,⟨some 14,(some (13,false)),.fa 1 (.t 1)⟩,⟨some 15,(some (13,false)),.ld none (.t 14)⟩,⟨some 16,(some (13,false)),.len 0 (.t 15)⟩,⟨some 17,(some (13,false)),.bin .gtr (.t 16) (.c (.i .i64 4096))⟩,⟨some 18,none,.pick (.t 13) (.c (.b true)) (.t 17)⟩])
 (.ite (.t 18) (.seq (.reg [⟨some 2,none,.mv (.c (.i .i64 2))⟩]) .ret) .skip)) (.seq (.seq (.reg [⟨some 19,none,.fa 0 (.t 1)⟩,⟨some 20,none,.ld none (.t 19)⟩,⟨some 21,none,.len 0 (.t 20)⟩,⟨some 22,none,.mv (.c (.i .i64 0))⟩]) (.blk 0 (.loop (.seq (.reg [⟨some 23,none,.bin .lss (.t 22) (.t 21)⟩]) (.seq (.ite (.t 23) .skip (.exit 0)) (.seq (.blk 1 (.seq (.reg [⟨some 24,none,.ia 3 (.t 20) (.t 22)⟩,⟨some 25,none,.ld (some 3) (.t 24)⟩,⟨some 5,none,.alloc [(.i .i64 0),(.i .i64 0),(.i .i64 0)]⟩,⟨none,none,.st 3 (.t 5) (.t 25)⟩]) (.seq (.reg [⟨some 26,none,.ld (some 3) (.t 5)⟩,⟨some 27,none,.call vec_Valid [.t 26]⟩,
 ⟨some 28,none,.un .not (.t 27)⟩]) (.ite (.t 28) (.seq (.reg [⟨some 2,none,.mv (.c (.i .i64 8))⟩]) .ret) .skip)))) (.reg [⟨some 29,none,.bin .add (.t 22) (.c (.i .i64 1))⟩,⟨some 22,none,.mv (.t 29)⟩]))))))) (.seq (.seq (.reg [⟨some 30,none,.fa 1 (.t 1)⟩,⟨some 31,none,.ld none (.t 30)⟩,⟨some 32,none,.len 0 (.t 31)⟩,⟨some 33,none,.mv (.c (.i .i64 0))⟩]) (.blk 2 (.loop (.seq (.reg [⟨some 34,none,.bin .lss (.t 33) (.t 32)⟩]) (.seq (.ite (.t 34) .skip (.exit 2)) (.seq (.blk 3 (.seq (.reg [⟨some 35,none,.ia 3 (.t 31) (.t 33)⟩,⟨some 36,none,.ld (some 3) (.t 35)⟩,⟨some 7,none,.alloc [(.i .i64 0),(.i .i64 0),(.i .i64 0)]⟩,
 ⟨none,none,.st 3 (.t 7) (.t 36)⟩]) (.seq (.reg [⟨some 37,none,.fa 0 (.t 7)⟩,⟨some 38,none,.ld none (.t 37)⟩,⟨some 39,none,.fa 1 (.t 7)⟩,⟨some 40,none,.ld none (.t 39)⟩,⟨some 41,none,.fa 2 (.t 7)⟩,⟨some 42,none,.ld none (.t 41)⟩,⟨some 43,none,.mn [.t 38,.t 40,.t 42]⟩,⟨some 44,none,.bin .lss (.t 43) (.c (.i .i64 0))⟩,⟨some 45,none,.mv (.t 44)⟩,⟨some 46,(some (45,false)),.fa 0 (.t 7)⟩,⟨some 47,(some (45,false)),.ld none (.t 46)⟩,⟨some 48,(some (45,false)),.fa 1 (.t 7)⟩,⟨some 49,(some (45,false)),.ld none (.t 48)⟩,⟨some 50,(some (45,false)),.fa 2 (.t 7)⟩,⟨some 51,(some (45,false)),.ld none (.t 50)⟩,
 ⟨some 52,(some (45,false)),.mx [.t 47,.t 49,.t 51]⟩,⟨some 53,(some (45,false)),.mv (.t 3)⟩,⟨some 54,(some (45,false)),.bin .geq (.t 52) (.t 53)⟩,⟨some 55,none,.pick (.t 45) (.c (.b true)) (.t 54)⟩]) (.ite (.t 55) (.seq (.reg [⟨some 2,none,.mv (.c (.i .i64 1))⟩]) .ret) .skip)))) (.reg [⟨some 56,none,.bin .add (.t 33) (.c (.i .i64 1))⟩,⟨some 33,none,.mv (.t 56)⟩]))))))) (.seq (.reg [⟨some 2,none,.mv (.c (.i .i64 0))⟩]) .ret))))))
def mesh_Check.r:List Rr:=[.tmp 2]
abbrev mesh_Check.n:Nat:=57
def ref07_Check.c (ref04_Valid:FuncId):C :=(.seq (.reg [⟨some 1,none,.box (.t 0)⟩,⟨some 2,none,.mv (.c (.i .i64 0))⟩]) (.seq (.seq (.reg [⟨some 8,none,.fa 0 (.t 1)⟩,⟨some 9,none,.ld none (.t 8)⟩,⟨some 10,none,.len 0 (.t 9)⟩,⟨some 11,none,.bin .gtr (.t 10) (.c (.i .i64 4096))⟩,⟨some 12,none,.mv (.t 11)⟩,⟨some 13,(some (12,false)),.fa 1 (.t 1)⟩,⟨some 14,(some (12,false)),.ld none (.t 13)⟩,⟨some 15,(some (12,false)),.len 0 (.t 14)⟩,⟨some 16,(some (12,false)),.bin .gtr (.t 15) (.c (.i .i64 4096))⟩,⟨some 17,none,.pick (.t 12) (.c (.b true)) (.t 16)⟩]) (.ite (.t 17) (.seq (.reg [⟨some 2,none,.mv (.c (.i .i64 2))⟩])
 .ret) .skip)) (.seq (.seq (.reg [⟨some 18,none,.fa 0 (.t 1)⟩,⟨some 19,none,.ld none (.t 18)⟩,⟨some 20,none,.len 0 (.t 19)⟩,⟨some 21,none,.mv (.c (.i .i64 0))⟩]) (.blk 0 (.loop (.seq (.reg [⟨some 22,none,.bin .lss (.t 21) (.t 20)⟩]) (.seq (.ite (.t 22) .skip (.exit 0)) (.seq (.blk 1 (.seq (.reg [⟨some 23,none,.ia 3 (.t 19) (.t 21)⟩,⟨some 24,none,.ld (some 3) (.t 23)⟩,⟨some 4,none,.alloc [(.i .i64 0),(.i .i64 0),(.i .i64 0)]⟩,⟨none,none,.st 3 (.t 4) (.t 24)⟩]) (.seq (.reg [⟨some 25,none,.ld (some 3) (.t 4)⟩,⟨some 26,none,.call ref04_Valid [.t 25]⟩,⟨some 27,none,.un .not (.t 26)⟩]) (.ite (.t 27)
 (.seq (.reg [⟨some 2,none,.mv (.c (.i .i64 8))⟩]) .ret) .skip)))) (.reg [⟨some 28,none,.bin .add (.t 21) (.c (.i .i64 1))⟩,⟨some 21,none,.mv (.t 28)⟩]))))))) (.seq (.reg [⟨some 29,none,.fa 0 (.t 1)⟩,⟨some 30,none,.ld none (.t 29)⟩,⟨some 31,none,.len 0 (.t 30)⟩,⟨some 5,none,.mv (.t 31)⟩]) (.seq (.seq (.reg [⟨some 32,none,.fa 1 (.t 1)⟩,⟨some 33,none,.ld none (.t 32)⟩,⟨some 34,none,.len 0 (.t 33)⟩,⟨some 35,none,.mv (.c (.i .i64 0))⟩]) (.blk 2 (.loop (.seq (.reg [⟨some 36,none,.bin .lss (.t 35) (.t 34)⟩]) (.seq (.ite (.t 36) .skip (.exit 2)) (.seq (.blk 3 (.seq (.reg [⟨some 37,none,.ia 3 (.t 33) (.t 35)⟩,
 ⟨some 38,none,.ld (some 3) (.t 37)⟩,⟨some 7,none,.alloc [(.i .i64 0),(.i .i64 0),(.i .i64 0)]⟩,⟨none,none,.st 3 (.t 7) (.t 38)⟩]) (.seq (.reg [⟨some 39,none,.fa 0 (.t 7)⟩,⟨some 40,none,.ld none (.t 39)⟩,⟨some 41,none,.bin .lss (.t 40) (.c (.i .i64 0))⟩,⟨some 42,none,.mv (.t 41)⟩,⟨some 43,(some (42,false)),.fa 0 (.t 7)⟩,⟨some 44,(some (42,false)),.ld none (.t 43)⟩,⟨some 45,(some (42,false)),.mv (.t 5)⟩,⟨some 46,(some (42,false)),.bin .geq (.t 44) (.t 45)⟩,⟨some 47,none,.pick (.t 42) (.c (.b true)) (.t 46)⟩,⟨some 48,none,.mv (.t 47)⟩,⟨some 49,(some (48,false)),.fa 1 (.t 7)⟩,⟨some 50,(some (48,false)),.ld none (.t 49)⟩,
 ⟨some 51,(some (48,false)),.bin .lss (.t 50) (.c (.i .i64 0))⟩,⟨some 52,none,.pick (.t 48) (.c (.b true)) (.t 51)⟩,⟨some 53,none,.mv (.t 52)⟩,⟨some 54,(some (53,false)),.fa 1 (.t 7)⟩,⟨some 55,(some (53,false)),.ld none (.t 54)⟩,⟨some 56,(some (53,false)),.mv (.t 5)⟩,⟨some 57,(some (53,false)),.bin .geq (.t 55) (.t 56)⟩,⟨some 58,none,.pick (.t 53) (.c (.b true)) (.t 57)⟩,⟨some 59,none,.mv (.t 58)⟩,⟨some 60,(some (59,false)),.fa 2 (.t 7)⟩,⟨some 61,(some (59,false)),.ld none (.t 60)⟩,⟨some 62,(some (59,false)),.bin .lss (.t 61) (.c (.i .i64 0))⟩,⟨some 63,none,.pick (.t 59) (.c (.b true)) (.t 62)⟩,
 ⟨some 64,none,.mv (.t 63)⟩,⟨some 65,(some (64,false)),.fa 2 (.t 7)⟩,⟨some 66,(some (64,false)),.ld none (.t 65)⟩,⟨some 67,(some (64,false)),.mv (.t 5)⟩,⟨some 68,(some (64,false)),.bin .geq (.t 66) (.t 67)⟩,⟨some 69,none,.pick (.t 64) (.c (.b true)) (.t 68)⟩]) (.ite (.t 69) (.seq (.reg [⟨some 2,none,.mv (.c (.i .i64 1))⟩]) .ret) .skip)))) (.reg [⟨some 70,none,.bin .add (.t 35) (.c (.i .i64 1))⟩,⟨some 35,none,.mv (.t 70)⟩]))))))) (.seq (.reg [⟨some 2,none,.mv (.c (.i .i64 0))⟩]) .ret))))))
def ref07_Check.r:List Rr:=[.tmp 2]
abbrev ref07_Check.n:Nat:=71
def mesh_Corners.c (mesh_Check:FuncId):C :=(.seq (.reg [⟨some 2,none,.box (.t 0)⟩,⟨some 4,none,.alloc [(.i .i64 0),(.i .i64 0),(.i .i64 0)]⟩,⟨some 5,none,.alloc [(.i .i64 0),(.i .i64 0),(.i .i64 0)]⟩,⟨some 6,none,.alloc [(.i .i64 0),(.i .i64 0),(.i .i64 0)]⟩,⟨some 7,none,.mv (.c (.b false))⟩]) (.seq (.seq (.reg [⟨some 9,none,.mv (.t 1)⟩,⟨some 10,none,.bin .lss (.t 9) (.c (.i .i64 0))⟩,⟨some 11,none,.mv (.t 10)⟩,⟨some 12,(some (11,false)),.mv (.t 1)⟩,⟨some 13,(some (11,false)),.fa 1 (.t 2)⟩,⟨some 14,(some (11,false)),.ld none (.t 13)⟩,⟨some 15,(some (11,false)),.len 0 (.t 14)⟩,⟨some 16,(some (11,false)),.bin .geq (.t 12) (.t 15)⟩,
 ⟨some 17,none,.pick (.t 11) (.c (.b true)) (.t 16)⟩,⟨some 18,none,.mv (.t 17)⟩,⟨some 19,(some (18,false)),.ld (some 2) (.t 2)⟩,⟨some 20,(some (18,false)),.call mesh_Check [.t 19]⟩,⟨some 21,(some (18,false)),.bin .neq (.t 20) (.c (.i .i64 0))⟩,⟨some 22,none,.pick (.t 18) (.c (.b true)) (.t 21)⟩]) (.ite (.t 22) (.seq (.reg [⟨some 23,none,.build [(.i .i64 0),(.i .i64 0),(.i .i64 0)] []⟩,⟨some 24,none,.build [(.i .i64 0),(.i .i64 0),(.i .i64 0)] []⟩,⟨some 25,none,.build [(.i .i64 0),(.i .i64 0),(.i .i64 0)] []⟩,⟨none,none,.st 3 (.t 4) (.t 23)⟩,⟨none,none,.st 3 (.t 5) (.t 24)⟩,⟨none,none,.st 3 (.t 6) (.t 25)⟩,
 ⟨some 7,none,.mv (.c (.b false))⟩]) .ret) .skip)) (.seq (.reg [⟨some 26,none,.fa 1 (.t 2)⟩,⟨some 27,none,.ld none (.t 26)⟩,⟨some 28,none,.mv (.t 1)⟩,⟨some 29,none,.ia 3 (.t 27) (.t 28)⟩,⟨some 30,none,.ld (some 3) (.t 29)⟩,⟨some 8,none,.alloc [(.i .i64 0),(.i .i64 0),(.i .i64 0)]⟩,⟨none,none,.st 3 (.t 8) (.t 30)⟩]) (.seq (.drw [⟨some 31,none,.fa 0 (.t 2)⟩,⟨some 32,none,.ld none (.t 31)⟩,⟨some 33,none,.fa 0 (.t 8)⟩,⟨some 34,none,.ld none (.t 33)⟩,⟨some 35,none,.ia 3 (.t 32) (.t 34)⟩,⟨some 36,none,.ld (some 3) (.t 35)⟩,⟨some 37,none,.fa 0 (.t 2)⟩,⟨some 38,none,.ld none (.t 37)⟩,⟨some 39,none,.fa 1 (.t 8)⟩,
 ⟨some 40,none,.ld none (.t 39)⟩,⟨some 41,none,.ia 3 (.t 38) (.t 40)⟩,⟨some 42,none,.ld (some 3) (.t 41)⟩,⟨some 43,none,.fa 0 (.t 2)⟩,⟨some 44,none,.ld none (.t 43)⟩,⟨some 45,none,.fa 2 (.t 8)⟩,⟨some 46,none,.ld none (.t 45)⟩,⟨some 47,none,.ia 3 (.t 44) (.t 46)⟩,⟨some 48,none,.ld (some 3) (.t 47)⟩,⟨none,none,.st 3 (.t 4) (.t 36)⟩,⟨none,none,.st 3 (.t 5) (.t 42)⟩,⟨none,none,.st 3 (.t 6) (.t 48)⟩,⟨some 7,none,.mv (.c (.b true))⟩] [[],[],[],[],[],[],[],[],[],[],[],[],[],[],[],[],[],[],[6,7,8,9,10,11,12,13,14,15,16,17],[12,13,14,15,16,17],[],[]]) .ret))))
def mesh_Corners.r:List Rr:=[.cell 4 (some 3),.cell 5 (some 3),.cell 6 (some 3),.tmp 7]
abbrev mesh_Corners.n:Nat:=49
end Go.Abs
set_option linter.unusedVariables false
set_option linter.unusedSimpArgs false
namespace Go.Abs
structure V3 where
 x:Int
 y:Int
 z:Int
deriving DecidableEq
def V3.cs (v:V3):List V:=[.i .i64 v.x,.i .i64 v.y,.i .i64 v.z]
def V3.enc (v:V3):V:=.a v.cs
def V3.within (v:V3) (k:Int):Bool:=decide (-k<=v.x) && decide (v.x<=k) && decide (-k<=v.y) && decide (v.y<=k) && decide (-k<=v.z) && decide (v.z<=k)
def V3.valid (v:V3):Bool:=v.within 65536
theorem V3.valid_iff {v:V3}:v.valid=true↔(-65536<=v.x/\v.x<=65536/\-65536<=v.y/\v.y<=65536/\-65536<=v.z/\v.z<=65536):=by
 simp[V3.valid,V3.within,and_assoc]
def Xs (P:Program) (f:FuncId):Prop:=∀(v:V3) (k:Int),0<=k->k<=4611686018427387904->PureC P f [v.enc,.i .i64 k] (·=.b (v.within k))
def W6 (P:Program) (f:FuncId):Prop:=∀v:V3,CallIs P f [v.enc] (.b v.valid)
theorem B8 (a b:Int):(if b<a then b else a)=min a b:=by split<;>omega
theorem max_if (a b:Int):(if a<b then b else a)=max a b:=by split<;>omega
def rnd (a b:Int):Int:=(2*a+b) / (2*b)
section
variable {P:Program} (hm:P.follows .mixedOrders=true)
include hm
theorem vec_within_ok {f:FuncId} (hf:Q9 P f vec_within.c vec_within.r vec_within.n):Xs P f:=by
 intro v k h0 h1
 refine Q7 hm hf (Nat.le_of_ble_eq_true rfl) ?_
 unfold vec_within.c
 simp +contextual -implicitDefEqProofs [go_sem,V3.enc,V3.cs,vec_within.r]
 have h:IntKind.i64.wrap (-k)=-k:=Q0 (by omega) (by omega)
 simp[h,V3.within,and_assoc]
theorem ref04_within_ok {f:FuncId} (hf:Q9 P f ref04_within.c ref04_within.r ref04_within.n):Xs P f:=by
 intro v k h0 h1
 refine Q7 hm hf (Nat.le_of_ble_eq_true rfl) ?_
 unfold ref04_within.c
 simp +contextual -implicitDefEqProofs [go_sem,V3.enc,V3.cs,ref04_within.r]
 have h:IntKind.i64.wrap (-k)=-k:=Q0 (by omega) (by omega)
 simp[h,V3.within,and_assoc]
theorem vec_Valid_ok {f fw:FuncId} (hf:Q9 P f (vec_Valid.c fw) vec_Valid.r vec_Valid.n) (hw:Xs P fw):W6 P f:=by
 intro v
 refine PureC.is (Q7 hm hf (Nat.le_of_ble_eq_true rfl) ?_) rfl
 unfold vec_Valid.c
 simp[go_sem,V3.enc,V3.cs]
 refine Q3 ((hw v 65536 (by omega) (by omega)).is rfl) ?_
 simp[go_sem,vec_Valid.r,V3.valid]
theorem ref04_Valid_ok {f fw:FuncId} (hf:Q9 P f (ref04_Valid.c fw) ref04_Valid.r ref04_Valid.n) (hw:Xs P fw):W6 P f:=by
 intro v
 refine PureC.is (Q7 hm hf (Nat.le_of_ble_eq_true rfl) ?_) rfl
 unfold ref04_Valid.c
 simp[go_sem,V3.enc,V3.cs]
 refine Q3 ((hw v 65536 (by omega) (by omega)).is rfl) ?_
 simp[go_sem,ref04_Valid.r,V3.valid]
end
end Go.Abs
set_option linter.unusedVariables false
set_option linter.unusedSimpArgs false
namespace Go.Abs
structure T3 where
 a:Int
 b:Int
 c:Int
deriving DecidableEq
def T3.cs (t:T3):List V:=[.i .i64 t.a,.i .i64 t.b,.i .i64 t.c]
def T3.enc (t:T3):V:=.a t.cs
def T3.ok (n:Nat) (t:T3):Bool:=decide (0<=t.a) && decide (t.a<n) && decide (0<=t.b) && decide (t.b<n) && decide (0<=t.c) && decide (t.c<n)
theorem T3.ok_iff {n:Nat} {t:T3}:t.ok n=true↔(0<=t.a/\t.a<n/\0<=t.b/\t.b<n/\0<=t.c/\t.c<n):=by simp[T3.ok,and_assoc]
theorem T3.ok_false {n:Nat} {t:T3}:t.ok n=false↔¬ (0<=t.a/\t.a<n/\0<=t.b/\t.b<n/\0<=t.c/\t.c<n):=by rw[<- T3.ok_iff];simp
structure Mesh where
 verts:List V3
 tris:List T3
deriving DecidableEq
def vsV (l:List V3):V:=.l 3 (l.map V3.cs)
def tsV (l:List T3):V:=.l 3 (l.map T3.cs)
def Mesh.cs (m:Mesh):List V:=[vsV m.verts,tsV m.tris]
def Mesh.enc (m:Mesh):V:=.a m.cs
def Bh (l:List V3):Bool:=l.all V3.valid
def Uj (n:Nat) (l:List T3):Bool:=l.all (T3.ok n)
def Mesh.check (m:Mesh):Int :=
 if 4096<m.verts.length∨4096<m.tris.length then 2
 else if Bh m.verts=false then 8
 else if Uj m.verts.length m.tris=false then 1 else 0
def Z8 (P:Program) (f:FuncId):Prop:=∀m:Mesh,CallIs P f [m.enc] (.i .i64 m.check)
theorem Ig {α:Type} {p:α->Bool} {l:List α} {k:Nat} {x:α} (h:l[k]?=some x):(l.take (k+1)).all p=((l.take k).all p && p x):=by
 simp[List.take_add_one,h]
theorem all_false_of {α:Type} {p:α->Bool} {l:List α} {k:Nat} {x:α} (h:l[k]?=some x) (hx:p x=false):l.all p=false:=by
 rw[Bool.eq_false_iff]
 intro h1
 have:=List.all_eq_true.1 h1 x (List.mem_of_getElem? h)
 rw[hx]at this;cases this
theorem vsOk_succ {l:List V3} {k:Nat} {x:V3} (h:l[k]?=some x):Bh (l.take (k+1))=(Bh (l.take k) && x.valid):=Ig h
theorem tsOk_succ {n:Nat} {l:List T3} {k:Nat} {x:T3} (h:l[k]?=some x):Uj n (l.take (k+1))=(Uj n (l.take k) && x.ok n):=Ig h
theorem vsOk_false {l:List V3} {k:Nat} {x:V3} (h:l[k]?=some x) (hx:x.valid=false):Bh l=false:=all_false_of h hx
theorem tsOk_false {n:Nat} {l:List T3} {k:Nat} {x:T3} (h:l[k]?=some x) (hx:x.ok n=false):Uj n l=false:=all_false_of (p:=T3.ok n) h hx
theorem vsOk_get {l:List V3} {k:Nat} {x:V3} (ho:Bh l=true) (h:l[k]?=some x):x.valid=true:=List.all_eq_true.1 ho x (List.mem_of_getElem? h)
theorem Bm {n:Nat} {l:List T3} {k:Nat} {x:T3} (ho:Uj n l=true) (h:l[k]?=some x):x.ok n=true:=List.all_eq_true.1 ho x (List.mem_of_getElem? h)
theorem Mesh.check_zero {m:Mesh}:m.check=0↔m.verts.length<=4096/\m.tris.length<=4096/\Bh m.verts=true/\Uj m.verts.length m.tris=true:=by
 unfold Mesh.check
 split
 ·simp;omega
 ·rename_i h
  simp only[not_or,Nat.not_lt]at h
  cases Bh m.verts<;>cases Uj m.verts.length m.tris<;>simp[h]
theorem vcs (v:V3):v.cs=[.i .i64 v.x,.i .i64 v.y,.i .i64 v.z]:=Rfl rfl
theorem tcs (v:T3):v.cs=[.i .i64 v.a,.i .i64 v.b,.i .i64 v.c]:=Rfl rfl
section
variable {P:Program} (hm:P.follows .mixedOrders=true)
include hm
theorem mesh_Check_ok {f fv:FuncId} (hf:Q9 P f (mesh_Check.c fv) mesh_Check.r mesh_Check.n) (hv:W6 P fv):Z8 P f:=by
 intro m
 refine PureC.is (Q7 hm hf (Nat.le_of_ble_eq_true rfl) ?_) rfl
 unfold mesh_Check.c
 by_cases h1:4096<m.verts.length∨4096<m.tris.length
 ·have h2:m.check=2:=by simp[Mesh.check,h1]
  simp +contextual -implicitDefEqProofs [go_sem,Mesh.enc,Mesh.cs,vsV,tsV,h2,mesh_Check.r]
  omega
 simp only[not_or,Nat.not_lt]at h1
 simp +contextual -implicitDefEqProofs [go_sem,Mesh.enc,Mesh.cs,vsV,tsV,h1,show ¬ (4096:Int)<m.verts.length by omega,show ¬ (4096:Int)<m.tris.length by omega]
 refine Qe (α:=Nat) (λk=>k<=m.verts.length/\Bh (m.verts.take k)=true)
  (λk=>⟨[(1,.p 0 1 0 0),(3,.i .i64 m.verts.length),(20,vsV m.verts),(21,.i .i64 m.verts.length),(22,.i .i64 k)],[.arr 1 2 [m.cs]]⟩)
  (λk=>m.verts.length-k) 0 ⟨Nat.zero_le _,rfl⟩ ?_ ?_
 ·simp[go_sem,Mesh.cs,vsV,tsV]
 ·rintro k ⟨hk,hok⟩
  cases hp:m.verts[k]? with
  | none =>
    have:¬ k<m.verts.length:=by simpa using hp
    obtain rfl:k=m.verts.length:=by omega
    rw[List.take_length]at hok
    simp[go_sem,vsV,tsV,Mesh.cs]
    refine Qe (α:=Nat) (λk=>k<=m.tris.length/\Uj m.verts.length (m.tris.take k)=true)
     (λk=>⟨[(3,.i .i64 m.verts.length),(31,tsV m.tris),(32,.i .i64 m.tris.length),(33,.i .i64 k)],[.dead]⟩)
     (λk=>m.tris.length-k) 0 ⟨Nat.zero_le _,rfl⟩ ?_ ?_
    ·simp[go_sem,tsV]
    ·rintro k ⟨hk,hok2⟩
     cases hp:m.tris[k]? with
     | none =>
       have:¬ k<m.tris.length:=by simpa using hp
       obtain rfl:k=m.tris.length:=by omega
       rw[List.take_length]at hok2
       simp[go_sem,tsV,mesh_Check.r]
       exact(Mesh.check_zero.2 ⟨h1.1,h1.2,hok,hok2⟩).symm
     | some t =>
       obtain⟨hlt,hp'⟩:=List.getElem?_eq_some_iff.1 hp
       by_cases ht:t.ok m.verts.length=true
       ·have ht':=T3.ok_iff.1 ht
        simp +contextual -implicitDefEqProofs [go_sem,tsV,tcs,hlt,hp',B8,max_if]
        refine⟨λh=>by omega,λh1 h2=>?_⟩
        simp (disch:=omega) [go_sem,Q0]
        refine⟨k+1,⟨by omega,?_⟩,by omega,?_⟩
        ·rw[tsOk_succ hp,hok2,ht];rfl
        ·simp[go_sem,tsV]
       ·have ht1:t.ok m.verts.length=false:=by simpa using ht
        have ht':=T3.ok_false.1 ht1
        simp +contextual -implicitDefEqProofs [go_sem,tsV,tcs,hlt,hp',B8,max_if]
        refine⟨λh=>?_,λh1 h2=>by omega⟩
        simp[go_sem,mesh_Check.r]
        simp[Mesh.check,tsOk_false hp ht1,Nat.not_lt.2 h1.1,Nat.not_lt.2 h1.2,hok]
  | some p =>
    obtain⟨hlt,hp'⟩:=List.getElem?_eq_some_iff.1 hp
    simp[go_sem,vsV,tsV,Mesh.cs,hlt,hp',vcs]
    refine Q3 (hv p) ?_
    cases hvp:p.valid
    ·simp[go_sem,mesh_Check.r]
     simp[Mesh.check,vsOk_false hp hvp,Nat.not_lt.2 h1.1,Nat.not_lt.2 h1.2]
    ·simp[go_sem]
     simp (disch:=omega) [go_sem,Q0]
     refine⟨k+1,⟨by omega,?_⟩,by omega,?_⟩
     ·rw[vsOk_succ hp,hok,hvp];rfl
     ·simp[go_sem,vsV]
theorem ref07_Check_ok {f fv:FuncId} (hf:Q9 P f (ref07_Check.c fv) ref07_Check.r ref07_Check.n) (hv:W6 P fv):Z8 P f:=by
 intro m
 refine PureC.is (Q7 hm hf (Nat.le_of_ble_eq_true rfl) ?_) rfl
 unfold ref07_Check.c
 by_cases h1:4096<m.verts.length∨4096<m.tris.length
 ·have h2:m.check=2:=by simp[Mesh.check,h1]
  simp +contextual -implicitDefEqProofs [go_sem,Mesh.enc,Mesh.cs,vsV,tsV,h2,ref07_Check.r]
  omega
 simp only[not_or,Nat.not_lt]at h1
 simp +contextual -implicitDefEqProofs [go_sem,Mesh.enc,Mesh.cs,vsV,tsV,h1,show ¬ (4096:Int)<m.verts.length by omega,show ¬ (4096:Int)<m.tris.length by omega]
 refine Qe (α:=Nat) (λk=>k<=m.verts.length/\Bh (m.verts.take k)=true)
  (λk=>⟨[(1,.p 0 1 0 0),(19,vsV m.verts),(20,.i .i64 m.verts.length),(21,.i .i64 k)],[.arr 1 2 [m.cs]]⟩)
  (λk=>m.verts.length-k) 0 ⟨Nat.zero_le _,rfl⟩ ?_ ?_
 ·simp[go_sem,Mesh.cs,vsV,tsV]
 ·rintro k ⟨hk,hok⟩
  cases hp:m.verts[k]? with
  | none =>
    have:¬ k<m.verts.length:=by simpa using hp
    obtain rfl:k=m.verts.length:=by omega
    rw[List.take_length]at hok
    simp[go_sem,vsV,tsV,Mesh.cs]
    refine Qe (α:=Nat) (λk=>k<=m.tris.length/\Uj m.verts.length (m.tris.take k)=true)
     (λk=>⟨[(5,.i .i64 m.verts.length),(33,tsV m.tris),(34,.i .i64 m.tris.length),(35,.i .i64 k)],[.dead]⟩)
     (λk=>m.tris.length-k) 0 ⟨Nat.zero_le _,rfl⟩ ?_ ?_
    ·simp[go_sem,tsV]
    ·rintro k ⟨hk,hok2⟩
     cases hp:m.tris[k]? with
     | none =>
       have:¬ k<m.tris.length:=by simpa using hp
       obtain rfl:k=m.tris.length:=by omega
       rw[List.take_length]at hok2
       simp[go_sem,tsV,ref07_Check.r]
       exact(Mesh.check_zero.2 ⟨h1.1,h1.2,hok,hok2⟩).symm
     | some t =>
       obtain⟨hlt,hp'⟩:=List.getElem?_eq_some_iff.1 hp
       by_cases ht:t.ok m.verts.length=true
       ·have ht':=T3.ok_iff.1 ht
        simp +contextual -implicitDefEqProofs [go_sem,tsV,tcs,hlt,hp',B8,max_if]
        refine⟨λh=>by omega,λh1 h2 _ _ _ _=>?_⟩
        simp (disch:=omega) [go_sem,Q0]
        refine⟨k+1,⟨by omega,?_⟩,by omega,?_⟩
        ·rw[tsOk_succ hp,hok2,ht];rfl
        ·simp[go_sem,tsV]
       ·have ht1:t.ok m.verts.length=false:=by simpa using ht
        have ht':=T3.ok_false.1 ht1
        simp +contextual -implicitDefEqProofs [go_sem,tsV,tcs,hlt,hp',B8,max_if]
        refine⟨λh=>?_,λh1 h2 _ _ _ _=>by omega⟩
        simp[go_sem,ref07_Check.r]
        simp[Mesh.check,tsOk_false hp ht1,Nat.not_lt.2 h1.1,Nat.not_lt.2 h1.2,hok]
  | some p =>
    obtain⟨hlt,hp'⟩:=List.getElem?_eq_some_iff.1 hp
    simp[go_sem,vsV,tsV,Mesh.cs,hlt,hp',vcs]
    refine Q3 (hv p) ?_
    cases hvp:p.valid
    ·simp[go_sem,ref07_Check.r]
     simp[Mesh.check,vsOk_false hp hvp,Nat.not_lt.2 h1.1,Nat.not_lt.2 h1.2]
    ·simp[go_sem]
     simp (disch:=omega) [go_sem,Q0]
     refine⟨k+1,⟨by omega,?_⟩,by omega,?_⟩
     ·rw[vsOk_succ hp,hok,hvp];rfl
     ·simp[go_sem,vsV]
end
end Go.Abs
set_option linter.unusedVariables false
set_option linter.unusedSimpArgs false
namespace Go.Abs
def T3.rev (t:T3):T3:=⟨t.a,t.c,t.b⟩
def Mesh.rev (m:Mesh):Mesh:=⟨m.verts,m.tris.map T3.rev⟩
theorem Zw (t:T3):(∀y∈t.cs,y.isD=true)=True:=by simp[T3.cs,V.isD]
theorem Y7 (t:V3):(∀y∈t.cs,y.isD=true)=True:=by simp[V3.cs,V.isD]
theorem tcs_cl (t:T3) (n:Nat):(∀y∈t.cs,y.cl n=true)=True:=by simp[T3.cs,V.cl,V.cl1,V.cl0]
theorem vcs_cl (t:V3) (n:Nat):(∀y∈t.cs,y.cl n=true)=True:=by simp[V3.cs,V.cl,V.cl1,V.cl0]
theorem take_mapl {α β:Type} (f:α->β) (l:List α):List.take l.length (l.map f)=l.map f:=List.take_of_length_le (by simp)
attribute [go_sem] Zw Y7 tcs_cl vcs_cl take_mapl
end Go.Abs
