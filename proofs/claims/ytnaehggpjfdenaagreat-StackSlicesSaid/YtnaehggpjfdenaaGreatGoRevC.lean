/- Part of the library on which the proof stands: an abstract machine, its values and its soundness against the model; or what functions of the program do to such values. -/
import Derived.Test.YtnaehggpjfdenaaGreatAbsCP
set_option linter.unusedVariables false
set_option linter.unusedSimpArgs false
namespace Go.Abs
def Le0 (u v:V):Prop:=u=v∨(u=.nil/\∃sz,v=.l sz [])∨v=.any/\False
def LeL (R:V->V->Prop):List V->List V->Prop
 | [],[]=>True
 | u::us,v::vs=>R u v/\LeL R us vs
 | _,_=>False
def Le1 (u v:V):Prop:=Le0 u v∨∃us vs,u=.a us/\v=.a vs/\LeL Le0 us vs
def Le (u v:V):Prop:=Le1 u v∨∃us vs,u=.t us/\v=.t vs/\LeL Le1 us vs
theorem Le0.refl (u:V):Le0 u u:=.inl rfl
theorem Le0.nil (sz:Nat):Le0 .nil (.l sz []):=.inr (.inl ⟨rfl,sz,rfl⟩)
theorem LeL.refl {R:V->V->Prop} (hR:∀u,R u u):∀us,LeL R us us
 | []=>trivial
 | u::us=>⟨hR u,LeL.refl hR us⟩
theorem Le1.refl (u:V):Le1 u u:=.inl (.inl rfl)
theorem Le.refl (u:V):Le u u:=.inl (Le1.refl u)
theorem LeL.pw {R:V->V->Prop} {Q:V->Value->Prop} (hR:∀u v c,R u v->Q u c->Q v c):∀{us vs:List V} {cs:List Value},LeL R us vs->Pw Q us cs->Pw Q vs cs
 | [],[],cs,_,hp=>hp
 | [],_::_,_,h,_=>h.elim
 | _::_,[],_,h,_=>h.elim
 | u::us,v::vs,[],_,hp=>by have:=hp.1;simp at this
 | u::us,v::vs,c::cs,h,hp=>by
   have h1:=LeL.pw hR h.2 hp.tail;exact Pw.cons (hR u v c h.1 hp.head) h1
section
variable {J:Nat->Prop} {m:List Ent} {w:World}
theorem Le0.rd {u v:V} {c:Value} (h:Le0 u v) (hc:RC J m w u c):RC J m w v c:=by
 rcases h with rfl | ⟨rfl,sz,rfl⟩ | ⟨_,h⟩
 ·exact hc
 ·have h1:RD J w .nil c:=hc;show RD J w (.l sz []) c;cases h1 with
  | nil0=>exact .l0 sz
  | nil1 a=>exact .l1 sz a 0
 ·exact h.elim
theorem Le0.ra {u v:V} {c:Value} (h:Le0 u v) (hc:RA J m w u c):RA J m w v c:=by
 rcases h with rfl | ⟨rfl,sz,rfl⟩ | ⟨_,h⟩
 ·exact hc
 ·exact Qy (Le0.rd (J:=J) (m:=m) (Le0.nil sz) (by exact hc))
 ·exact h.elim
theorem Le1.ra {u v:V} {c:Value} (h:Le1 u v) (hc:RA J m w u c):RA J m w v c:=by
 rcases h with h | ⟨us,vs,rfl,rfl,h⟩
 ·exact h.ra hc
 ·obtain⟨arr,rfl,hp⟩:=hc;exact⟨arr,rfl,LeL.pw (λ_ _ _ h1 h2=>h1.rd h2) h hp⟩
theorem Le.rv {u v:V} {c:Value} (h:Le u v) (hc:RV J m w u c):RV J m w v c:=by
 rcases h with h | ⟨us,vs,rfl,rfl,h⟩
 ·rcases h with (rfl | ⟨rfl,sz,rfl⟩ | ⟨_,h⟩) | ⟨us,vs,rfl,rfl,h⟩
  ·exact hc
  ·exact Z7 (Le0.ra (Le0.nil sz) (by exact hc))
  ·exact h.elim
  ·exact Z7 (Le1.ra (.inr ⟨us,vs,rfl,rfl,h⟩) (by exact hc))
 ·obtain⟨arr,rfl,hp⟩:=hc;exact⟨arr,rfl,LeL.pw (λ_ _ _ h1 h2=>h1.ra h2) h hp⟩
end
variable {P:Program}
theorem Z1j {f:FuncId} {us vs:List V} {h:List O} {R:V->List O->Prop} (hl:LeL Le us vs) (hc:ACall P f vs h R):ACall P f us h R :=
 λJ m w cargs hr hp=>hc J m w cargs hr (LeL.pw (λ_ _ _ h1 h2=>h1.rv h2) hl hp)
theorem Qu1 {f:FuncId} {vs:List V} {h:List O} {R R':V->List O->Prop} (hR:∀r h',R r h'->∃r',Le r r'/\R' r' h') (hc:ACall P f vs h R):ACall P f vs h R' :=
 λJ m w cargs hr hp=>(hc J m w cargs hr hp).mono λe w' ⟨v,r,h',J',m',h1,h2,h3,h4,h5,h6⟩=>by
  obtain⟨r',q1,q2⟩:=hR r h' h2;exact⟨v,r',h',J',m',h1,q2,q1.rv h3,h4,h5,h6⟩
theorem CallIs.le {f:FuncId} {us vs:List V} {r r':V} (hc:CallIs P f vs r) (hl:LeL Le us vs) (hr:Le r r'):CallIs P f us r' :=
 λh=>Z1j hl (Qu1 (λr0 h0 hh=>⟨r',by rw[hh.1];exact hr,rfl,hh.2⟩) (hc h))
theorem CallIs.res {f:FuncId} {us:List V} {r r':V} (hc:CallIs P f us r) (hr:Le r r'):CallIs P f us r':=hc.le (LeL.refl Le.refl us) hr
def apV (sz:Nat) (els:List (List V)):V:=if els=[] then .nil else .l sz els
theorem apV_le (sz:Nat) (els:List (List V)):Le0 (apV sz els) (.l sz els):=by
 unfold apV;split
 ·rename_i h;subst h;exact Le0.nil sz
 ·exact Le0.refl _
def L4f.c:C :=(Bs [Au 2 (.box (.t 0)),Ab 4 false] (Bs [Af 5 0 2,Al 6 5,Am 7 1,Au 8 (.un .neg (.t 7)),Aj .geq 9 6 8,Am 10 9,Av 11 10 (.fa 0 (.t 2)),Av 12 10 (.ld none (.t 11)),Av 13 10 (.mv (.t 1)),Av 14 10 (.bin .leq (.t 12) (.t 13)),Ap 15 10 14,Am 16 15,Av 17 16 (.fa 1 (.t 2)),Av 18 16 (.ld none (.t 17)),Av 19 16 (.mv (.t 1)),Av 20 16 (.un .neg (.t 19)),Av 21 16 (.bin .geq (.t 18) (.t 20)),Ap 22 16 21,Am 23 22,Av 24 23 (.fa 1 (.t 2)),Av 25 23 (.ld none (.t 24)),Av 26 23 (.mv (.t 1)),Av 27 23 (.bin .leq (.t 25) (.t 26)),Ap 28 23 27,Am 29 28,Av 30 29 (.fa 2 (.t 2)),Av 31 29 (.ld none (.t 30)),Av 32 29 (.mv (.t 1)),
 Av 33 29 (.un .neg (.t 32)),Av 34 29 (.bin .geq (.t 31) (.t 33)),Ap 35 29 34,Am 36 35,Av 37 36 (.fa 2 (.t 2)),Av 38 36 (.ld none (.t 37)),Av 39 36 (.mv (.t 1)),Av 40 36 (.bin .leq (.t 38) (.t 39)),Ap 41 36 40,Am 4 41] .ret))
def L4f.r:List Rr:=[.tmp 4]
abbrev L4f.n:Nat:=42
def L4d.c (L4f:FuncId):C :=(Bs [Au 1 (.box (.t 0)),Ab 2 false] (Bs [Ag 3 3 1,Au 4 (.call L4f [.t 3,(.c (.i .i64 65536))]),Am 2 4] .ret))
def L4d.r:List Rr:=[.tmp 2]
abbrev L4d.n:Nat:=5
def L14.c:C :=(Bs [Au 2 (.box (.t 0)),Ab 4 false] (Bs [Af 5 0 2,Al 6 5,Am 7 1,Au 8 (.un .neg (.t 7)),Aj .geq 9 6 8,Am 10 9,Av 11 10 (.fa 0 (.t 2)),Av 12 10 (.ld none (.t 11)),Av 13 10 (.mv (.t 1)),Av 14 10 (.bin .leq (.t 12) (.t 13)),Ap 15 10 14,Am 16 15,Av 17 16 (.fa 1 (.t 2)),Av 18 16 (.ld none (.t 17)),Av 19 16 (.mv (.t 1)),Av 20 16 (.un .neg (.t 19)),Av 21 16 (.bin .geq (.t 18) (.t 20)),Ap 22 16 21,Am 23 22,Av 24 23 (.fa 1 (.t 2)),Av 25 23 (.ld none (.t 24)),Av 26 23 (.mv (.t 1)),Av 27 23 (.bin .leq (.t 25) (.t 26)),Ap 28 23 27,Am 29 28,Av 30 29 (.fa 2 (.t 2)),Av 31 29 (.ld none (.t 30)),Av 32 29 (.mv (.t 1)),
 Av 33 29 (.un .neg (.t 32)),Av 34 29 (.bin .geq (.t 31) (.t 33)),Ap 35 29 34,Am 36 35,Av 37 36 (.fa 2 (.t 2)),Av 38 36 (.ld none (.t 37)),Av 39 36 (.mv (.t 1)),Av 40 36 (.bin .leq (.t 38) (.t 39)),Ap 41 36 40,Am 4 41] .ret))
def L14.r:List Rr:=[.tmp 4]
abbrev L14.n:Nat:=42
def L12.c (L14:FuncId):C :=(Bs [Au 1 (.box (.t 0)),Ab 2 false] (Bs [Ag 3 3 1,Au 4 (.call L14 [.t 3,(.c (.i .i64 65536))]),Am 2 4] .ret))
def L12.r:List Rr:=[.tmp 2]
abbrev L12.n:Nat:=5
def L0h.c:C :=(Bs [Ac 4 0,Ac 5 0] (.seq (Bs [Am 7 1,Ak .eql 8 7 0] (.ite (.t 8) (Bs [Ac 4 0,Ac 5 4] .ret) .skip)) (.seq (Bs [Am 9 0,Ak .eql 10 9 (-9223372036854775808),Am 11 10,Av 12 11 (.mv (.t 1)),Av 13 11 (.bin .eql (.t 12) (.c (.i .i64 (-1)))),Ap 14 11 13] (.ite (.t 14) (Bs [Ac 4 0,Ac 5 3] .ret) .skip)) (Bs [Am 15 0,Am 16 1,Aj .quo 17 15 16,Am 6 17] (.seq (Bs [Am 18 0,Am 19 1,Aj .rem 20 18 19,Ak .neq 21 20 0,Am 22 21,Av 23 22 (.mv (.t 0)),Av 24 22 (.bin .lss (.t 23) (.c (.i .i64 0))),Av 25 22 (.mv (.t 1)),Av 26 22 (.bin .lss (.t 25) (.c (.i .i64 0))),Av 27 22 (.eqb true (.t 24) (.t 26)),Ap 28 22 27]
 (.ite (.t 28) (.reg [Am 29 6,Ak .sub 30 29 1,Am 6 30]) .skip)) (Bs [Am 31 6,Am 4 31,Ac 5 0] .ret))))))
def L0h.r:List Rr:=[.tmp 4,.tmp 5]
abbrev L0h.n:Nat:=32
def L0i.c (L0h:FuncId):C :=(Bs [Ac 4 0,Ac 5 0] (Bs [Am 10 0,Am 11 1,Au 12 (.call L0h [.t 10,.t 11]),Am 9 12,Ax1 13 0 9,Ax1 14 1 9,Am 6 13,Am 7 14] (.seq (Bs [Am 15 7,Ak .neq 16 15 0] (.ite (.t 16) (Bs [Am 17 7,Ac 4 0,Am 5 17] .ret) .skip)) (Bs [Am 18 0,Am 19 6,Am 20 1,Aj .mul 21 19 20,Aj .sub 22 18 21,Am 8 22] (.seq (Bs [Am 23 1,Ak .gtr 24 23 0,Am 25 24,Av 26 25 (.mv (.t 8)),Av 27 25 (.mv (.t 1)),Av 28 25 (.mv (.t 8)),Av 29 25 (.bin .sub (.t 27) (.t 28)),Av 30 25 (.bin .geq (.t 26) (.t 29)),Ap 31 25 30,Am 32 31,Aw 33 32 (.mv (.t 1)),Aw 34 32 (.bin .lss (.t 33) (.c (.i .i64 0))),Aw 35 32 (.mv (.t 34)),
 Av 36 35 (.mv (.t 8)),Av 37 35 (.mv (.t 1)),Av 38 35 (.mv (.t 8)),Av 39 35 (.bin .sub (.t 37) (.t 38)),Av 40 35 (.bin .leq (.t 36) (.t 39)),Aw 41 32 (.pick (.t 35) (.t 40) (.c (.b false))),Ao 42 32 41] (.ite (.t 42) (.reg [Am 43 6,Ad 44 43 1,Am 6 44]) .skip)) (Bs [Am 45 6,Am 4 45,Ac 5 0] .ret))))))
def L0i.r:List Rr:=[.tmp 4,.tmp 5]
abbrev L0i.n:Nat:=46
def L0e.c (L4d:FuncId):C :=(Bs [Au 1 (.box (.t 0)),Ac 2 0] (Bs [Af 8 0 1,Al 9 8,An 10 0 9,Am 3 10] (.seq (Bs [Am 11 3,Ak .gtr 12 11 4096,Am 13 12,Aw 14 13 (.fa 1 (.t 1)),Aw 15 13 (.ld none (.t 14)),Aw 16 13 (.len 0 (.t 15)),Aw 17 13 (.bin .gtr (.t 16) (.c (.i .i64 4096))),Ao 18 13 17] (.ite (.t 18) (Bs [Ac 2 2] .ret) .skip)) (.seq (Bs [Af 19 0 1,Al 20 19,An 21 0 20,Ac 22 0] (.blk 0 (.loop (Bs [Aj .lss 23 22 21] (.seq (.ite (.t 23) .skip (.exit 0)) (.seq (.blk 1 (Bs [Ai 24 3 20 22,Ag 25 3 24,Au 5 (.alloc [(.i .i64 0),(.i .i64 0),(.i .i64 0)]),As 3 5 25] (Bs [Ag 26 3 5,Au 27 (.call L4d [.t 26]),
 Au 28 (.un .not (.t 27))] (.ite (.t 28) (Bs [Ac 2 8] .ret) .skip)))) (.reg [Ad 29 22 1,Am 22 29]))))))) (.seq (Bs [Af 30 1 1,Al 31 30,An 32 0 31,Ac 33 0] (.blk 2 (.loop (Bs [Aj .lss 34 33 32] (.seq (.ite (.t 34) .skip (.exit 2)) (.seq (.blk 3 (Bs [Ai 35 3 31 33,Ag 36 3 35,Au 7 (.alloc [(.i .i64 0),(.i .i64 0),(.i .i64 0)]),As 3 7 36] (Bs [Af 37 0 7,Al 38 37,Af 39 1 7,Al 40 39,Af 41 2 7,Al 42 41,Au 43 (.mn [.t 38,.t 40,.t 42]),Ak .lss 44 43 0,Am 45 44,Aw 46 45 (.fa 0 (.t 7)),Aw 47 45 (.ld none (.t 46)),Aw 48 45 (.fa 1 (.t 7)),Aw 49 45 (.ld none (.t 48)),Aw 50 45 (.fa 2 (.t 7)),Aw 51 45 (.ld none (.t 50)),
 Aw 52 45 (.mx [.t 47,.t 49,.t 51]),Aw 53 45 (.mv (.t 3)),Aw 54 45 (.bin .geq (.t 52) (.t 53)),Ao 55 45 54] (.ite (.t 55) (Bs [Ac 2 1] .ret) .skip)))) (.reg [Ad 56 33 1,Am 33 56]))))))) (Bs [Ac 2 0] .ret))))))
def L0e.r:List Rr:=[.tmp 2]
abbrev L0e.n:Nat:=57
def L18.c (L12:FuncId):C :=(Bs [Au 1 (.box (.t 0)),Ac 2 0] (.seq (Bs [Af 8 0 1,Al 9 8,An 10 0 9,Ak .gtr 11 10 4096,Am 12 11,Aw 13 12 (.fa 1 (.t 1)),Aw 14 12 (.ld none (.t 13)),Aw 15 12 (.len 0 (.t 14)),Aw 16 12 (.bin .gtr (.t 15) (.c (.i .i64 4096))),Ao 17 12 16] (.ite (.t 17) (Bs [Ac 2 2] .ret) .skip)) (.seq (Bs [Af 18 0 1,Al 19 18,An 20 0 19,Ac 21 0] (.blk 0 (.loop (Bs [Aj .lss 22 21 20] (.seq (.ite (.t 22) .skip (.exit 0)) (.seq (.blk 1 (Bs [Ai 23 3 19 21,Ag 24 3 23,Au 4 (.alloc [(.i .i64 0),(.i .i64 0),(.i .i64 0)]),As 3 4 24] (Bs [Ag 25 3 4,Au 26 (.call L12 [.t 25]),Au 27 (.un .not (.t 26))]
 (.ite (.t 27) (Bs [Ac 2 8] .ret) .skip)))) (.reg [Ad 28 21 1,Am 21 28]))))))) (Bs [Af 29 0 1,Al 30 29,An 31 0 30,Am 5 31] (.seq (Bs [Af 32 1 1,Al 33 32,An 34 0 33,Ac 35 0] (.blk 2 (.loop (Bs [Aj .lss 36 35 34] (.seq (.ite (.t 36) .skip (.exit 2)) (.seq (.blk 3 (Bs [Ai 37 3 33 35,Ag 38 3 37,Au 7 (.alloc [(.i .i64 0),(.i .i64 0),(.i .i64 0)]),As 3 7 38] (Bs [Af 39 0 7,Al 40 39,Ak .lss 41 40 0,Am 42 41,Aw 43 42 (.fa 0 (.t 7)),Aw 44 42 (.ld none (.t 43)),Aw 45 42 (.mv (.t 5)),Aw 46 42 (.bin .geq (.t 44) (.t 45)),Ao 47 42 46,Am 48 47,Aw 49 48 (.fa 1 (.t 7)),Aw 50 48 (.ld none (.t 49)),Aw 51 48 (.bin .lss (.t 50) (.c (.i .i64 0))),
 Ao 52 48 51,Am 53 52,Aw 54 53 (.fa 1 (.t 7)),Aw 55 53 (.ld none (.t 54)),Aw 56 53 (.mv (.t 5)),Aw 57 53 (.bin .geq (.t 55) (.t 56)),Ao 58 53 57,Am 59 58,Aw 60 59 (.fa 2 (.t 7)),Aw 61 59 (.ld none (.t 60)),Aw 62 59 (.bin .lss (.t 61) (.c (.i .i64 0))),Ao 63 59 62,Am 64 63,Aw 65 64 (.fa 2 (.t 7)),Aw 66 64 (.ld none (.t 65)),Aw 67 64 (.mv (.t 5)),Aw 68 64 (.bin .geq (.t 66) (.t 67)),Ao 69 64 68] (.ite (.t 69) (Bs [Ac 2 1] .ret) .skip)))) (.reg [Ad 70 35 1,Am 35 70]))))))) (Bs [Ac 2 0] .ret))))))
def L18.r:List Rr:=[.tmp 2]
abbrev L18.n:Nat:=71
def L0f.c (L0e:FuncId):C :=(Bs [Au 2 (.box (.t 0)),Au 4 (.alloc [(.i .i64 0),(.i .i64 0),(.i .i64 0)]),Au 5 (.alloc [(.i .i64 0),(.i .i64 0),(.i .i64 0)]),Au 6 (.alloc [(.i .i64 0),(.i .i64 0),(.i .i64 0)]),Ab 7 false] (.seq (Bs [Am 9 1,Ak .lss 10 9 0,Am 11 10,Aw 12 11 (.mv (.t 1)),Aw 13 11 (.fa 1 (.t 2)),Aw 14 11 (.ld none (.t 13)),Aw 15 11 (.len 0 (.t 14)),Aw 16 11 (.bin .geq (.t 12) (.t 15)),Ao 17 11 16,Am 18 17,Aw 19 18 (.ld (some 2) (.t 2)),Aw 20 18 (.call L0e [.t 19]),Aw 21 18 (.bin .neq (.t 20) (.c (.i .i64 0))),Ao 22 18 21] (.ite (.t 22) (Bs [Au 23 (.build [(.i .i64 0),(.i .i64 0),(.i .i64 0)] []),
 Au 24 (.build [(.i .i64 0),(.i .i64 0),(.i .i64 0)] []),Au 25 (.build [(.i .i64 0),(.i .i64 0),(.i .i64 0)] []),As 3 4 23,As 3 5 24,As 3 6 25,Ab 7 false] .ret) .skip)) (Bs [Af 26 1 2,Al 27 26,Am 28 1,Ai 29 3 27 28,Ag 30 3 29,Au 8 (.alloc [(.i .i64 0),(.i .i64 0),(.i .i64 0)]),As 3 8 30] (.seq (.drw [Af 31 0 2,Al 32 31,Af 33 0 8,Al 34 33,Ai 35 3 32 34,Ag 36 3 35,Af 37 0 2,Al 38 37,Af 39 1 8,Al 40 39,Ai 41 3 38 40,Ag 42 3 41,Af 43 0 2,Al 44 43,Af 45 2 8,Al 46 45,Ai 47 3 44 46,Ag 48 3 47,As 3 4 36,As 3 5 42,As 3 6 48,Ab 7 true] [[],[],[],[],[],[],[],[],[],[],[],[],[],[],[],[],[],[],[6,7,8,9,10,11,12,13,14,15,16,17],[12,13,14,15,16,17],[],[]])
 .ret))))
def L0f.r:List Rr:=[.cell 4 (some 3),.cell 5 (some 3),.cell 6 (some 3),.tmp 7]
abbrev L0f.n:Nat:=49
structure V3 where
 x:Int
 y:Int
 z:Int
deriving DecidableEq
def V3.cs (v:V3):List V:=[.i .i64 v.x,.i .i64 v.y,.i .i64 v.z]
def V3.enc (v:V3):V:=.a v.cs
def V3.within (v:V3) (k:Int):Bool:=decide (-k<=v.x) && decide (v.x<=k) && decide (-k<=v.y) && decide (v.y<=k) && decide (-k<=v.z) && decide (v.z<=k)
def V3.valid (v:V3):Bool:=v.within 65536
theorem V3.valid_iff {v:V3}:v.valid=true↔(-65536<=v.x/\v.x<=65536/\-65536<=v.y/\v.y<=65536/\-65536<=v.z/\v.z<=65536):=by
 simp[V3.valid,V3.within,and_assoc]
def Xx (P:Program) (f:FuncId):Prop:=∀(v:V3) (k:Int),0<=k->k<=4611686018427387904->PureC P f [v.enc,.i .i64 k] (·=.b (v.within k))
def Je (P:Program) (f:FuncId):Prop:=∀v:V3,CallIs P f [v.enc] (.b v.valid)
theorem Wm (a b:Int):(if b<a then b else a)=min a b:=by split<;>omega
theorem Qak (a b:Int):(if a<b then b else a)=max a b:=by split<;>omega
def rnd (a b:Int):Int:=(2*a+b) / (2*b)
theorem rnd_eq (a:Int) {b:Int} (hb:0<b):rnd a b=if b-(a-a / b*b)<=a-a / b*b then a / b+1 else a / b:=by
 have h1:=Int.mul_ediv_add_emod a b;have h2:=Int.emod_nonneg a (show b≠0 by omega);have h3:=Int.emod_lt_of_pos a hb;have h4:a-a / b*b=a % b:=by rw[Int.mul_comm];omega
 rw[h4];have h5:2*b*(a / b)=2*(b*(a / b)):=Int.mul_assoc 2 b (a / b);have h6:2*b*(a / b+1)=2*(b*(a / b))+2*b:=by rw[Int.mul_add,h5,Int.mul_one]
 unfold rnd;split
 ·refine ((Int.ediv_emod_unique (show 0<2*b by omega) (a:=2*a+b) (q:=a / b+1) (r:=2*(a % b)-b)).2 ⟨?_,by omega,by omega⟩).1;omega
 ·refine ((Int.ediv_emod_unique (show 0<2*b by omega) (a:=2*a+b) (q:=a / b) (r:=2*(a % b)+b)).2 ⟨?_,by omega,by omega⟩).1;omega
section
variable {P:Program} (hm:P.follows .mixedOrders=true)
include hm
theorem Qbt {f:FuncId} (hf:Q5 P f L4f.c L4f.r L4f.n):Xx P f:=by
 intro v k h0 h1;refine Wg hm hf (qh rfl) ?_;unfold L4f.c;simp +contextual -implicitDefEqProofs [go_sem,V3.enc,V3.cs,L4f.r];have h:IntKind.i64.wrap (-k)=-k:=Q0 (by omega) (by omega);simp[h,V3.within,and_assoc]
theorem Q6e {f:FuncId} (hf:Q5 P f L14.c L14.r L14.n):Xx P f:=by
 intro v k h0 h1;refine Wg hm hf (qh rfl) ?_;unfold L14.c;simp +contextual -implicitDefEqProofs [go_sem,V3.enc,V3.cs,L14.r];have h:IntKind.i64.wrap (-k)=-k:=Q0 (by omega) (by omega);simp[h,V3.within,and_assoc]
theorem Qfa {f fw:FuncId} (hf:Q5 P f (L4d.c fw) L4d.r L4d.n) (hw:Xx P fw):Je P f:=by
 intro v;refine PI hm hf ?_;unfold L4d.c;simp[go_sem,V3.enc,V3.cs];refine Q2 ((hw v 65536 (by omega) (by omega)).is rfl) ?_;simp[go_sem,L4d.r,V3.valid]
theorem Q9h {f fw:FuncId} (hf:Q5 P f (L12.c fw) L12.r L12.n) (hw:Xx P fw):Je P f:=by
 intro v;refine PI hm hf ?_;unfold L12.c;simp[go_sem,V3.enc,V3.cs];refine Q2 ((hw v 65536 (by omega) (by omega)).is rfl) ?_;simp[go_sem,L12.r,V3.valid]
def Qi6 (P:Program) (f:FuncId):Prop:=∀a b:Int,-9007199254740992<=a->a<=9007199254740992->0<b->b<=9007199254740992->CallIs P f [.i .i64 a,.i .i64 b] (.t [.i .i64 (a / b),.i .i64 0])
def Qo2 (P:Program) (f:FuncId):Prop:=∀a b:Int,-9007199254740992<=a->a<=9007199254740992->0<b->b<=9007199254740992->CallIs P f [.i .i64 a,.i .i64 b] (.t [.i .i64 (rnd a b),.i .i64 0])
theorem Uo {f:FuncId} (hf:Q5 P f L0h.c L0h.r L0h.n):Qi6 P f:=by
 intro a b h1 h2 h3 h4;refine PI hm hf ?_;unfold L0h.c;have e0:¬ a=-9223372036854775808:=by omega
 have e1:¬ b=0:=by omega
 have e2:¬ b=-1:=by omega
 have e3:¬ b<0:=by omega
 have hq1:-9007199254740992<=a.tdiv b:=by
  have:=Int.natAbs_tdiv_le_natAbs a b;omega
 have hq2:a.tdiv b<=9007199254740992:=by
  have:=Int.natAbs_tdiv_le_natAbs a b;omega
 have hdm:=Int.mul_tdiv_add_tmod a b;have hm1:=Int.tmod_lt_of_pos a h3;simp +contextual -implicitDefEqProofs [go_sem,e0,e1,e2,e3,L0h.r,Q0 (show -9223372036854775808<=a.tdiv b by omega) (show a.tdiv b<=9223372036854775807 by omega)];have hlo:-b<a.tmod b:=by
  have h8:(a.tmod b).natAbs=a.natAbs % b.natAbs:=Int.natAbs_tmod a b;have:=Nat.mod_lt a.natAbs (show 0<b.natAbs by omega);omega
 by_cases hr:a.tmod b=0
 ·simp[go_sem,hr];rw[hr]at hdm
  rw[<- hdm,Int.add_zero,Int.mul_tdiv_cancel_left _ e1,Int.mul_ediv_cancel_left _ e1]
 ·by_cases hn:a<0
  ·simp[go_sem,hr,hn];have hr':(a.tmod b != 0)=true:=by simpa using hr
   rw[Q0 (by omega) (by omega)];have hneg:a.tmod b<=0:=by
    have:=Int.tmod_nonneg (a:=-a) b (by omega);rw[Int.neg_tmod]at this
    omega
   refine⟨?_,λhh=>by omega⟩;refine ((Int.ediv_emod_unique h3 (a:=a) (q:=a.tdiv b-1) (r:=b+a.tmod b)).2 ⟨?_,by omega,by omega⟩).1.symm;rw[Int.mul_sub];omega
  ·have hr':(a.tmod b != 0)=true:=by simpa using hr
   simp[go_sem,hr,hn,hr'];exact λ_=>Int.tdiv_eq_ediv_of_nonneg (by omega)
theorem Qgl {f ff:FuncId} (hf:Q5 P f (L0i.c ff) L0i.r L0i.n) (hfl:Qi6 P ff):Qo2 P f:=by
 intro a b h1 h2 h3 h4;refine PI hm hf ?_;unfold L0i.c;have h5:=Int.mul_ediv_add_emod a b;have h6:=Int.emod_nonneg a (show b≠0 by omega);have h7:=Int.emod_lt_of_pos a h3;have h8:a / b*b=b*(a / b):=Int.mul_comm _ _;have h9:-9007199254740992<=a / b:=by
  refine Int.le_ediv_of_mul_le h3 ?_;have:=jm (show (1:Int)<=b by omega) (show (0:Int)<=9007199254740992 by omega);omega
 have h10:a / b<=9007199254740992:=by
  refine Int.ediv_le_of_le_mul h3 ?_;have:=jm (show (1:Int)<=b by omega) (show (0:Int)<=9007199254740992 by omega);omega
 simp[go_sem];refine Q2 (hfl a b h1 h2 h3 h4) ?_;rw[rnd_eq a h3];by_cases hc:b-(a-a / b*b)<=a-a / b*b
 all_goals
  simp[go_sem,L0i.r,h3,hc,Q0 (show -9223372036854775808<=a / b*b by omega) (show a / b*b<=9223372036854775807 by omega),
   Q0 (show -9223372036854775808<=a-a / b*b by omega) (show a-a / b*b<=9223372036854775807 by omega),Q0 (show -9223372036854775808<=b-(a-a / b*b) by omega) (show b-(a-a / b*b)<=9223372036854775807 by omega),
   show ¬ b<0 by omega,Q0 (show -9223372036854775808<=a / b+1 by omega) (show a / b+1<=9223372036854775807 by omega)]
end
structure T3 where
 a:Int
 b:Int
 c:Int
deriving DecidableEq
def T3.cs (t:T3):List V:=[.i .i64 t.a,.i .i64 t.b,.i .i64 t.c]
def T3.enc (t:T3):V:=.a t.cs
def T3.ok (n:Nat) (t:T3):Bool:=decide (0<=t.a) && decide (t.a<n) && decide (0<=t.b) && decide (t.b<n) && decide (0<=t.c) && decide (t.c<n)
theorem T3.ok_iff {n:Nat} {t:T3}:t.ok n=true↔(0<=t.a/\t.a<n/\0<=t.b/\t.b<n/\0<=t.c/\t.c<n):=by simp[T3.ok,and_assoc]
theorem T3.ok_false {n:Nat} {t:T3}:t.ok n=false↔¬ (0<=t.a/\t.a<n/\0<=t.b/\t.b<n/\0<=t.c/\t.c<n):=by rw[<- T3.ok_iff];simp
structure Mesh where
 verts:List V3
 tris:List T3
deriving DecidableEq
def vsV (l:List V3):V:=.l 3 (l.map V3.cs)
def tsV (l:List T3):V:=.l 3 (l.map T3.cs)
def Mesh.cs (m:Mesh):List V:=[vsV m.verts,tsV m.tris]
def Mesh.enc (m:Mesh):V:=.a m.cs
def K8 (l:List V3):Bool:=l.all V3.valid
def Ec (n:Nat) (l:List T3):Bool:=l.all (T3.ok n)
def Mesh.check (m:Mesh):Int :=
 if 4096<m.verts.length∨4096<m.tris.length then 2
 else if K8 m.verts=false then 8
 else if Ec m.verts.length m.tris=false then 1 else 0
def Y0 (P:Program) (f:FuncId):Prop:=∀m:Mesh,CallIs P f [m.enc] (.i .i64 m.check)
theorem Q0a {α:Type} {p:α->Bool} {l:List α} {k:Nat} {x:α} (h:l[k]?=some x):(l.take (k+1)).all p=((l.take k).all p && p x):=by
 simp[List.take_add_one,h]
theorem Q2y {α:Type} {p:α->Bool} {l:List α} {k:Nat} {x:α} (h:l[k]?=some x) (hx:p x=false):l.all p=false:=by
 rw[Bool.eq_false_iff];intro h1;have:=qj.1 h1 x (qb h);rw[hx]at this;cases this
theorem Q30 {l:List V3} {k:Nat} {x:V3} (h:l[k]?=some x):K8 (l.take (k+1))=(K8 (l.take k) && x.valid):=Q0a h
theorem Qdn {n:Nat} {l:List T3} {k:Nat} {x:T3} (h:l[k]?=some x):Ec n (l.take (k+1))=(Ec n (l.take k) && x.ok n):=Q0a h
theorem Q0c {l:List V3} {k:Nat} {x:V3} (h:l[k]?=some x) (hx:x.valid=false):K8 l=false:=Q2y h hx
theorem Q8f {n:Nat} {l:List T3} {k:Nat} {x:T3} (h:l[k]?=some x) (hx:x.ok n=false):Ec n l=false:=Q2y (p:=T3.ok n) h hx
theorem Qil {l:List V3} {k:Nat} {x:V3} (ho:K8 l=true) (h:l[k]?=some x):x.valid=true:=qj.1 ho x (qb h)
theorem Ei {n:Nat} {l:List T3} {k:Nat} {x:T3} (ho:Ec n l=true) (h:l[k]?=some x):x.ok n=true:=qj.1 ho x (qb h)
theorem Mesh.check_zero {m:Mesh}:m.check=0↔m.verts.length<=4096/\m.tris.length<=4096/\K8 m.verts=true/\Ec m.verts.length m.tris=true:=by
 unfold Mesh.check;split
 ·simp;omega
 ·rename_i h;simp only[not_or,Nat.not_lt]at h;cases K8 m.verts<;>cases Ec m.verts.length m.tris<;>simp[h]
theorem vcs (v:V3):v.cs=[.i .i64 v.x,.i .i64 v.y,.i .i64 v.z]:=Rfl rfl
theorem tcs (v:T3):v.cs=[.i .i64 v.a,.i .i64 v.b,.i .i64 v.c]:=Rfl rfl
section
variable {P:Program} (hm:P.follows .mixedOrders=true)
include hm
theorem Qd8 {f fv:FuncId} (hf:Q5 P f (L0e.c fv) L0e.r L0e.n) (hv:Je P fv):Y0 P f:=by
 intro m;refine PI hm hf ?_;unfold L0e.c;by_cases h1:4096<m.verts.length∨4096<m.tris.length
 ·have h2:m.check=2:=by simp[Mesh.check,h1]
  simp +contextual -implicitDefEqProofs [go_sem,Mesh.enc,Mesh.cs,vsV,tsV,h2,L0e.r];omega
 simp only[not_or,Nat.not_lt]at h1;simp +contextual -implicitDefEqProofs [go_sem,Mesh.enc,Mesh.cs,vsV,tsV,h1,show ¬ (4096:Int)<m.verts.length by omega,show ¬ (4096:Int)<m.tris.length by omega];refine Q8 (α:=Nat) (λk=>k<=m.verts.length/\K8 (m.verts.take k)=true)
  (λk=>⟨[(1,.p 0 1 0 0),(3,.i .i64 m.verts.length),(20,vsV m.verts),(21,.i .i64 m.verts.length),(22,.i .i64 k)],[.arr 1 2 [m.cs]]⟩)
  (λk=>m.verts.length-k) 0 ⟨Nat.zero_le _,rfl⟩ ?_ ?_
 ·simp[go_sem,Mesh.cs,vsV,tsV]
 ·rintro k ⟨hk,hok⟩;cases hp:m.verts[k]? with
  | none =>
    have:¬ k<m.verts.length:=by simpa using hp
    obtain rfl:k=m.verts.length:=by omega
    rw[qi]at hok
    simp[go_sem,vsV,tsV,Mesh.cs];refine Q8 (α:=Nat) (λk=>k<=m.tris.length/\Ec m.verts.length (m.tris.take k)=true)
     (λk=>⟨[(3,.i .i64 m.verts.length),(31,tsV m.tris),(32,.i .i64 m.tris.length),(33,.i .i64 k)],[.dead]⟩)
     (λk=>m.tris.length-k) 0 ⟨Nat.zero_le _,rfl⟩ ?_ ?_
    ·simp[go_sem,tsV]
    ·rintro k ⟨hk,hok2⟩;cases hp:m.tris[k]? with
     | none =>
       have:¬ k<m.tris.length:=by simpa using hp
       obtain rfl:k=m.tris.length:=by omega
       rw[qi]at hok2
       simp[go_sem,tsV,L0e.r];exact(Mesh.check_zero.2 ⟨h1.1,h1.2,hok,hok2⟩).symm
     | some t =>
       obtain⟨hlt,hp'⟩:=q8.1 hp;by_cases ht:t.ok m.verts.length=true
       ·have ht':=T3.ok_iff.1 ht;simp +contextual -implicitDefEqProofs [go_sem,tsV,tcs,hlt,hp',Wm,Qak];refine⟨λh=>by omega,λh1 h2=>?_⟩;simp (disch:=omega) [go_sem,Q0];refine⟨k+1,⟨by omega,?_⟩,by omega,?_⟩
        ·rw[Qdn hp,hok2,ht];rfl
        ·simp[go_sem,tsV]
       ·have ht1:t.ok m.verts.length=false:=by simpa using ht
        have ht':=T3.ok_false.1 ht1;simp +contextual -implicitDefEqProofs [go_sem,tsV,tcs,hlt,hp',Wm,Qak];refine⟨λh=>?_,λh1 h2=>by omega⟩;simp[go_sem,L0e.r];simp[Mesh.check,Q8f hp ht1,Nat.not_lt.2 h1.1,Nat.not_lt.2 h1.2,hok]
  | some p =>
    obtain⟨hlt,hp'⟩:=q8.1 hp;simp[go_sem,vsV,tsV,Mesh.cs,hlt,hp',vcs];refine Q2 (hv p) ?_;cases hvp:p.valid
    ·simp[go_sem,L0e.r];simp[Mesh.check,Q0c hp hvp,Nat.not_lt.2 h1.1,Nat.not_lt.2 h1.2]
    ·simp[go_sem];simp (disch:=omega) [go_sem,Q0];refine⟨k+1,⟨by omega,?_⟩,by omega,?_⟩
     ·rw[Q30 hp,hok,hvp];rfl
     ·simp[go_sem,vsV]
theorem Q9d {f fv:FuncId} (hf:Q5 P f (L18.c fv) L18.r L18.n) (hv:Je P fv):Y0 P f:=by
 intro m;refine PI hm hf ?_;unfold L18.c;by_cases h1:4096<m.verts.length∨4096<m.tris.length
 ·have h2:m.check=2:=by simp[Mesh.check,h1]
  simp +contextual -implicitDefEqProofs [go_sem,Mesh.enc,Mesh.cs,vsV,tsV,h2,L18.r];omega
 simp only[not_or,Nat.not_lt]at h1;simp +contextual -implicitDefEqProofs [go_sem,Mesh.enc,Mesh.cs,vsV,tsV,h1,show ¬ (4096:Int)<m.verts.length by omega,show ¬ (4096:Int)<m.tris.length by omega];refine Q8 (α:=Nat) (λk=>k<=m.verts.length/\K8 (m.verts.take k)=true)
  (λk=>⟨[(1,.p 0 1 0 0),(19,vsV m.verts),(20,.i .i64 m.verts.length),(21,.i .i64 k)],[.arr 1 2 [m.cs]]⟩)
  (λk=>m.verts.length-k) 0 ⟨Nat.zero_le _,rfl⟩ ?_ ?_
 ·simp[go_sem,Mesh.cs,vsV,tsV]
 ·rintro k ⟨hk,hok⟩;cases hp:m.verts[k]? with
  | none =>
    have:¬ k<m.verts.length:=by simpa using hp
    obtain rfl:k=m.verts.length:=by omega
    rw[qi]at hok
    simp[go_sem,vsV,tsV,Mesh.cs];refine Q8 (α:=Nat) (λk=>k<=m.tris.length/\Ec m.verts.length (m.tris.take k)=true)
     (λk=>⟨[(5,.i .i64 m.verts.length),(33,tsV m.tris),(34,.i .i64 m.tris.length),(35,.i .i64 k)],[.dead]⟩)
     (λk=>m.tris.length-k) 0 ⟨Nat.zero_le _,rfl⟩ ?_ ?_
    ·simp[go_sem,tsV]
    ·rintro k ⟨hk,hok2⟩;cases hp:m.tris[k]? with
     | none =>
       have:¬ k<m.tris.length:=by simpa using hp
       obtain rfl:k=m.tris.length:=by omega
       rw[qi]at hok2
       simp[go_sem,tsV,L18.r];exact(Mesh.check_zero.2 ⟨h1.1,h1.2,hok,hok2⟩).symm
     | some t =>
       obtain⟨hlt,hp'⟩:=q8.1 hp;by_cases ht:t.ok m.verts.length=true
       ·have ht':=T3.ok_iff.1 ht;simp +contextual -implicitDefEqProofs [go_sem,tsV,tcs,hlt,hp',Wm,Qak];refine⟨λh=>by omega,λh1 h2 _ _ _ _=>?_⟩;simp (disch:=omega) [go_sem,Q0];refine⟨k+1,⟨by omega,?_⟩,by omega,?_⟩
        ·rw[Qdn hp,hok2,ht];rfl
        ·simp[go_sem,tsV]
       ·have ht1:t.ok m.verts.length=false:=by simpa using ht
        have ht':=T3.ok_false.1 ht1;simp +contextual -implicitDefEqProofs [go_sem,tsV,tcs,hlt,hp',Wm,Qak];refine⟨λh=>?_,λh1 h2 _ _ _ _=>by omega⟩;simp[go_sem,L18.r];simp[Mesh.check,Q8f hp ht1,Nat.not_lt.2 h1.1,Nat.not_lt.2 h1.2,hok]
  | some p =>
    obtain⟨hlt,hp'⟩:=q8.1 hp;simp[go_sem,vsV,tsV,Mesh.cs,hlt,hp',vcs];refine Q2 (hv p) ?_;cases hvp:p.valid
    ·simp[go_sem,L18.r];simp[Mesh.check,Q0c hp hvp,Nat.not_lt.2 h1.1,Nat.not_lt.2 h1.2]
    ·simp[go_sem];simp (disch:=omega) [go_sem,Q0];refine⟨k+1,⟨by omega,?_⟩,by omega,?_⟩
     ·rw[Q30 hp,hok,hvp];rfl
     ·simp[go_sem,vsV]
end
theorem Qfb (t:T3):(∀y∈t.cs,y.isD=true)=True:=by simp[T3.cs,V.isD]
theorem Qoi (t:V3):(∀y∈t.cs,y.isD=true)=True:=by simp[V3.cs,V.isD]
theorem Qq5 {α β:Type} (f:α->β) (l:List α):List.take l.length (l.map f)=l.map f:=qe (by simp)
attribute [go_sem] Qfb Qoi   Qq5
end Go.Abs
