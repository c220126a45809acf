/- Part of the library on which the proof stands: an abstract machine, its values and its soundness against the model; or what functions of the program do to such values. -/
import Derived.Test.YtcdjgldeiaiaoaaGreatAbsSS
set_option linter.unusedVariables false
set_option linter.unusedSimpArgs false
namespace Go.Abs
def Le0 (u v:V):Prop:=u=v∨(u=.nil/\∃sz,v=.l sz [])∨v=.any/\False
def LeL (R:V->V->Prop):List V->List V->Prop
 | [],[]=>True
 | u::us,v::vs=>R u v/\LeL R us vs
 | _,_=>False
def Le1 (u v:V):Prop:=Le0 u v∨∃us vs,u=.a us/\v=.a vs/\LeL Le0 us vs
def Le (u v:V):Prop:=Le1 u v∨∃us vs,u=.t us/\v=.t vs/\LeL Le1 us vs
theorem Le0.nil (sz:Nat):Le0 .nil (.l sz []):=.inr (.inl ⟨rfl,sz,rfl⟩)
theorem LeL.refl {R:V->V->Prop} (hR:∀u,R u u):∀us,LeL R us us
 | []=>trivial
 | u::us=>⟨hR u,LeL.refl hR us⟩
theorem Le1.refl (u:V):Le1 u u:=.inl (.inl rfl)
theorem Le.refl (u:V):Le u u:=.inl (Le1.refl u)
theorem LeL.pw {R:V->V->Prop} {Q:V->Value->Prop} (hR:∀u v c,R u v->Q u c->Q v c):∀{us vs:List V} {cs:List Value},LeL R us vs->Pw Q us cs->Pw Q vs cs
 | [],[],cs,_,hp=>hp
 | [],_::_,_,h,_=>h.elim
 | _::_,[],_,h,_=>h.elim
 | u::us,v::vs,[],_,hp=>by have:=hp.1;simp at this
 | u::us,v::vs,c::cs,h,hp=>by
   have h1:=LeL.pw hR h.2 hp.tail
   exact Pw.cons (hR u v c h.1 hp.head) h1
section
variable {J:Nat->Prop} {m:List Ent} {w:World}
theorem Le0.rd {u v:V} {c:Value} (h:Le0 u v) (hc:RC J m w u c):RC J m w v c:=by
 rcases h with rfl | ⟨rfl,sz,rfl⟩ | ⟨_,h⟩
 ·exact hc
 ·have h1:RD J w .nil c:=hc
  show RD J w (.l sz []) c
  cases h1 with
  | nil0=>exact .l0 sz
  | nil1 a=>exact .l1 sz a 0
 ·exact h.elim
theorem Le0.ra {u v:V} {c:Value} (h:Le0 u v) (hc:RA J m w u c):RA J m w v c:=by
 rcases h with rfl | ⟨rfl,sz,rfl⟩ | ⟨_,h⟩
 ·exact hc
 ·exact Qq (Le0.rd (J:=J) (m:=m) (Le0.nil sz) (by exact hc))
 ·exact h.elim
theorem Le1.ra {u v:V} {c:Value} (h:Le1 u v) (hc:RA J m w u c):RA J m w v c:=by
 rcases h with h | ⟨us,vs,rfl,rfl,h⟩
 ·exact h.ra hc
 ·obtain⟨arr,rfl,hp⟩:=hc
  exact⟨arr,rfl,LeL.pw (λ_ _ _ h1 h2=>h1.rd h2) h hp⟩
theorem Le.rv {u v:V} {c:Value} (h:Le u v) (hc:RV J m w u c):RV J m w v c:=by
 rcases h with h | ⟨us,vs,rfl,rfl,h⟩
 ·rcases h with (rfl | ⟨rfl,sz,rfl⟩ | ⟨_,h⟩) | ⟨us,vs,rfl,rfl,h⟩
  ·exact hc
  ·exact Qw (Le0.ra (Le0.nil sz) (by exact hc))
  ·exact h.elim
  ·exact Qw (Le1.ra (.inr ⟨us,vs,rfl,rfl,h⟩) (by exact hc))
 ·obtain⟨arr,rfl,hp⟩:=hc
  exact⟨arr,rfl,LeL.pw (λ_ _ _ h1 h2=>h1.ra h2) h hp⟩
end
variable {P:Program}
theorem Qlr {f:FuncId} {us vs:List V} {h:List O} {R:V->List O->Prop} (hl:LeL Le us vs) (hc:ACall P f vs h R):ACall P f us h R :=
 λJ m w cargs hr hp=>hc J m w cargs hr (LeL.pw (λ_ _ _ h1 h2=>h1.rv h2) hl hp)
theorem Qgn {f:FuncId} {vs:List V} {h:List O} {R R':V->List O->Prop} (hR:∀r h',R r h'->∃r',Le r r'/\R' r' h') (hc:ACall P f vs h R):ACall P f vs h R' :=
 λJ m w cargs hr hp=>(hc J m w cargs hr hp).mono λe w' ⟨v,r,h',J',m',h1,h2,h3,h4,h5,h6⟩=>by
  obtain⟨r',q1,q2⟩:=hR r h' h2
  exact⟨v,r',h',J',m',h1,q2,q1.rv h3,h4,h5,h6⟩
theorem CallIs.le {f:FuncId} {us vs:List V} {r r':V} (hc:CallIs P f vs r) (hl:LeL Le us vs) (hr:Le r r'):CallIs P f us r' :=
 λh=>Qlr hl (Qgn (λr0 h0 hh=>⟨r',by rw[hh.1];exact hr,rfl,hh.2⟩) (hc h))
theorem CallIs.res {f:FuncId} {us:List V} {r r':V} (hc:CallIs P f us r) (hr:Le r r'):CallIs P f us r':=hc.le (LeL.refl Le.refl us) hr
def L1q.c:C :=(.seq (.reg [Au 2 (.box (.t 0)),Ab 4 false]) (.seq (.reg [Af 5 0 2,Al 6 5,Am 7 1,Au 8 (.un .neg (.t 7)),Aj .geq 9 6 8,Am 10 9,Av 11 10 (.fa 0 (.t 2)),Av 12 10 (.ld none (.t 11)),Av 13 10 (.mv (.t 1)),Av 14 10 (.bin .leq (.t 12) (.t 13)),Ap 15 10 14,Am 16 15,Av 17 16 (.fa 1 (.t 2)),Av 18 16 (.ld none (.t 17)),Av 19 16 (.mv (.t 1)),Av 20 16 (.un .neg (.t 19)),Av 21 16 (.bin .geq (.t 18) (.t 20)),Ap 22 16 21,Am 23 22,Av 24 23 (.fa 1 (.t 2)),Av 25 23 (.ld none (.t 24)),Av 26 23 (.mv (.t 1)),Av 27 23 (.bin .leq (.t 25) (.t 26)),Ap 28 23 27,Am 29 28,Av 30 29 (.fa 2 (.t 2)),Av 31 29 (.ld none (.t 30)),
 Av 32 29 (.mv (.t 1)),Av 33 29 (.un .neg (.t 32)),Av 34 29 (.bin .geq (.t 31) (.t 33)),Ap 35 29 34,Am 36 35,Av 37 36 (.fa 2 (.t 2)),Av 38 36 (.ld none (.t 37)),Av 39 36 (.mv (.t 1)),Av 40 36 (.bin .leq (.t 38) (.t 39)),Ap 41 36 40,Am 4 41]) .ret))
def L1q.r:List Rr:=[.tmp 4]
abbrev L1q.n:Nat:=42
def L1o.c (L1q:FuncId):C :=(.seq (.reg [Au 1 (.box (.t 0)),Ab 2 false]) (.seq (.reg [Ag 3 3 1,Au 4 (.call L1q [.t 3,(.c (.i .i64 65536))]),Am 2 4]) .ret))
def L1o.r:List Rr:=[.tmp 2]
abbrev L1o.n:Nat:=5
def L0o.c:C :=(.seq (.reg [Au 2 (.box (.t 0)),Ab 4 false]) (.seq (.reg [Af 5 0 2,Al 6 5,Am 7 1,Au 8 (.un .neg (.t 7)),Aj .geq 9 6 8,Am 10 9,Av 11 10 (.fa 0 (.t 2)),Av 12 10 (.ld none (.t 11)),Av 13 10 (.mv (.t 1)),Av 14 10 (.bin .leq (.t 12) (.t 13)),Ap 15 10 14,Am 16 15,Av 17 16 (.fa 1 (.t 2)),Av 18 16 (.ld none (.t 17)),Av 19 16 (.mv (.t 1)),Av 20 16 (.un .neg (.t 19)),Av 21 16 (.bin .geq (.t 18) (.t 20)),Ap 22 16 21,Am 23 22,Av 24 23 (.fa 1 (.t 2)),Av 25 23 (.ld none (.t 24)),Av 26 23 (.mv (.t 1)),Av 27 23 (.bin .leq (.t 25) (.t 26)),Ap 28 23 27,Am 29 28,Av 30 29 (.fa 2 (.t 2)),Av 31 29 (.ld none (.t 30)),
 Av 32 29 (.mv (.t 1)),Av 33 29 (.un .neg (.t 32)),Av 34 29 (.bin .geq (.t 31) (.t 33)),Ap 35 29 34,Am 36 35,Av 37 36 (.fa 2 (.t 2)),Av 38 36 (.ld none (.t 37)),Av 39 36 (.mv (.t 1)),Av 40 36 (.bin .leq (.t 38) (.t 39)),Ap 41 36 40,Am 4 41]) .ret))
def L0o.r:List Rr:=[.tmp 4]
abbrev L0o.n:Nat:=42
def L0m.c (L0o:FuncId):C :=(.seq (.reg [Au 1 (.box (.t 0)),Ab 2 false]) (.seq (.reg [Ag 3 3 1,Au 4 (.call L0o [.t 3,(.c (.i .i64 65536))]),Am 2 4]) .ret))
def L0m.r:List Rr:=[.tmp 2]
abbrev L0m.n:Nat:=5
def L08.c (L1o:FuncId):C :=(.seq (.reg [Au 1 (.box (.t 0)),Ac 2 0]) (.seq (.reg [Af 8 0 1,Al 9 8,An 10 0 9,Am 3 10]) (.seq (.seq (.reg [Am 11 3,Ak .gtr 12 11 4096,Am 13 12,Aw 14 13 (.fa 1 (.t 1)),Aw 15 13 (.ld none (.t 14)),Aw 16 13 (.len 0 (.t 15)),Aw 17 13 (.bin .gtr (.t 16) (.c (.i .i64 4096))),Ao 18 13 17]) (.ite (.t 18) (.seq (.reg [Ac 2 2]) .ret) .skip)) (.seq (.seq (.reg [Af 19 0 1,Al 20 19,An 21 0 20,Ac 22 0]) (.blk 0 (.loop (.seq (.reg [Aj .lss 23 22 21]) (.seq (.ite (.t 23) .skip (.exit 0)) (.seq (.blk 1 (.seq (.reg [Ai 24 3 20 22,Ag 25 3 24,Au 5 (.alloc [(.i .i64 0),(.i .i64 0),(.i .i64 0)]),
 As 3 5 25]) (.seq (.reg [Ag 26 3 5,Au 27 (.call L1o [.t 26]),Au 28 (.un .not (.t 27))]) (.ite (.t 28) (.seq (.reg [Ac 2 8]) .ret) .skip)))) (.reg [Ad 29 22 1,Am 22 29]))))))) (.seq (.seq (.reg [Af 30 1 1,Al 31 30,An 32 0 31,Ac 33 0]) (.blk 2 (.loop (.seq (.reg [Aj .lss 34 33 32]) (.seq (.ite (.t 34) .skip (.exit 2)) (.seq (.blk 3 (.seq (.reg [Ai 35 3 31 33,Ag 36 3 35,Au 7 (.alloc [(.i .i64 0),(.i .i64 0),(.i .i64 0)]),As 3 7 36]) (.seq (.reg [Af 37 0 7,Al 38 37,Af 39 1 7,Al 40 39,Af 41 2 7,Al 42 41,Au 43 (.mn [.t 38,.t 40,.t 42]),Ak .lss 44 43 0,Am 45 44,Aw 46 45 (.fa 0 (.t 7)),Aw 47 45 (.ld none (.t 46)),
 Aw 48 45 (.fa 1 (.t 7)),Aw 49 45 (.ld none (.t 48)),Aw 50 45 (.fa 2 (.t 7)),Aw 51 45 (.ld none (.t 50)),Aw 52 45 (.mx [.t 47,.t 49,.t 51]),Aw 53 45 (.mv (.t 3)),Aw 54 45 (.bin .geq (.t 52) (.t 53)),Ao 55 45 54]) (.ite (.t 55) (.seq (.reg [Ac 2 1]) .ret) .skip)))) (.reg [Ad 56 33 1,Am 33 56]))))))) (.seq (.reg [Ac 2 0]) .ret))))))
def L08.r:List Rr:=[.tmp 2]
abbrev L08.n:Nat:=57
def L0p.c (L0m:FuncId):C :=(.seq (.reg [Au 1 (.box (.t 0)),Ac 2 0]) (.seq (.seq (.reg [Af 8 0 1,Al 9 8,An 10 0 9,Ak .gtr 11 10 4096,Am 12 11,Aw 13 12 (.fa 1 (.t 1)),Aw 14 12 (.ld none (.t 13)),Aw 15 12 (.len 0 (.t 14)),Aw 16 12 (.bin .gtr (.t 15) (.c (.i .i64 4096))),Ao 17 12 16]) (.ite (.t 17) (.seq (.reg [Ac 2 2]) .ret) .skip)) (.seq (.seq (.reg [Af 18 0 1,Al 19 18,An 20 0 19,Ac 21 0]) (.blk 0 (.loop (.seq (.reg [Aj .lss 22 21 20]) (.seq (.ite (.t 22) .skip (.exit 0)) (.seq (.blk 1 (.seq (.reg [Ai 23 3 19 21,Ag 24 3 23,Au 4 (.alloc [(.i .i64 0),(.i .i64 0),(.i .i64 0)]),As 3 4 24]) (.seq (.reg [
 Ag 25 3 4,Au 26 (.call L0m [.t 25]),Au 27 (.un .not (.t 26))]) (.ite (.t 27) (.seq (.reg [Ac 2 8]) .ret) .skip)))) (.reg [Ad 28 21 1,Am 21 28]))))))) (.seq (.reg [Af 29 0 1,Al 30 29,An 31 0 30,Am 5 31]) (.seq (.seq (.reg [Af 32 1 1,Al 33 32,An 34 0 33,Ac 35 0]) (.blk 2 (.loop (.seq (.reg [Aj .lss 36 35 34]) (.seq (.ite (.t 36) .skip (.exit 2)) (.seq (.blk 3 (.seq (.reg [Ai 37 3 33 35,Ag 38 3 37,Au 7 (.alloc [(.i .i64 0),(.i .i64 0),(.i .i64 0)]),As 3 7 38]) (.seq (.reg [Af 39 0 7,Al 40 39,Ak .lss 41 40 0,Am 42 41,Aw 43 42 (.fa 0 (.t 7)),Aw 44 42 (.ld none (.t 43)),Aw 45 42 (.mv (.t 5)),Aw 46 42 (.bin .geq (.t 44) (.t 45)),
 Ao 47 42 46,Am 48 47,Aw 49 48 (.fa 1 (.t 7)),Aw 50 48 (.ld none (.t 49)),Aw 51 48 (.bin .lss (.t 50) (.c (.i .i64 0))),Ao 52 48 51,Am 53 52,Aw 54 53 (.fa 1 (.t 7)),Aw 55 53 (.ld none (.t 54)),Aw 56 53 (.mv (.t 5)),Aw 57 53 (.bin .geq (.t 55) (.t 56)),Ao 58 53 57,Am 59 58,Aw 60 59 (.fa 2 (.t 7)),Aw 61 59 (.ld none (.t 60)),Aw 62 59 (.bin .lss (.t 61) (.c (.i .i64 0))),Ao 63 59 62,Am 64 63,Aw 65 64 (.fa 2 (.t 7)),Aw 66 64 (.ld none (.t 65)),Aw 67 64 (.mv (.t 5)),Aw 68 64 (.bin .geq (.t 66) (.t 67)),Ao 69 64 68]) (.ite (.t 69) (.seq (.reg [Ac 2 1]) .ret) .skip)))) (.reg [Ad 70 35 1,Am 35 70])))))))
 (.seq (.reg [Ac 2 0]) .ret))))))
def L0p.r:List Rr:=[.tmp 2]
abbrev L0p.n:Nat:=71
def L09.c (L08:FuncId):C :=(.seq (.reg [Au 2 (.box (.t 0)),Au 4 (.alloc [(.i .i64 0),(.i .i64 0),(.i .i64 0)]),Au 5 (.alloc [(.i .i64 0),(.i .i64 0),(.i .i64 0)]),Au 6 (.alloc [(.i .i64 0),(.i .i64 0),(.i .i64 0)]),Ab 7 false]) (.seq (.seq (.reg [Am 9 1,Ak .lss 10 9 0,Am 11 10,Aw 12 11 (.mv (.t 1)),Aw 13 11 (.fa 1 (.t 2)),Aw 14 11 (.ld none (.t 13)),Aw 15 11 (.len 0 (.t 14)),Aw 16 11 (.bin .geq (.t 12) (.t 15)),Ao 17 11 16,Am 18 17,Aw 19 18 (.ld (some 2) (.t 2)),Aw 20 18 (.call L08 [.t 19]),Aw 21 18 (.bin .neq (.t 20) (.c (.i .i64 0))),Ao 22 18 21]) (.ite (.t 22) (.seq (.reg [Au 23 (.build [(.i .i64 0),(.i .i64 0),(.i .i64 0)] []),
 Au 24 (.build [(.i .i64 0),(.i .i64 0),(.i .i64 0)] []),Au 25 (.build [(.i .i64 0),(.i .i64 0),(.i .i64 0)] []),As 3 4 23,As 3 5 24,As 3 6 25,Ab 7 false]) .ret) .skip)) (.seq (.reg [Af 26 1 2,Al 27 26,Am 28 1,Ai 29 3 27 28,Ag 30 3 29,Au 8 (.alloc [(.i .i64 0),(.i .i64 0),(.i .i64 0)]),As 3 8 30]) (.seq (.drw [Af 31 0 2,Al 32 31,Af 33 0 8,Al 34 33,Ai 35 3 32 34,Ag 36 3 35,Af 37 0 2,Al 38 37,Af 39 1 8,Al 40 39,Ai 41 3 38 40,Ag 42 3 41,Af 43 0 2,Al 44 43,Af 45 2 8,Al 46 45,Ai 47 3 44 46,Ag 48 3 47,As 3 4 36,As 3 5 42,As 3 6 48,Ab 7 true] [[],[],[],[],[],[],[],[],[],[],[],[],[],[],[],[],[],[],[6,7,8,9,10,11,12,13,14,15,16,17],[12,13,14,15,16,17],[],[]])
 .ret))))
def L09.r:List Rr:=[.cell 4 (some 3),.cell 5 (some 3),.cell 6 (some 3),.tmp 7]
abbrev L09.n:Nat:=49
structure V3 where
 x:Int
 y:Int
 z:Int
deriving DecidableEq
def V3.cs (v:V3):List V:=[.i .i64 v.x,.i .i64 v.y,.i .i64 v.z]
def V3.enc (v:V3):V:=.a v.cs
def V3.within (v:V3) (k:Int):Bool:=decide (-k<=v.x) && decide (v.x<=k) && decide (-k<=v.y) && decide (v.y<=k) && decide (-k<=v.z) && decide (v.z<=k)
def V3.valid (v:V3):Bool:=v.within 65536
theorem V3.valid_iff {v:V3}:v.valid=true↔(-65536<=v.x/\v.x<=65536/\-65536<=v.y/\v.y<=65536/\-65536<=v.z/\v.z<=65536):=by
 simp[V3.valid,V3.within,and_assoc]
def X7 (P:Program) (f:FuncId):Prop:=∀(v:V3) (k:Int),0<=k->k<=4611686018427387904->PureC P f [v.enc,.i .i64 k] (·=.b (v.within k))
def Kl (P:Program) (f:FuncId):Prop:=∀v:V3,CallIs P f [v.enc] (.b v.valid)
theorem W8 (a b:Int):(if b<a then b else a)=min a b:=by split<;>omega
theorem Q2l (a b:Int):(if a<b then b else a)=max a b:=by split<;>omega
section
variable {P:Program} (hm:P.follows .mixedOrders=true)
include hm
theorem Q3m {f:FuncId} (hf:Qb P f L1q.c L1q.r L1q.n):X7 P f:=by
 intro v k h0 h1
 refine Q9 hm hf (qh rfl) ?_
 unfold L1q.c
 simp +contextual -implicitDefEqProofs [go_sem,V3.enc,V3.cs,L1q.r]
 have h:IntKind.i64.wrap (-k)=-k:=Q3 (by omega) (by omega)
 simp[h,V3.within,and_assoc]
theorem Q0e {f:FuncId} (hf:Qb P f L0o.c L0o.r L0o.n):X7 P f:=by
 intro v k h0 h1
 refine Q9 hm hf (qh rfl) ?_
 unfold L0o.c
 simp +contextual -implicitDefEqProofs [go_sem,V3.enc,V3.cs,L0o.r]
 have h:IntKind.i64.wrap (-k)=-k:=Q3 (by omega) (by omega)
 simp[h,V3.within,and_assoc]
theorem Q5d {f fw:FuncId} (hf:Qb P f (L1o.c fw) L1o.r L1o.n) (hw:X7 P fw):Kl P f:=by
 intro v
 refine PureC.is (Q9 hm hf (qh rfl) ?_) rfl
 unfold L1o.c
 simp[go_sem,V3.enc,V3.cs]
 refine Q6 ((hw v 65536 (by omega) (by omega)).is rfl) ?_
 simp[go_sem,L1o.r,V3.valid]
theorem Q1v {f fw:FuncId} (hf:Qb P f (L0m.c fw) L0m.r L0m.n) (hw:X7 P fw):Kl P f:=by
 intro v
 refine PureC.is (Q9 hm hf (qh rfl) ?_) rfl
 unfold L0m.c
 simp[go_sem,V3.enc,V3.cs]
 refine Q6 ((hw v 65536 (by omega) (by omega)).is rfl) ?_
 simp[go_sem,L0m.r,V3.valid]
end
structure T3 where
 a:Int
 b:Int
 c:Int
deriving DecidableEq
def T3.cs (t:T3):List V:=[.i .i64 t.a,.i .i64 t.b,.i .i64 t.c]
def T3.enc (t:T3):V:=.a t.cs
def T3.ok (n:Nat) (t:T3):Bool:=decide (0<=t.a) && decide (t.a<n) && decide (0<=t.b) && decide (t.b<n) && decide (0<=t.c) && decide (t.c<n)
theorem T3.ok_iff {n:Nat} {t:T3}:t.ok n=true↔(0<=t.a/\t.a<n/\0<=t.b/\t.b<n/\0<=t.c/\t.c<n):=by simp[T3.ok,and_assoc]
theorem T3.ok_false {n:Nat} {t:T3}:t.ok n=false↔¬ (0<=t.a/\t.a<n/\0<=t.b/\t.b<n/\0<=t.c/\t.c<n):=by rw[<- T3.ok_iff];simp
structure Mesh where
 verts:List V3
 tris:List T3
deriving DecidableEq
def vsV (l:List V3):V:=.l 3 (l.map V3.cs)
def tsV (l:List T3):V:=.l 3 (l.map T3.cs)
def Mesh.cs (m:Mesh):List V:=[vsV m.verts,tsV m.tris]
def Mesh.enc (m:Mesh):V:=.a m.cs
def Jq (l:List V3):Bool:=l.all V3.valid
def Kw (n:Nat) (l:List T3):Bool:=l.all (T3.ok n)
def Mesh.check (m:Mesh):Int :=
 if 4096<m.verts.length∨4096<m.tris.length then 2
 else if Jq m.verts=false then 8
 else if Kw m.verts.length m.tris=false then 1 else 0
def Y3 (P:Program) (f:FuncId):Prop:=∀m:Mesh,CallIs P f [m.enc] (.i .i64 m.check)
theorem Uh {α:Type} {p:α->Bool} {l:List α} {k:Nat} {x:α} (h:l[k]?=some x):(l.take (k+1)).all p=((l.take k).all p && p x):=by
 simp[List.take_add_one,h]
theorem Im {α:Type} {p:α->Bool} {l:List α} {k:Nat} {x:α} (h:l[k]?=some x) (hx:p x=false):l.all p=false:=by
 rw[Bool.eq_false_iff]
 intro h1
 have:=qj.1 h1 x (qb h)
 rw[hx]at this;cases this
theorem Iw {l:List V3} {k:Nat} {x:V3} (h:l[k]?=some x):Jq (l.take (k+1))=(Jq (l.take k) && x.valid):=Uh h
theorem Q4i {n:Nat} {l:List T3} {k:Nat} {x:T3} (h:l[k]?=some x):Kw n (l.take (k+1))=(Kw n (l.take k) && x.ok n):=Uh h
theorem Uj {l:List V3} {k:Nat} {x:V3} (h:l[k]?=some x) (hx:x.valid=false):Jq l=false:=Im h hx
theorem Q1f {n:Nat} {l:List T3} {k:Nat} {x:T3} (h:l[k]?=some x) (hx:x.ok n=false):Kw n l=false:=Im (p:=T3.ok n) h hx
theorem Qgr {l:List V3} {k:Nat} {x:V3} (ho:Jq l=true) (h:l[k]?=some x):x.valid=true:=qj.1 ho x (qb h)
theorem Q1e {n:Nat} {l:List T3} {k:Nat} {x:T3} (ho:Kw n l=true) (h:l[k]?=some x):x.ok n=true:=qj.1 ho x (qb h)
theorem Mesh.check_zero {m:Mesh}:m.check=0↔m.verts.length<=4096/\m.tris.length<=4096/\Jq m.verts=true/\Kw m.verts.length m.tris=true:=by
 unfold Mesh.check
 split
 ·simp;omega
 ·rename_i h
  simp only[not_or,Nat.not_lt]at h
  cases Jq m.verts<;>cases Kw m.verts.length m.tris<;>simp[h]
theorem vcs (v:V3):v.cs=[.i .i64 v.x,.i .i64 v.y,.i .i64 v.z]:=Rfl rfl
theorem tcs (v:T3):v.cs=[.i .i64 v.a,.i .i64 v.b,.i .i64 v.c]:=Rfl rfl
section
variable {P:Program} (hm:P.follows .mixedOrders=true)
include hm
theorem Q44 {f fv:FuncId} (hf:Qb P f (L08.c fv) L08.r L08.n) (hv:Kl P fv):Y3 P f:=by
 intro m
 refine PureC.is (Q9 hm hf (qh rfl) ?_) rfl
 unfold L08.c
 by_cases h1:4096<m.verts.length∨4096<m.tris.length
 ·have h2:m.check=2:=by simp[Mesh.check,h1]
  simp +contextual -implicitDefEqProofs [go_sem,Mesh.enc,Mesh.cs,vsV,tsV,h2,L08.r]
  omega
 simp only[not_or,Nat.not_lt]at h1
 simp +contextual -implicitDefEqProofs [go_sem,Mesh.enc,Mesh.cs,vsV,tsV,h1,show ¬ (4096:Int)<m.verts.length by omega,show ¬ (4096:Int)<m.tris.length by omega]
 refine Ql (α:=Nat) (λk=>k<=m.verts.length/\Jq (m.verts.take k)=true)
  (λk=>⟨[(1,.p 0 1 0 0),(3,.i .i64 m.verts.length),(20,vsV m.verts),(21,.i .i64 m.verts.length),(22,.i .i64 k)],[.arr 1 2 [m.cs]]⟩)
  (λk=>m.verts.length-k) 0 ⟨Nat.zero_le _,rfl⟩ ?_ ?_
 ·simp[go_sem,Mesh.cs,vsV,tsV]
 ·rintro k ⟨hk,hok⟩
  cases hp:m.verts[k]? with
  | none =>
    have:¬ k<m.verts.length:=by simpa using hp
    obtain rfl:k=m.verts.length:=by omega
    rw[qi]at hok
    simp[go_sem,vsV,tsV,Mesh.cs]
    refine Ql (α:=Nat) (λk=>k<=m.tris.length/\Kw m.verts.length (m.tris.take k)=true)
     (λk=>⟨[(3,.i .i64 m.verts.length),(31,tsV m.tris),(32,.i .i64 m.tris.length),(33,.i .i64 k)],[.dead]⟩)
     (λk=>m.tris.length-k) 0 ⟨Nat.zero_le _,rfl⟩ ?_ ?_
    ·simp[go_sem,tsV]
    ·rintro k ⟨hk,hok2⟩
     cases hp:m.tris[k]? with
     | none =>
       have:¬ k<m.tris.length:=by simpa using hp
       obtain rfl:k=m.tris.length:=by omega
       rw[qi]at hok2
       simp[go_sem,tsV,L08.r]
       exact(Mesh.check_zero.2 ⟨h1.1,h1.2,hok,hok2⟩).symm
     | some t =>
       obtain⟨hlt,hp'⟩:=q8.1 hp
       by_cases ht:t.ok m.verts.length=true
       ·have ht':=T3.ok_iff.1 ht
        simp +contextual -implicitDefEqProofs [go_sem,tsV,tcs,hlt,hp',W8,Q2l]
        refine⟨λh=>by omega,λh1 h2=>?_⟩
        simp (disch:=omega) [go_sem,Q3]
        refine⟨k+1,⟨by omega,?_⟩,by omega,?_⟩
        ·rw[Q4i hp,hok2,ht];rfl
        ·simp[go_sem,tsV]
       ·have ht1:t.ok m.verts.length=false:=by simpa using ht
        have ht':=T3.ok_false.1 ht1
        simp +contextual -implicitDefEqProofs [go_sem,tsV,tcs,hlt,hp',W8,Q2l]
        refine⟨λh=>?_,λh1 h2=>by omega⟩
        simp[go_sem,L08.r]
        simp[Mesh.check,Q1f hp ht1,Nat.not_lt.2 h1.1,Nat.not_lt.2 h1.2,hok]
  | some p =>
    obtain⟨hlt,hp'⟩:=q8.1 hp
    simp[go_sem,vsV,tsV,Mesh.cs,hlt,hp',vcs]
    refine Q6 (hv p) ?_
    cases hvp:p.valid
    ·simp[go_sem,L08.r]
     simp[Mesh.check,Uj hp hvp,Nat.not_lt.2 h1.1,Nat.not_lt.2 h1.2]
    ·simp[go_sem]
     simp (disch:=omega) [go_sem,Q3]
     refine⟨k+1,⟨by omega,?_⟩,by omega,?_⟩
     ·rw[Iw hp,hok,hvp];rfl
     ·simp[go_sem,vsV]
theorem Q1t {f fv:FuncId} (hf:Qb P f (L0p.c fv) L0p.r L0p.n) (hv:Kl P fv):Y3 P f:=by
 intro m
 refine PureC.is (Q9 hm hf (qh rfl) ?_) rfl
 unfold L0p.c
 by_cases h1:4096<m.verts.length∨4096<m.tris.length
 ·have h2:m.check=2:=by simp[Mesh.check,h1]
  simp +contextual -implicitDefEqProofs [go_sem,Mesh.enc,Mesh.cs,vsV,tsV,h2,L0p.r]
  omega
 simp only[not_or,Nat.not_lt]at h1
 simp +contextual -implicitDefEqProofs [go_sem,Mesh.enc,Mesh.cs,vsV,tsV,h1,show ¬ (4096:Int)<m.verts.length by omega,show ¬ (4096:Int)<m.tris.length by omega]
 refine Ql (α:=Nat) (λk=>k<=m.verts.length/\Jq (m.verts.take k)=true)
  (λk=>⟨[(1,.p 0 1 0 0),(19,vsV m.verts),(20,.i .i64 m.verts.length),(21,.i .i64 k)],[.arr 1 2 [m.cs]]⟩)
  (λk=>m.verts.length-k) 0 ⟨Nat.zero_le _,rfl⟩ ?_ ?_
 ·simp[go_sem,Mesh.cs,vsV,tsV]
 ·rintro k ⟨hk,hok⟩
  cases hp:m.verts[k]? with
  | none =>
    have:¬ k<m.verts.length:=by simpa using hp
    obtain rfl:k=m.verts.length:=by omega
    rw[qi]at hok
    simp[go_sem,vsV,tsV,Mesh.cs]
    refine Ql (α:=Nat) (λk=>k<=m.tris.length/\Kw m.verts.length (m.tris.take k)=true)
     (λk=>⟨[(5,.i .i64 m.verts.length),(33,tsV m.tris),(34,.i .i64 m.tris.length),(35,.i .i64 k)],[.dead]⟩)
     (λk=>m.tris.length-k) 0 ⟨Nat.zero_le _,rfl⟩ ?_ ?_
    ·simp[go_sem,tsV]
    ·rintro k ⟨hk,hok2⟩
     cases hp:m.tris[k]? with
     | none =>
       have:¬ k<m.tris.length:=by simpa using hp
       obtain rfl:k=m.tris.length:=by omega
       rw[qi]at hok2
       simp[go_sem,tsV,L0p.r]
       exact(Mesh.check_zero.2 ⟨h1.1,h1.2,hok,hok2⟩).symm
     | some t =>
       obtain⟨hlt,hp'⟩:=q8.1 hp
       by_cases ht:t.ok m.verts.length=true
       ·have ht':=T3.ok_iff.1 ht
        simp +contextual -implicitDefEqProofs [go_sem,tsV,tcs,hlt,hp',W8,Q2l]
        refine⟨λh=>by omega,λh1 h2 _ _ _ _=>?_⟩
        simp (disch:=omega) [go_sem,Q3]
        refine⟨k+1,⟨by omega,?_⟩,by omega,?_⟩
        ·rw[Q4i hp,hok2,ht];rfl
        ·simp[go_sem,tsV]
       ·have ht1:t.ok m.verts.length=false:=by simpa using ht
        have ht':=T3.ok_false.1 ht1
        simp +contextual -implicitDefEqProofs [go_sem,tsV,tcs,hlt,hp',W8,Q2l]
        refine⟨λh=>?_,λh1 h2 _ _ _ _=>by omega⟩
        simp[go_sem,L0p.r]
        simp[Mesh.check,Q1f hp ht1,Nat.not_lt.2 h1.1,Nat.not_lt.2 h1.2,hok]
  | some p =>
    obtain⟨hlt,hp'⟩:=q8.1 hp
    simp[go_sem,vsV,tsV,Mesh.cs,hlt,hp',vcs]
    refine Q6 (hv p) ?_
    cases hvp:p.valid
    ·simp[go_sem,L0p.r]
     simp[Mesh.check,Uj hp hvp,Nat.not_lt.2 h1.1,Nat.not_lt.2 h1.2]
    ·simp[go_sem]
     simp (disch:=omega) [go_sem,Q3]
     refine⟨k+1,⟨by omega,?_⟩,by omega,?_⟩
     ·rw[Iw hp,hok,hvp];rfl
     ·simp[go_sem,vsV]
end
def T3.rev (t:T3):T3:=⟨t.a,t.c,t.b⟩
theorem X0 (t:T3):(∀y∈t.cs,y.isD=true)=True:=by simp[T3.cs,V.isD]
theorem Jn (t:V3):(∀y∈t.cs,y.isD=true)=True:=by simp[V3.cs,V.isD]
theorem tcs_cl (t:T3) (n:Nat):(∀y∈t.cs,y.cl n=true)=True:=by simp[T3.cs,V.cl,V.cl1,V.cl0]
theorem vcs_cl (t:V3) (n:Nat):(∀y∈t.cs,y.cl n=true)=True:=by simp[V3.cs,V.cl,V.cl1,V.cl0]
theorem Qdv {α β:Type} (f:α->β) (l:List α):List.take l.length (l.map f)=l.map f:=qe (by simp)
attribute [go_sem] X0 Jn tcs_cl vcs_cl Qdv
end Go.Abs
