/- Part of the library on which the proof stands: an abstract machine, its values and its soundness against the model; or what functions of the program do to such values. -/
import Derived.Test.YtcdjgldeiaiaoaaGreatGoSch
import Derived.Test.YtcdjgldeiaiaoaaGreatGoRevC
set_option linter.unusedVariables false
set_option linter.unusedSimpArgs false
set_option maxHeartbeats 4000000
namespace Go.Abs
structure P2 where
 x:Int
 y:Int
deriving DecidableEq
def P2.cs (p:P2):List V:=[.i .i64 p.x,.i .i64 p.y]
def P2.enc (p:P2):V:=.a p.cs
def psV (l:List P2):V:=.l 2 (l.map P2.cs)
theorem pcs (p:P2):p.cs=[.i .i64 p.x,.i .i64 p.y]:=Rfl rfl
def inI (n:Int):Bool:=decide (-9223372036854775808<=n) && decide (n<=9223372036854775807)
theorem inI_iff {n:Int}:inI n=true↔(-9223372036854775808<=n/\n<=9223372036854775807):=by simp[inI]
def Q0r (m:Mesh) (e:Int):V:=.t [m.enc,.i .i64 e]
def Z0:Mesh:=⟨[],[]⟩
theorem mesV_le {u v:V} {vs:List V3} {ts:List T3} {e:Int} (h1:Le0 u (vsV vs)) (h2:Le0 v (tsV ts)):Le (.t [.a [u,v],.i .i64 e]) (Q0r ⟨vs,ts⟩ e) :=
 .inr ⟨_,_,rfl,rfl,.inr ⟨_,_,rfl,rfl,h1,h2,trivial⟩,Le1.refl _,trivial⟩
theorem Q4n (e:Int):Le (.t [.a [.nil,.nil],.i .i64 e]) (Q0r Z0 e):=mesV_le (Le0.nil 3) (Le0.nil 3)
def Qcb (P:Program) (f:FuncId):Prop:=∀l:List V3,l.length<=1000000->CallIs P f [vsV l] (.b (Jq l))
def Ql3 (P:Program) (f:FuncId):Prop:=∀v:V3,CallIs P f [v.enc] (.b (v.within 131072))
def V3.plus (a b:V3):V3:=⟨IntKind.i64.wrap (a.x+b.x),IntKind.i64.wrap (a.y+b.y),IntKind.i64.wrap (a.z+b.z)⟩
def Qdn (P:Program) (f:FuncId):Prop:=∀a b:V3,CallIs P f [a.enc,b.enc] (a.plus b).enc
def V3.add (a b:V3):V3:=⟨a.x+b.x,a.y+b.y,a.z+b.z⟩
def Qk (p s:V3):List V3 :=
 [⟨p.x,p.y,p.z⟩,⟨p.x+s.x,p.y,p.z⟩,⟨p.x,p.y+s.y,p.z⟩,⟨p.x+s.x,p.y+s.y,p.z⟩,⟨p.x,p.y,p.z+s.z⟩,⟨p.x+s.x,p.y,p.z+s.z⟩,⟨p.x,p.y+s.y,p.z+s.z⟩,⟨p.x+s.x,p.y+s.y,p.z+s.z⟩]
def Bz (P:Program) (f:FuncId):Prop:=∀p s:V3,p.valid=true->s.within 131072=true->CallIs P f [p.enc,s.enc] (.a ((Qk p s).flatMap V3.cs))
theorem within_iff {v:V3} {k:Int}:v.within k=true↔(-k<=v.x/\v.x<=k/\-k<=v.y/\v.y<=k/\-k<=v.z/\v.z<=k):=by
 simp[V3.within,and_assoc]
theorem Q87 {a b:V3} (h1:a.valid=true) (h2:b.within 131072=true):a.plus b=a.add b:=by
 have:=V3.valid_iff.1 h1
 have:=within_iff.1 h2
 simp only[V3.plus,V3.add]
 rw[Q3 (by omega) (by omega),Q3 (by omega) (by omega),Q3 (by omega) (by omega)]
section
variable {P:Program} (hm:P.follows .mixedOrders=true)
include hm
theorem Q1q {f fv:FuncId} (hf:Qb P f (L12.c fv) L12.r L12.n) (hv:Kl P fv):Qcb P f:=by
 intro l hl
 refine PureC.is (Q9 hm hf (qh rfl) ?_) rfl
 unfold L12.c
 simp[go_sem,vsV]
 refine Ql (α:=Nat) (λk=>k<=l.length/\Jq (l.take k)=true)
  (λk=>⟨[(5,vsV l),(6,.i .i64 l.length),(7,.i .i64 k)],[]⟩)
  (λk=>l.length-k) 0 ⟨Nat.zero_le _,rfl⟩ ?_ ?_
 ·simp[go_sem,vsV]
 ·rintro k ⟨hk,hok⟩
  cases hp:l[k]? with
  | none =>
    have:¬ k<l.length:=by simpa using hp
    obtain rfl:k=l.length:=by omega
    rw[qi]at hok
    simp[go_sem,vsV,L12.r,hok]
  | some p =>
    obtain⟨hlt,hp'⟩:=q8.1 hp
    simp[go_sem,vsV,hlt,hp',vcs]
    refine Q6 (hv p) ?_
    cases hvp:p.valid
    ·simp[go_sem,L12.r,Uj hp hvp]
    ·simp (disch:=omega) [go_sem,Q3]
     refine⟨k+1,⟨by omega,?_⟩,by omega,?_⟩
     ·rw[Iw hp,hok,hvp];rfl
     ·simp (disch:=omega) [go_sem,vsV,Q3]
theorem Q1p {f:FuncId} (hf:Qb P f L13.c L13.r L13.n):Ql3 P f:=by
 intro v
 refine PureC.is (Q9 hm hf (qh rfl) ?_) rfl
 unfold L13.c
 have hw:=@within_iff v 131072
 by_cases h1:v.x<=131072/\v.y<=131072/\v.z<=131072
 ·have h2:max (max v.x v.y) v.z<=131072:=by omega
  simp +contextual -implicitDefEqProofs [go_sem,V3.enc,V3.cs,L13.r,h1,h2]
  rw[Bool.eq_iff_iff,hw];simp;omega
 ·have h2:¬ max (max v.x v.y) v.z<=131072:=by omega
  simp +contextual -implicitDefEqProofs [go_sem,V3.enc,V3.cs,L13.r,h1,h2]
  rw[Bool.eq_iff_iff,hw];simp;omega
theorem Q1o {f:FuncId} (hf:Qb P f L14.c L14.r L14.n):Qdn P f:=by
 intro a b
 refine PureC.is (Q9 hm hf (qh rfl) ?_) rfl
 unfold L14.c
 simp[go_sem,V3.enc,V3.cs,L14.r,V3.plus]
theorem Eo {f fp:FuncId} (hf:Qb P f (L11.c fp) L11.r L11.n) (hp:Qdn P fp):Bz P f:=by
 intro p s hv hs
 have h1:=V3.valid_iff.1 hv
 have h2:=within_iff.1 hs
 refine PureC.is (Q9 hm hf (qh rfl) ?_) rfl
 unfold L11.c
 simp[go_sem,V3.enc,V3.cs]
 refine Ql (α:=Nat) (λk=>k<=8)
  (λk=>⟨[(2,.p 0 1 0 0),(3,.p 1 1 0 0),(4,.p 2 1 0 0),(5,.p 3 1 0 0),(7,.i .i64 k)],[.arr 1 3 [p.cs],.arr 1 3 [s.cs],.arr 1 24 [List.replicate 24 (.i .i64 0)],.arr 1 24 [((Qk p s).take k).flatMap V3.cs++List.replicate (24-3*k) (.i .i64 0)]]⟩)
  (λk=>8-k) 0 (by omega) ?_ ?_
 ·simp[go_sem,vcs]
 ·intro k hk
  by_cases h8:k=8
  ·subst h8
   simp[go_sem,L11.r,Qk,V3.cs]
  ·have:k=0∨k=1∨k=2∨k=3∨k=4∨k=5∨k=6∨k=7:=by omega
   have w0:IntKind.i64.wrap 0=0:=rfl
   have w1:IntKind.i64.wrap 1=1:=rfl
   have wx:IntKind.i64.wrap s.x=s.x:=Q3 (by omega) (by omega)
   have wy:IntKind.i64.wrap s.y=s.y:=Q3 (by omega) (by omega)
   have wz:IntKind.i64.wrap s.z=s.z:=Q3 (by omega) (by omega)
   rcases this with rfl | rfl | rfl | rfl | rfl | rfl | rfl | rfl
   ·simp[go_sem,vcs,w0,w1,wx,wy,wz]
    refine Q6 (hp p ⟨0,0,0⟩) ?_
    simp (disch:=omega) [go_sem,Q3,V3.plus,V3.enc,V3.cs,w0,w1,Qk]
    exact⟨1,by simp[go_sem,V3.cs,or_imp,forall_and,V.cl,V.cl1,V.cl0]⟩
   ·simp[go_sem,vcs,w0,w1,wx,wy,wz]
    refine Q6 (hp p ⟨s.x,0,0⟩) ?_
    simp (disch:=omega) [go_sem,Q3,V3.plus,V3.enc,V3.cs,w0,w1,Qk]
    exact⟨2,by simp[go_sem,V3.cs,or_imp,forall_and,V.cl,V.cl1,V.cl0]⟩
   ·simp[go_sem,vcs,w0,w1,wx,wy,wz]
    refine Q6 (hp p ⟨0,s.y,0⟩) ?_
    simp (disch:=omega) [go_sem,Q3,V3.plus,V3.enc,V3.cs,w0,w1,Qk]
    exact⟨3,by simp[go_sem,V3.cs,or_imp,forall_and,V.cl,V.cl1,V.cl0]⟩
   ·simp[go_sem,vcs,w0,w1,wx,wy,wz]
    refine Q6 (hp p ⟨s.x,s.y,0⟩) ?_
    simp (disch:=omega) [go_sem,Q3,V3.plus,V3.enc,V3.cs,w0,w1,Qk]
    exact⟨4,by simp[go_sem,V3.cs,or_imp,forall_and,V.cl,V.cl1,V.cl0]⟩
   ·simp[go_sem,vcs,w0,w1,wx,wy,wz]
    refine Q6 (hp p ⟨0,0,s.z⟩) ?_
    simp (disch:=omega) [go_sem,Q3,V3.plus,V3.enc,V3.cs,w0,w1,Qk]
    exact⟨5,by simp[go_sem,V3.cs,or_imp,forall_and,V.cl,V.cl1,V.cl0]⟩
   ·simp[go_sem,vcs,w0,w1,wx,wy,wz]
    refine Q6 (hp p ⟨s.x,0,s.z⟩) ?_
    simp (disch:=omega) [go_sem,Q3,V3.plus,V3.enc,V3.cs,w0,w1,Qk]
    exact⟨6,by simp[go_sem,V3.cs,or_imp,forall_and,V.cl,V.cl1,V.cl0]⟩
   ·simp[go_sem,vcs,w0,w1,wx,wy,wz]
    refine Q6 (hp p ⟨0,s.y,s.z⟩) ?_
    simp (disch:=omega) [go_sem,Q3,V3.plus,V3.enc,V3.cs,w0,w1,Qk]
    exact⟨7,by simp[go_sem,V3.cs,or_imp,forall_and,V.cl,V.cl1,V.cl0]⟩
   ·simp[go_sem,vcs,w0,w1,wx,wy,wz]
    refine Q6 (hp p ⟨s.x,s.y,s.z⟩) ?_
    simp (disch:=omega) [go_sem,Q3,V3.plus,V3.enc,V3.cs,w0,w1,Qk]
    exact⟨8,by simp[go_sem,V3.cs,or_imp,forall_and,V.cl,V.cl1,V.cl0]⟩
end
theorem Qfn (h:List O) (id:Nat):Zu h (.mp id)=match h[id]? with | some (.mp es)=>some es | some (.md es)=>some es | _=>none:=Rfl rfl
attribute [go_sem] Qfn V.isT
def asE (p:P2 × Int):V × V:=(p.1.enc,.i .i64 p.2)
def fnd (e:P2):List (P2 × Int)->Option (Nat × Int)
 | []=>none
 | (k,n)::r=>if e=k then some (0,n) else (fnd e r).map λp=>(p.1+1,p.2)
theorem veq2 (a b:P2):Z3 [1,1] a.enc.cells b.enc.cells=some (decide (a=b)):=by
 cases a;cases b
 simp[Z3,P2.enc,P2.cs,V.cells,Er,P2.mk.injEq]
 rw[Bool.eq_iff_iff];simp
theorem Q94 (e:P2):∀L:List (P2 × Int),Qh [1,1] e.enc (L.map asE)=some ((fnd e L).map λp=>(p.1,.i .i64 p.2))
 | []=>rfl
 | (k,n)::r=>by
   simp only[List.map_cons,asE,Qh,fnd]
   rw[if_pos (by rfl),veq2]
   by_cases h:e=k
   ·simp[h]
   ·simp only[h,decide_false,if_false]
    have:=Q94 e r
    rw[this]
    cases fnd e r<;>rfl
theorem Q31 {e:P2}:∀{L:List (P2 × Int)},fnd e L=none↔∀p∈L,p.1≠e
 | []=>by simp[fnd]
 | (k,n)::r=>by
   simp only[fnd]
   by_cases h:e=k
   ·simp[h]
   ·have h':¬ k=e:=λhh=>h hh.symm
    rw[if_neg h,Option.map_eq_none_iff,Q31 (L:=r)]
    simp[h']
theorem Q6i {e:P2} {n:Int}:∀{L:List (P2 × Int)},fnd e L=none->fnd e (L++[(e,n)])=some (L.length,n)
 | [],_=>by simp[fnd]
 | (k,m)::r,h=>by
   simp only[fnd]at h
   by_cases hk:e=k
   ·simp[hk]at h
   ·simp only[hk,if_false,Option.map_eq_none_iff]at h
    simp[fnd,hk,Q6i h]
theorem Kg {e:P2} {i:Nat} {n n':Int}:∀{L:List (P2 × Int)},fnd e L=some (i,n)->L[i]?=some (e,n)/\fnd e (L.set i (e,n'))=some (i,n')
 | [],h=>by simp[fnd]at h
 | (k,m)::r,h=>by
   simp only[fnd]at h
   by_cases hk:e=k
   ·simp[hk]at h;obtain⟨rfl,rfl⟩:=h;simp[fnd,hk]
   ·simp only[hk,if_false,qa,Prod.mk.injEq]at h
    obtain⟨⟨j,n1⟩,hj,rfl,rfl⟩:=h
    have:=Kg (n':=n') hj
    simp[fnd,hk,this.1,this.2]
def Jh (t:T3):List P2:=[⟨t.a,t.b⟩,⟨t.b,t.c⟩,⟨t.c,t.a⟩]
def Zs (t:T3) (k:Nat):List P2:=((Jh t).take k).filter λe=>decide (e.x≠e.y)
def Q5 (t:T3):List P2:=Zs t 3
def Km (P:Program) (f:FuncId):Prop:=∀t:T3,CallIs P f [t.enc] (psV (Q5 t))
theorem Qhw (p:P2):(∀y∈p.cs,y.isD=true)=True:=by simp[P2.cs,V.isD]
theorem Qhx (t:P2) (n:Nat):(∀y∈t.cs,y.cl n=true)=True:=by simp[P2.cs,V.cl,V.cl1,V.cl0]
theorem Qjz (t:T3):Zs t 0=[]:=rfl
theorem Qju (x y:Int) (l:List P2):(l++[(⟨x,y⟩:P2)]).filter (λe=>decide (e.x≠e.y))=if x=y then l.filter (λe=>decide (e.x≠e.y)) else l.filter (λe=>decide (e.x≠e.y))++[⟨x,y⟩]:=by
 rw[List.filter_append]
 by_cases h:x=y<;>simp[h]
theorem Qjy (t:T3):Zs t 1=if t.a=t.b then Zs t 0 else Zs t 0++[⟨t.a,t.b⟩]:=Qju t.a t.b []
theorem Qjx (t:T3):Zs t 2=if t.b=t.c then Zs t 1 else Zs t 1++[⟨t.b,t.c⟩]:=Qju t.b t.c [⟨t.a,t.b⟩]
theorem Qjw (t:T3):Zs t 3=if t.c=t.a then Zs t 2 else Zs t 2++[⟨t.c,t.a⟩]:=Qju t.c t.a [⟨t.a,t.b⟩,⟨t.b,t.c⟩]
theorem Y2 (t:T3) (k:Nat):(Zs t k).length<=3:=by
 refine Nat.le_trans (j8 _ _) ?_
 simp[Jh];omega
section
variable {P:Program} (hm:P.follows .mixedOrders=true)
include hm
theorem Kr {f:FuncId} (hf:Qb P f L0h.c L0h.r L0h.n):Km P f:=by
 intro t
 refine PureC.is (Q9 hm hf (qh rfl) ?_) rfl
 unfold L0h.c
 simp[go_sem,T3.enc,T3.cs]
 have w1:IntKind.i64.wrap 1=1:=rfl
 have w2:IntKind.i64.wrap 2=2:=rfl
 have w3:IntKind.i64.wrap 3=3:=rfl
 refine Zv [.t 3 2] (α:=Nat) (λk=>k<=3)
  (λk=>⟨[(3,.own 1 ((Zs t k).length+1) 0 (Zs t k).length),(21,.a [.i .i64 t.a,.i .i64 t.b,.i .i64 t.b,.i .i64 t.c,.i .i64 t.c,.i .i64 t.a]),(22,.i .i64 k)],
   [.dead,.arr ((Zs t k).length+1) 2 ((Zs t k).map P2.cs)]⟩)
  (λk=>3-k) 0 (by omega) ?_ ?_
 ·simp[go_sem,Qjz]
 ·intro k hk
  have hl:=Y2 t k
  by_cases h3:k=3
  ·subst h3
   simp[go_sem,L0h.r,psV,Q5,Qhw]
  ·have:k=0∨k=1∨k=2:=by omega
   rcases this with rfl | rfl | rfl
   ·have hs:=Qjy t
    generalize hE:Zs t 0=E0 at hs hl
    by_cases h:t.a=t.b
    ·rw[if_pos h]at hs
     simp[go_sem,h,w1,w2,w3]
     exact⟨1,by omega,by omega,by simp[hs],by simp[hs],by simp[Qhx]⟩
    ·rw[if_neg h]at hs
     simp[go_sem,h,w1,w2,w3]
     exact⟨by omega,1,by omega,by omega,by simp[hs],by simp[hs,pcs,or_imp,forall_and,V.cl,V.cl1,V.cl0]⟩
   ·have hs:=Qjx t
    generalize hE:Zs t 1=E0 at hs hl
    by_cases h:t.b=t.c
    ·rw[if_pos h]at hs
     simp[go_sem,h,w1,w2,w3]
     exact⟨2,by omega,by omega,by simp[hs],by simp[hs],by simp[Qhx]⟩
    ·rw[if_neg h]at hs
     simp[go_sem,h,w1,w2,w3]
     exact⟨by omega,2,by omega,by omega,by simp[hs],by simp[hs,pcs,or_imp,forall_and,V.cl,V.cl1,V.cl0]⟩
   ·have hs:=Qjw t
    generalize hE:Zs t 2=E0 at hs hl
    by_cases h:t.c=t.a
    ·rw[if_pos h]at hs
     simp[go_sem,h,w1,w2,w3]
     exact⟨3,by omega,by omega,by simp[hs],by simp[hs],by simp[Qhx]⟩
    ·rw[if_neg h]at hs
     simp[go_sem,h,w1,w2,w3]
     exact⟨by omega,3,by omega,by omega,by simp[hs],by simp[hs,pcs,or_imp,forall_and,V.cl,V.cl1,V.cl0]⟩
end
def Qa (l:List T3):List P2:=l.flatMap Q5
def Xw (l:List T3):Bool:=decide (Qa l).Nodup
def Qlj (P:Program) (f:FuncId):Prop:=∀l:List T3,l.length<=1000000->CallIs P f [tsV l] (.b (Xw l))
def asV (p:P2 × Int):V × V:=(.a [.i .i64 p.1.x,.i .i64 p.1.y],.i .i64 p.2)
theorem Yu (e:P2) (L:List (P2 × Int)):Qh [1,1] (.a [.i .i64 e.x,.i .i64 e.y]) (L.map asV)=some ((fnd e L).map λp=>(p.1,.i .i64 p.2)):=Q94 e L
def Xg (S:List P2):List (P2 × Int):=S.map λe=>(e,1)
theorem Ue {e:P2} {S:List P2} (h:e∉S):fnd e (Xg S)=none:=by
 rw[Q31]
 intro p hp
 simp only[Xg,qp]at hp
 obtain⟨a,ha,rfl⟩:=hp
 rintro rfl
 exact h ha
theorem Ud {e:P2}:∀{S:List P2},e∈S->∃i,fnd e (Xg S)=some (i,1)
 | [],h=>by simp at h
 | a::S,h=>by
   by_cases ha:e=a
   ·exact⟨0,by simp[Xg,fnd,ha]⟩
   ·have:e∈S:=by simpa[ha]using h
    obtain⟨i,hi⟩:=Ud this
    exact⟨i+1,by simp only[Xg,List.map_cons,fnd,if_neg ha];rw[show S.map (λe=>(e,(1:Int)))=Xg S from rfl,hi];rfl⟩
theorem Qi1 (S:List P2) (e:P2):Xg (S++[e])=Xg S++[(e,1)]:=by simp[Xg]
theorem Zi (L:List (P2 × Int)) (n:Nat):∀(a b:V) (x:P2) (y:Int),(x,y)∈L->asV (x,y)=(a,b)->V.cl n a=true/\V.cl n b=true:=by
 rintro _ _ x y _ h
 simp only[asV,Prod.mk.injEq]at h
 obtain⟨rfl,rfl⟩:=h
 exact⟨rfl,rfl⟩
theorem X6 {l:List T3} {k:Nat} {t:T3} (h:l[k]?=some t):Qa (l.take (k+1))=Qa (l.take k)++Q5 t:=by
 simp[Qa,List.take_add_one,h]
theorem Wo (l:List T3) (k:Nat):(Qa (l.take k)).length<=3*k:=by
 induction k with
 | zero=>simp[Qa]
 | succ k ih =>
   by_cases hk:k<l.length
   ·rw[X6 (q9 hk),j3]
    have:(Q5 l[k]).length<=3:=Y2 _ 3
    omega
   ·rw[qe (by omega)]at ih ⊢;omega
theorem coh_pre {l:List T3} {k:Nat} {S:List P2} (h:S <+: Q5 ((l[k]?).getD ⟨0,0,0⟩)) (hk:k<l.length):Qa (l.take k)++S <+: Qa l:=by
 have h1:l[k]?=some l[k]:=q9 hk
 rw[h1]at h
 obtain⟨r,hr⟩:=h
 have h2:Qa l=Qa (l.take (k+1))++Qa (l.drop (k+1)):=by
  rw[Qa,Qa,Qa,<- List.flatMap_append,List.take_append_drop]
 rw[h2,X6 h1,show Q5 l[k]=S++r from hr.symm]
 exact⟨r++Qa (l.drop (k+1)),by simp⟩
section
variable {P:Program} (hm:P.follows .mixedOrders=true)
include hm
theorem Us {f fe:FuncId} (hf:Qb P f (L0g.c fe) L0g.r L0g.n) (he:Km P fe):Qlj P f:=by
 intro l hl
 refine PureC.is (Q9 hm hf (qh rfl) ?_) rfl
 unfold L0g.c
 simp[go_sem,tsV]
 refine Ql (α:=Nat) (λk=>k<=l.length/\(Qa (l.take k)).Nodup)
  (λk=>⟨[(3,.mp 0),(9,tsV l),(10,.i .i64 l.length),(11,.i .i64 k)],[.mp ((Xg (Qa (l.take k))).map asV)]⟩)
  (λk=>l.length-k) 0 ⟨by omega,by simp[Qa]⟩ ?_ ?_
 ·simp[go_sem,tsV,Qa,Xg]
 ·rintro k ⟨hk,hnd⟩
  by_cases hkl:k=l.length
  ·subst hkl
   simp[go_sem,tsV,L0g.r]
   rw[qi]at hnd
   simp[Xw,hnd]
  ·have hlt:k<l.length:=by omega
   have hp:l[k]?=some l[k]:=q9 hlt
   generalize l[k]=t at hp
   obtain⟨_,hp'⟩:=q8.1 hp
   simp[go_sem,tsV,hlt,hp',tcs]
   refine Q6 (he t) ?_
   have hlen:(Q5 t).length<=3:=Y2 t 3
   simp[go_sem,psV]
   refine Ql (α:=Nat) (λj=>j<=(Q5 t).length/\(Qa (l.take k)++(Q5 t).take j).Nodup)
    (λj=>⟨[(3,.mp 0),(9,tsV l),(10,.i .i64 l.length),(11,.i .i64 k),(16,psV (Q5 t)),(17,.i .i64 (Q5 t).length),(18,.i .i64 j)],[.mp ((Xg (Qa (l.take k)++(Q5 t).take j)).map asV)]⟩)
    (λj=>(Q5 t).length-j) 0 ⟨by omega,by simpa using hnd⟩ ?_ ?_
   ·simp[go_sem,tsV,psV]
    exact Zi _ 1
   ·rintro j ⟨hj,hnd2⟩
    by_cases hjl:j=(Q5 t).length
    ·subst hjl
     simp (disch:=omega) [go_sem,tsV,psV,Q3]
     rw[qi]at hnd2
     exact⟨k+1,⟨by omega,by rw[X6 hp];exact hnd2⟩,by omega,by omega,by rw[X6 hp],Zi _ 1⟩
    ·have hjlt:j<(Q5 t).length:=by omega
     have hq:(Q5 t)[j]?=some (Q5 t)[j]:=q9 hjlt
     have htk:(Q5 t).take (j+1)=(Q5 t).take j++[(Q5 t)[j]]:=by rw[List.take_add_one,hq];rfl
     generalize (Q5 t)[j]=e at hq htk
     obtain⟨_,hq'⟩:=q8.1 hq
     have hpre:=coh_pre (l:=l) (k:=k) (S:=(Q5 t).take (j+1)) (by rw[hp];exact List.take_prefix _ _) hlt
     rw[htk,<- j2]at hpre
     generalize hS:Qa (l.take k)++(Q5 t).take j=S at hnd2 hpre
     by_cases hmem:e∈S
     ·obtain⟨i,hi⟩:=Ud hmem
      have h1:=Yu e (Xg S)
      rw[hi]at h1
      simp only[Option.map_some]at h1
      have h3:Qh [1,1] (V.a [V.i IntKind.i64 e.x,V.i IntKind.i64 e.y]) ((List.map asV (Xg S)).set i (V.a [V.i .i64 e.x,V.i .i64 e.y],V.i .i64 2))=some (some (i,.i .i64 2)):=by
       have:=Yu e ((Xg S).set i (e,2))
       rw[(Kg (n':=2) hi).2,List.map_set]at this
       exact this
      have hil:i<(Xg S).length:=(q8.1 (Kg (n':=2) hi).1).1
      have hil':i<(List.map asV (Xg S)).length:=by simpa using hil
      have w2:IntKind.i64.wrap 2=2:=rfl
      simp[go_sem,psV,hjlt,hq',pcs,h1,h3,w2,qn hil',List.set_set,L0g.r]
      unfold Xw
      rw[decide_eq_false]
      intro hall
      have:=hall.sublist hpre.sublist
      rw[List.nodup_append]at this
      exact this.2.2 e hmem e (by simp) rfl
     ·have h1:=Yu e (Xg S)
      rw[Ue hmem]at h1
      simp only[Option.map_none]at h1
      have w1:IntKind.i64.wrap 1=1:=rfl
      have h3:Qh [1,1] (V.a [V.i IntKind.i64 e.x,V.i IntKind.i64 e.y]) (List.map asV (Xg S)++[(V.a [V.i .i64 e.x,V.i .i64 e.y],V.i .i64 1)])=some (some ((Xg S).length,.i .i64 1)):=by
       have:=Yu e (Xg S++[(e,1)])
       rw[Q6i (Ue hmem),qx]at this
       exact this
      simp[go_sem,psV,hjlt,hq',pcs,h1,h3,w1]
      have hS1:Qa (l.take k)++(Q5 t).take (j+1)=S++[e]:=by rw[htk,<- j2,hS]
      refine⟨j+1,⟨by omega,?_⟩,by omega,⟨.inr rfl,Q3 (by omega) (by omega)⟩,?_,Zi _ 1⟩
      ·rw[hS1,List.nodup_append]
       exact⟨hnd2,by simp,λa ha b hb=>by simp at hb;subst hb;rintro rfl;exact hmem ha⟩
      ·rw[hS1,Qi1,qx];rfl
end
end Go.Abs
