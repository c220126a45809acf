/- Part of the library on which the proof stands: an abstract machine, its values and its soundness against the model; or what functions of the program do to such values. -/
import Derived.Test.YtnaehggpjfdenaaGreatGoRevC
import Derived.Test.YtnaehggpjfdenaaGreatAbsSS
import Derived.Test.YtnaehggpjfdenaaGreatGoStB
set_option linter.unusedVariables false
set_option linter.unusedSimpArgs false
set_option maxHeartbeats 4000000
namespace Go.Abs
structure Rn where
 a:Int
 b:Int
deriving DecidableEq
structure Rw where
 y:Int
 rs:List Rn
deriving DecidableEq
def Qa (l:List Rn) (x:Int):Prop:=∃r∈l,r.a<=x/\x<r.b
instance (l:List Rn) (x:Int):Decidable (Qa l x):=by unfold Qa;infer_instance
def RnsV (l:List Rn):Prop:=(∀r∈l,r.a<r.b)/\l.Pairwise λr s=>r.b<s.a
theorem RnsV.nil:RnsV []:=⟨by simp,List.Pairwise.nil⟩
theorem RnsV.tail {r:Rn} {l:List Rn} (h:RnsV (r::l)):RnsV l:=⟨λs hs=>h.1 s (by simp[hs]),(j9.1 h.2).2⟩
theorem Qj (x:Int):¬ Qa [] x:=by simp[Qa]
theorem inRns_cons {r:Rn} {l:List Rn} {x:Int}:Qa (r::l) x↔(r.a<=x/\x<r.b)∨Qa l x:=by simp[Qa]
theorem Yf {l k:List Rn} {x:Int}:Qa (l++k) x↔Qa l x∨Qa k x:=by
 simp only[Qa,qg]
 constructor
 ·rintro⟨r,h | h,h2⟩
  ·exact .inl ⟨r,h,h2⟩
  ·exact .inr ⟨r,h,h2⟩
 ·rintro (⟨r,h,h2⟩ | ⟨r,h,h2⟩)
  ·exact⟨r,.inl h,h2⟩
  ·exact⟨r,.inr h,h2⟩
theorem RnsV.behind {r:Rn} {l:List Rn} (h:RnsV (r::l)) {x:Int} (hx:Qa l x):r.b<x:=by
 obtain⟨s,hs,h1,h2⟩:=hx
 have:=(j9.1 h.2).1 s hs
 omega
theorem RnsV.ext:∀{l k:List Rn},RnsV l->RnsV k->(∀x,Qa l x↔Qa k x)->l=k
 | [],[],_,_,_=>rfl
 | [],r::k,_,hk,h=>by
   have hr:=hk.1 r (by simp)
   exact absurd ((h r.a).2 (inRns_cons.2 (.inl ⟨by omega,hr⟩))) (Qj _)
 | r::l,[],hl,_,h=>by
   have hr:=hl.1 r (by simp)
   exact absurd ((h r.a).1 (inRns_cons.2 (.inl ⟨by omega,hr⟩))) (Qj _)
 | r::l,s::k,hl,hk,h=>by
   have hr:=hl.1 r (by simp)
   have hs:=hk.1 s (by simp)
   have ea:r.a=s.a:=by
    have h1:=(h r.a).1 (inRns_cons.2 (.inl ⟨by omega,hr⟩))
    have h2:=(h s.a).2 (inRns_cons.2 (.inl ⟨by omega,hs⟩))
    rcases inRns_cons.1 h1 with h1 | h1
    ·rcases inRns_cons.1 h2 with h2 | h2
     ·omega
     ·have:=hl.behind h2;omega
    ·have:=hk.behind h1
     rcases inRns_cons.1 h2 with h2 | h2
     ·omega
     ·have:=hl.behind h2;omega
   have nb:∀{r:Rn} {l:List Rn},RnsV (r::l)->¬ Qa (r::l) r.b:=by
    intro r l hl hh
    rcases inRns_cons.1 hh with h1 | h1
    ·omega
    ·have:=hl.behind h1;omega
   have eb:r.b=s.b:=by
    have n1:=nb hl
    have n2:=nb hk
    refine j7 λhne=>?_
    by_cases hlt:r.b<s.b
    ·exact n1 ((h r.b).2 (inRns_cons.2 (.inl ⟨by omega,hlt⟩)))
    ·exact n2 ((h s.b).1 (inRns_cons.2 (.inl ⟨by omega,by omega⟩)))
   have e:r=s:=by cases r;cases s;simp_all
   subst e
   rw[RnsV.ext hl.tail hk.tail λx=>?_]
   constructor
   ·intro hx
    have hb:=hl.behind hx
    rcases inRns_cons.1 ((h x).1 (inRns_cons.2 (.inr hx))) with h1 | h1
    ·omega
    ·exact h1
   ·intro hx
    have hb:=hk.behind hx
    rcases inRns_cons.1 ((h x).2 (inRns_cons.2 (.inr hx))) with h1 | h1
    ·omega
    ·exact h1
theorem Qdi {α:Type} (f:α->Int):∀{l k:List α},l.Pairwise (λa b=>f a<f b)->k.Pairwise (λa b=>f a<f b)->(∀a,a∈l↔a∈k)->l=k
 | [],[],_,_,_=>rfl
 | [],y::k,_,_,h=>by have:=(h y).2 (by simp);simp at this
 | x::l,[],_,_,h=>by have:=(h x).1 (by simp);simp at this
 | x::l,y::k,h1,h2,h=>by
   have p1:=j9.1 h1
   have p2:=j9.1 h2
   have hxy:x=y:=by
    rcases List.mem_cons.1 ((h x).1 (by simp)) with h3 | h3
    ·exact h3
    ·rcases List.mem_cons.1 ((h y).2 (by simp)) with h4 | h4
     ·exact h4.symm
     ·have:=p2.1 x h3;have:=p1.1 y h4;omega
   subst hxy
   rw[Qdi f p1.2 p2.2 λa=>?_]
   constructor
   ·intro ha
    rcases List.mem_cons.1 ((h a).1 (by simp[ha])) with h3 | h3
    ·subst h3;have:=p1.1 a ha;omega
    ·exact h3
   ·intro ha
    rcases List.mem_cons.1 ((h a).2 (by simp[ha])) with h3 | h3
    ·subst h3;have:=p2.1 a ha;omega
    ·exact h3
def Zx (g:List Rw) (y x:Int):Prop:=∃w∈g,w.y=y/\Qa w.rs x
structure RgV (g:List Rw):Prop where
 rs:∀w∈g,RnsV w.rs
 ne:∀w∈g,w.rs≠[]
 asc:g.Pairwise λu v=>u.y<v.y
theorem RgV.nil:RgV []:=⟨by simp,by simp,List.Pairwise.nil⟩
theorem RgV.uniq {g:List Rw} (h:RgV g) {u v:Rw} (hu:u∈g) (hv:v∈g) (he:u.y=v.y):u=v:=by
 obtain⟨i,hi,rfl⟩:=List.mem_iff_getElem.1 hu
 obtain⟨j,hj,rfl⟩:=List.mem_iff_getElem.1 hv
 have hp:=j4.1 h.asc
 by_cases h1:i<j
 ·have:=hp i j hi hj h1;omega
 ·by_cases h2:j<i
  ·have:=hp j i hj hi h2;omega
  ·obtain rfl:i=j:=by omega
   rfl
theorem RgV.row {g:List Rw} (h:RgV g) {w:Rw} (hw:w∈g) (x:Int):Zx g w.y x↔Qa w.rs x:=by
 constructor
 ·rintro⟨v,hv,he,hx⟩
  rw[h.uniq hw hv he.symm];exact hx
 ·intro hx;exact⟨w,hw,rfl,hx⟩
theorem RnsV.some {l:List Rn} (h:RnsV l) (hn:l≠[]):∃x,Qa l x:=by
 cases l with
 | nil=>exact absurd rfl hn
 | cons r l=>exact⟨r.a,inRns_cons.2 (.inl ⟨Int.le_refl _,h.1 r (by simp)⟩)⟩
theorem RgV.ext {g k:List Rw} (hg:RgV g) (hk:RgV k) (h:∀y x,Zx g y x↔Zx k y x):g=k:=by
 have key:∀{g k:List Rw},RgV g->RgV k->(∀y x,Zx g y x↔Zx k y x)->∀w,w∈g->w∈k:=by
  intro g k hg hk h w hw
  obtain⟨x,hx⟩:=(hg.rs w hw).some (hg.ne w hw)
  obtain⟨v,hv,he,_⟩:=(h w.y x).1 ⟨w,hw,rfl,hx⟩
  have:w.rs=v.rs:=(hg.rs w hw).ext (hk.rs v hv) λx=>by
   rw[<- hg.row hw,<- hk.row hv,he];exact h w.y x
  have e:w=v:=by cases w;cases v;simp_all
  rw[e];exact hv
 exact Qdi Rw.y hg.asc hk.asc λw=>⟨key hg hk h w,key hk hg (λy x=>(h y x).symm) w⟩
def Ip (l:List Rn) (x:Int):List Rn :=
 match l.getLast? with
 | some r=>if r.b=x then l.dropLast++[⟨r.a,x+1⟩] else l++[⟨x,x+1⟩]
 | none=>[⟨x,x+1⟩]
theorem Qj5 (x:Int):Ip [] x=[⟨x,x+1⟩]:=rfl
theorem Qj6 (l:List Rn) (r:Rn) (x:Int):Ip (l++[r]) x=if r.b=x then l++[⟨r.a,x+1⟩] else l++[r]++[⟨x,x+1⟩]:=by
 unfold Ip;simp
theorem RnsV.snoc {l:List Rn} {s:Rn}:RnsV (l++[s])↔RnsV l/\s.a<s.b/\∀r∈l,r.b<s.a:=by
 unfold RnsV
 rw[jc]
 constructor
 ·rintro⟨h1,h2,_,h3⟩
  exact⟨⟨λr hr=>h1 r (by simp[hr]),h2⟩,h1 s (by simp),λr hr=>h3 r hr s (by simp)⟩
 ·rintro⟨⟨h1,h2⟩,h3,h4⟩
  refine⟨λr hr=>?_,h2,by simp,λr hr s' hs=>?_⟩
  ·rcases qg.1 hr with hr | hr
   ·exact h1 r hr
   ·rw[qn.1 hr];exact h3
  ·rw[qn.1 hs];exact h4 r hr
theorem Ji {α:Type} (l:List α):l=[]∨∃k r,l=k++[r]:=by
 rcases List.eq_nil_or_concat l with h | ⟨k,r,h⟩
 ·exact .inl h
 ·exact .inr ⟨k,r,by simpa using h⟩
theorem Qmu {l:List Rn} {x:Int} (h:RnsV l) (hb:∀r∈l,r.b<=x):RnsV (Ip l x)/\(∀r∈Ip l x,r.b<=x+1)/\∀y,Qa (Ip l x) y↔Qa l y∨y=x:=by
 rcases Ji l with rfl | ⟨k,r,rfl⟩
 ·rw[Qj5]
  refine⟨⟨by simp;omega,by simp⟩,by simp,λy=>?_⟩
  simp only[inRns_cons,Qj,or_false,false_or]
  omega
 ·obtain⟨h1,h2,h3⟩:=RnsV.snoc.1 h
  have hr:=hb r (by simp)
  rw[Qj6]
  by_cases he:r.b=x
  ·rw[if_pos he]
   refine⟨RnsV.snoc.2 ⟨h1,by simp only[];omega,λs hs=>h3 s hs⟩,λs hs=>?_,λy=>?_⟩
   ·rcases qg.1 hs with hs | hs
    ·have:=hb s (by simp[hs]);omega
    ·rw[qn.1 hs];exact Int.le_refl _
   ·simp only[Yf,inRns_cons,Qj,or_false]
    by_cases hk:Qa k y<;>simp only[hk,true_or,false_or,or_true]<;>omega
  ·rw[if_neg he]
   refine⟨RnsV.snoc.2 ⟨h,by simp only[];omega,λs hs=>?_⟩,λs hs=>?_,λy=>?_⟩
   ·rcases qg.1 hs with hs | hs
    ·have:=h3 s hs;simp only[];omega
    ·rw[qn.1 hs];simp only[];omega
   ·rcases qg.1 hs with hs | hs
    ·have:=hb s hs;omega
    ·rw[qn.1 hs];exact Int.le_refl _
   ·simp only[Yf,inRns_cons,Qj,or_false]
    by_cases hk:Qa k y<;>simp only[hk,true_or,false_or,or_true]<;>omega
theorem Q51:∀(xs:List Int) {l:List Rn},RnsV l->xs.Pairwise (·<·)->(∀r∈l,∀x∈xs,r.b<=x)->RnsV (xs.foldl Ip l)/\∀y,Qa (xs.foldl Ip l) y↔Qa l y∨y∈xs
 | [],l,h,_,_=>⟨h,λy=>by simp⟩
 | x::xs,l,h,ha,hb=>by
   obtain⟨h1,h2,h3⟩:=Qmu h (λr hr=>hb r hr x (by simp))
   obtain⟨a1,a2⟩:=j9.1 ha
   obtain⟨g1,g2⟩:=Q51 xs h1 a2 (λr hr y hy=>by have:=h2 r hr;have:=a1 y hy;omega)
   refine⟨g1,λy=>?_⟩
   rw[List.foldl_cons,g2,h3,List.mem_cons]
   constructor
   ·rintro ((h | h) | h)
    ·exact .inl h
    ·exact .inr (.inl h)
    ·exact .inr (.inr h)
   ·rintro (h | h | h)
    ·exact .inl (.inl h)
    ·exact .inl (.inr h)
    ·exact .inr h
theorem Q4z:∃l:List Int,(∀x,x∈l↔-4096<=x/\x<4096)/\l.Pairwise (·<·):=by
 refine⟨(List.range 8192).map λi:Nat=>(i:Int)-4096,λx=>?_,?_⟩
 ·rw[qo]
  constructor
  ·rintro⟨i,hi,rfl⟩
   have:=qy.1 hi;omega
  ·rintro⟨h1,h2⟩
   exact⟨(x+4096).toNat,qy.2 (by omega),by omega⟩
 ·rw[je]
  exact List.pairwise_lt_range.imp λh=>by omega
noncomputable def gridL:List Int:=Classical.choose Q4z
theorem mem_gridL {x:Int}:x∈gridL↔-4096<=x/\x<4096:=(Classical.choose_spec Q4z).1 x
theorem gridL_asc:gridL.Pairwise (·<·):=(Classical.choose_spec Q4z).2
noncomputable def Q13 (p:Int->Bool):List Rn:=(gridL.filter p).foldl Ip []
theorem Qqp (p:Int->Bool):RnsV (Q13 p):=(Q51 _ RnsV.nil (gridL_asc.filter p) (by simp)).1
theorem in_canonL {p:Int->Bool} {x:Int}:Qa (Q13 p) x↔(-4096<=x/\x<4096)/\p x=true:=by
 unfold Q13
 rw[(Q51 _ RnsV.nil (gridL_asc.filter p) (by simp)).2,qu,mem_gridL]
 simp[Qj]
noncomputable def J6 (p:Int->Int->Bool):List Rw:=(gridL.map λy=>Rw.mk y (Q13 (p y))).filter λw=>decide (w.rs≠[])
theorem Bt (p:Int->Int->Bool):RgV (J6 p) where
 rs w hw:=by
  unfold J6 at hw
  obtain⟨h1,_⟩:=qu.1 hw
  obtain⟨y,_,rfl⟩:=qo.1 h1
  exact Qqp _
 ne w hw:=by
  unfold J6 at hw
  simpa using(qu.1 hw).2
 asc:=by
  unfold J6
  refine List.Pairwise.filter _ ?_
  rw[je]
  exact gridL_asc
theorem in_canonR {p:Int->Int->Bool} {y x:Int}:Zx (J6 p) y x↔(-4096<=y/\y<4096)/\(-4096<=x/\x<4096)/\p y x=true:=by
 constructor
 ·rintro⟨w,hw,rfl,hx⟩
  unfold J6 at hw
  obtain⟨h1,_⟩:=qu.1 hw
  obtain⟨y,hy,rfl⟩:=qo.1 h1
  obtain⟨h2,h3⟩:=in_canonL.1 hx
  exact⟨mem_gridL.1 hy,h2,h3⟩
 ·rintro⟨hy,hx,hp⟩
  have hin:Qa (Q13 (p y)) x:=in_canonL.2 ⟨hx,hp⟩
  unfold J6
  refine⟨⟨y,Q13 (p y)⟩,qu.2 ⟨qo.2 ⟨y,mem_gridL.2 hy,rfl⟩,?_⟩,rfl,hin⟩
  simp only[decide_eq_true_eq]
  intro h0
  rw[h0]at hin
  exact Qj _ hin
def RgB (g:List Rw):Prop:=∀y x,Zx g y x->(-4096<=y/\y<4096)/\-4096<=x/\x<4096
theorem Q59 (p:Int->Int->Bool):RgB (J6 p):=λy x h=>by
 obtain⟨h1,h2,_⟩:=in_canonR.1 h
 exact⟨h1,h2⟩
theorem Q7y {g:List Rw} (h:RgV g) {p:Int->Int->Bool} (hp:∀y x,Zx g y x↔(-4096<=y/\y<4096)/\(-4096<=x/\x<4096)/\p y x=true):g=J6 p :=
 h.ext (Bt p) λy x=>by rw[hp,in_canonR]
theorem RgB.run {g:List Rw} (h:RgV g) (hb:RgB g) {w:Rw} (hw:w∈g) {r:Rn} (hr:r∈w.rs):(-4096<=w.y/\w.y<4096)/\-4096<=r.a/\r.a<r.b/\r.b<=4096:=by
 have hab:=(h.rs w hw).1 r hr
 have h1:=hb w.y r.a ⟨w,hw,rfl,r,hr,Int.le_refl _,hab⟩
 have h2:=hb w.y (r.b-1) ⟨w,hw,rfl,r,hr,by omega,by omega⟩
 omega
noncomputable def Xq (g k:List Rw):List Rw:=open Classical in J6 λy x=>decide (Zx g y x∨Zx k y x)
theorem Q34 {g k:List Rw} (hg:RgB g) (hk:RgB k) {y x:Int}:Zx (Xq g k) y x↔Zx g y x∨Zx k y x:=by
 unfold Xq
 rw[in_canonR]
 constructor
 ·rintro⟨_,_,h⟩;simpa using h
 ·intro h
  have hb:(-4096<=y/\y<4096)/\-4096<=x/\x<4096:=by
   rcases h with h | h
   ·exact hg y x h
   ·exact hk y x h
  exact⟨hb.1,hb.2,by simpa using h⟩
theorem Wg (g k:List Rw):RgV (Xq g k):=Bt _
theorem Qe2 (g k:List Rw):RgB (Xq g k):=Q59 _
theorem RgB.nil:RgB []:=λy x h=>by obtain⟨w,hw,_⟩:=h;simp at hw
theorem Qb7 {g:List Rw} (hg:RgV g) (hb:RgB g):Xq [] g=g :=
 (Wg [] g).ext hg λy x=>by
  rw[Q34 RgB.nil hb]
  constructor
  ·rintro (⟨w,hw,_⟩ | h)
   ·simp at hw
   ·exact h
  ·exact .inr
def Qgv (P:Program) (f:FuncId):Prop:=CallIs P f [] (.b true)
theorem par_0 {us:List V} (h:K8 [] us):us=[]:=h
def Qgt (P:Program) (f:FuncId) (sz:Nat):Prop:=∀els:List (List V),els.all (λel=>el.all V.isD)=true->els.length<=1000000->NewC P f [.l sz els] (λr h=>r=.own 0 1 0 els.length/\h=[.arr 1 sz els])
theorem Kz {x:V} (n:Nat) (h:x.isD=true):x.cl n=true:=by cases x<;>simp[V.isD]at h<;>simp[V.cl,V.cl1,V.cl0]
section
variable {P:Program} (hm:P.follows .mixedOrders=true)
include hm
theorem Q09 {f:FuncId} (hf:Q9 P f L22.c L22.r L22.n):Qgt P f 3:=by
 intro els hel hlen
 refine Qdw 3 ?_
 refine Qno hm hf (qh rfl) ?_
 unfold L22.c
 cases els with
 | nil=>simp[go_sem,L22.r]
 | cons e l =>
   simp only[List.length_cons]at hlen
   simp[go_sem,L22.r]
   simp only[List.all_cons,Bool.and_eq_true,qj]at hel
   exact⟨⟨by omega,by omega⟩,λx hx=>Kz 1 (hel.1 x hx),λa ha x hx=>Kz 1 (hel.2 a ha x hx)⟩
end
def Qjb:List Sch:=[.i .i64,.i .i64,.i .i64]
def schM:List Sch:=[.sl Qjb,.sl Qjb]
theorem v3_of {e:List V} (h:okL Qjb e):∃v:V3,e=v.cs:=by
 simp only[Qjb,okL,Sch.ok]at h
 obtain⟨v1,r1,rfl,⟨x,rfl,_⟩,v2,r2,rfl,⟨y,rfl,_⟩,v3,r3,rfl,⟨z,rfl,_⟩,rfl⟩:=h
 exact⟨⟨x,y,z⟩,rfl⟩
theorem t3_of {e:List V} (h:okL Qjb e):∃v:T3,e=v.cs:=by
 simp only[Qjb,okL,Sch.ok]at h
 obtain⟨v1,r1,rfl,⟨x,rfl,_⟩,v2,r2,rfl,⟨y,rfl,_⟩,v3,r3,rfl,⟨z,rfl,_⟩,rfl⟩:=h
 exact⟨⟨x,y,z⟩,rfl⟩
theorem Q33 {α:Type} {f:α->List V} {el:List Sch} (hf:∀e,okL el e->∃v,e=f v):∀els:List (List V),(∀e∈els,okL el e)->∃l:List α,els=l.map f
 | [],_=>⟨[],rfl⟩
 | e::els,h=>by
   obtain⟨l,rfl⟩:=Q33 hf els (λe he=>h e (by simp[he]))
   obtain⟨v,rfl⟩:=hf e (h e (by simp))
   exact⟨v::l,rfl⟩
structure P2 where
 x:Int
 y:Int
deriving DecidableEq
def P2.cs (p:P2):List V:=[.i .i64 p.x,.i .i64 p.y]
def P2.enc (p:P2):V:=.a p.cs
def psV (l:List P2):V:=.l 2 (l.map P2.cs)
theorem pcs (p:P2):p.cs=[.i .i64 p.x,.i .i64 p.y]:=Rfl rfl
def inI (n:Int):Bool:=decide (-9223372036854775808<=n) && decide (n<=9223372036854775807)
def Q4o (m:Mesh) (e:Int):V:=.t [m.enc,.i .i64 e]
def Q4n:Mesh:=⟨[],[]⟩
theorem mesV_le {u v:V} {vs:List V3} {ts:List T3} {e:Int} (h1:Le0 u (vsV vs)) (h2:Le0 v (tsV ts)):Le (.t [.a [u,v],.i .i64 e]) (Q4o ⟨vs,ts⟩ e) :=
 .inr ⟨_,_,rfl,rfl,.inr ⟨_,_,rfl,rfl,h1,h2,trivial⟩,Le1.refl _,trivial⟩
theorem Q7c (e:Int):Le (.t [.a [.nil,.nil],.i .i64 e]) (Q4o Q4n e):=mesV_le (Le0.nil 3) (Le0.nil 3)
def Qgp (P:Program) (f:FuncId):Prop:=∀l:List V3,l.length<=1000000->CallIs P f [vsV l] (.b (Jl l))
def Qrw (P:Program) (f:FuncId):Prop:=∀v:V3,CallIs P f [v.enc] (.b (v.within 131072))
def V3.plus (a b:V3):V3:=⟨IntKind.i64.wrap (a.x+b.x),IntKind.i64.wrap (a.y+b.y),IntKind.i64.wrap (a.z+b.z)⟩
def Qi5 (P:Program) (f:FuncId):Prop:=∀a b:V3,CallIs P f [a.enc,b.enc] (a.plus b).enc
def V3.add (a b:V3):V3:=⟨a.x+b.x,a.y+b.y,a.z+b.z⟩
def Qe (p s:V3):List V3 :=
 [⟨p.x,p.y,p.z⟩,⟨p.x+s.x,p.y,p.z⟩,⟨p.x,p.y+s.y,p.z⟩,⟨p.x+s.x,p.y+s.y,p.z⟩,⟨p.x,p.y,p.z+s.z⟩,⟨p.x+s.x,p.y,p.z+s.z⟩,⟨p.x,p.y+s.y,p.z+s.z⟩,⟨p.x+s.x,p.y+s.y,p.z+s.z⟩]
def Q1c (P:Program) (f:FuncId):Prop:=∀p s:V3,p.valid=true->s.within 131072=true->CallIs P f [p.enc,s.enc] (.a ((Qe p s).flatMap V3.cs))
theorem within_iff {v:V3} {k:Int}:v.within k=true↔(-k<=v.x/\v.x<=k/\-k<=v.y/\v.y<=k/\-k<=v.z/\v.z<=k):=by
 simp[V3.within,and_assoc]
theorem Qc2 {a b:V3} (h1:a.valid=true) (h2:b.within 131072=true):a.plus b=a.add b:=by
 have:=V3.valid_iff.1 h1
 have:=within_iff.1 h2
 simp only[V3.plus,V3.add]
 rw[Q0 (by omega) (by omega),Q0 (by omega) (by omega),Q0 (by omega) (by omega)]
section
variable {P:Program} (hm:P.follows .mixedOrders=true)
include hm
theorem Q3r {f fv:FuncId} (hf:Q9 P f (L1x.c fv) L1x.r L1x.n) (hv:Ij P fv):Qgp P f:=by
 intro l hl
 refine PureC.is (Q7 hm hf (qh rfl) ?_) rfl
 unfold L1x.c
 simp[go_sem,vsV]
 refine Qi (α:=Nat) (λk=>k<=l.length/\Jl (l.take k)=true)
  (λk=>⟨[(5,vsV l),(6,.i .i64 l.length),(7,.i .i64 k)],[]⟩)
  (λk=>l.length-k) 0 ⟨Nat.zero_le _,rfl⟩ ?_ ?_
 ·simp[go_sem,vsV]
 ·rintro k ⟨hk,hok⟩
  cases hp:l[k]? with
  | none =>
    have:¬ k<l.length:=by simpa using hp
    obtain rfl:k=l.length:=by omega
    rw[qi]at hok
    simp[go_sem,vsV,L1x.r,hok]
  | some p =>
    obtain⟨hlt,hp'⟩:=q8.1 hp
    simp[go_sem,vsV,hlt,hp',vcs]
    refine Q4 (hv p) ?_
    cases hvp:p.valid
    ·simp[go_sem,L1x.r,Q3d hp hvp]
    ·simp (disch:=omega) [go_sem,Q0]
     refine⟨k+1,⟨by omega,?_⟩,by omega,?_⟩
     ·rw[Q6v hp,hok,hvp];rfl
     ·simp (disch:=omega) [go_sem,vsV,Q0]
theorem Q3q {f:FuncId} (hf:Q9 P f L1y.c L1y.r L1y.n):Qrw P f:=by
 intro v
 refine PureC.is (Q7 hm hf (qh rfl) ?_) rfl
 unfold L1y.c
 have hw:=@within_iff v 131072
 by_cases h1:v.x<=131072/\v.y<=131072/\v.z<=131072
 ·have h2:max (max v.x v.y) v.z<=131072:=by omega
  simp +contextual -implicitDefEqProofs [go_sem,V3.enc,V3.cs,L1y.r,h1,h2]
  rw[Bool.eq_iff_iff,hw];simp;omega
 ·have h2:¬ max (max v.x v.y) v.z<=131072:=by omega
  simp +contextual -implicitDefEqProofs [go_sem,V3.enc,V3.cs,L1y.r,h1,h2]
  rw[Bool.eq_iff_iff,hw];simp;omega
theorem Q3p {f:FuncId} (hf:Q9 P f L1z.c L1z.r L1z.n):Qi5 P f:=by
 intro a b
 refine PureC.is (Q7 hm hf (qh rfl) ?_) rfl
 unfold L1z.c
 simp[go_sem,V3.enc,V3.cs,L1z.r,V3.plus]
theorem Iu {f fp:FuncId} (hf:Q9 P f (L1w.c fp) L1w.r L1w.n) (hp:Qi5 P fp):Q1c P f:=by
 intro p s hv hs
 have h1:=V3.valid_iff.1 hv
 have h2:=within_iff.1 hs
 refine PureC.is (Q7 hm hf (qh rfl) ?_) rfl
 unfold L1w.c
 simp[go_sem,V3.enc,V3.cs]
 refine Qi (α:=Nat) (λk=>k<=8)
  (λk=>⟨[(2,.p 0 1 0 0),(3,.p 1 1 0 0),(4,.p 2 1 0 0),(5,.p 3 1 0 0),(7,.i .i64 k)],[.arr 1 3 [p.cs],.arr 1 3 [s.cs],.arr 1 24 [List.replicate 24 (.i .i64 0)],.arr 1 24 [((Qe p s).take k).flatMap V3.cs++List.replicate (24-3*k) (.i .i64 0)]]⟩)
  (λk=>8-k) 0 (by omega) ?_ ?_
 ·simp[go_sem,vcs]
 ·intro k hk
  by_cases h8:k=8
  ·subst h8
   simp[go_sem,L1w.r,Qe,V3.cs]
  ·have:k=0∨k=1∨k=2∨k=3∨k=4∨k=5∨k=6∨k=7:=by omega
   have w0:IntKind.i64.wrap 0=0:=rfl
   have w1:IntKind.i64.wrap 1=1:=rfl
   have wx:IntKind.i64.wrap s.x=s.x:=Q0 (by omega) (by omega)
   have wy:IntKind.i64.wrap s.y=s.y:=Q0 (by omega) (by omega)
   have wz:IntKind.i64.wrap s.z=s.z:=Q0 (by omega) (by omega)
   rcases this with rfl | rfl | rfl | rfl | rfl | rfl | rfl | rfl
   ·simp[go_sem,vcs,w0,w1,wx,wy,wz]
    refine Q4 (hp p ⟨0,0,0⟩) ?_
    simp (disch:=omega) [go_sem,Q0,V3.plus,V3.enc,V3.cs,w0,w1,Qe]
    exact⟨1,by simp[go_sem,V3.cs,or_imp,forall_and,V.cl,V.cl1,V.cl0]⟩
   ·simp[go_sem,vcs,w0,w1,wx,wy,wz]
    refine Q4 (hp p ⟨s.x,0,0⟩) ?_
    simp (disch:=omega) [go_sem,Q0,V3.plus,V3.enc,V3.cs,w0,w1,Qe]
    exact⟨2,by simp[go_sem,V3.cs,or_imp,forall_and,V.cl,V.cl1,V.cl0]⟩
   ·simp[go_sem,vcs,w0,w1,wx,wy,wz]
    refine Q4 (hp p ⟨0,s.y,0⟩) ?_
    simp (disch:=omega) [go_sem,Q0,V3.plus,V3.enc,V3.cs,w0,w1,Qe]
    exact⟨3,by simp[go_sem,V3.cs,or_imp,forall_and,V.cl,V.cl1,V.cl0]⟩
   ·simp[go_sem,vcs,w0,w1,wx,wy,wz]
    refine Q4 (hp p ⟨s.x,s.y,0⟩) ?_
    simp (disch:=omega) [go_sem,Q0,V3.plus,V3.enc,V3.cs,w0,w1,Qe]
    exact⟨4,by simp[go_sem,V3.cs,or_imp,forall_and,V.cl,V.cl1,V.cl0]⟩
   ·simp[go_sem,vcs,w0,w1,wx,wy,wz]
    refine Q4 (hp p ⟨0,0,s.z⟩) ?_
    simp (disch:=omega) [go_sem,Q0,V3.plus,V3.enc,V3.cs,w0,w1,Qe]
    exact⟨5,by simp[go_sem,V3.cs,or_imp,forall_and,V.cl,V.cl1,V.cl0]⟩
   ·simp[go_sem,vcs,w0,w1,wx,wy,wz]
    refine Q4 (hp p ⟨s.x,0,s.z⟩) ?_
    simp (disch:=omega) [go_sem,Q0,V3.plus,V3.enc,V3.cs,w0,w1,Qe]
    exact⟨6,by simp[go_sem,V3.cs,or_imp,forall_and,V.cl,V.cl1,V.cl0]⟩
   ·simp[go_sem,vcs,w0,w1,wx,wy,wz]
    refine Q4 (hp p ⟨0,s.y,s.z⟩) ?_
    simp (disch:=omega) [go_sem,Q0,V3.plus,V3.enc,V3.cs,w0,w1,Qe]
    exact⟨7,by simp[go_sem,V3.cs,or_imp,forall_and,V.cl,V.cl1,V.cl0]⟩
   ·simp[go_sem,vcs,w0,w1,wx,wy,wz]
    refine Q4 (hp p ⟨s.x,s.y,s.z⟩) ?_
    simp (disch:=omega) [go_sem,Q0,V3.plus,V3.enc,V3.cs,w0,w1,Qe]
    exact⟨8,by simp[go_sem,V3.cs,or_imp,forall_and,V.cl,V.cl1,V.cl0]⟩
end
def P2.valid (p:P2):Bool:=decide (-16777216<=p.x) && decide (p.x<=16777216) && decide (-16777216<=p.y) && decide (p.y<=16777216)
theorem P2.valid_iff {p:P2}:p.valid=true↔(-16777216<=p.x/\p.x<=16777216/\-16777216<=p.y/\p.y<=16777216):=by simp[P2.valid,and_assoc]
def Jw (a b c:P2):Int:=(b.x-a.x)*(c.y-a.y)-(b.y-a.y)*(c.x-a.x)
def Qam (P:Program) (f:FuncId):Prop:=∀p:P2,CallIs P f [p.enc] (.b p.valid)
theorem Q0p {a b:Int} {k m:Nat} (ha:-(k:Int)<=a/\a<=k) (hb:-(m:Int)<=b/\b<=m):-((k*m:Nat):Int)<=a*b/\a*b<=(k*m:Nat):=by
 have h1:a.natAbs<=k:=by omega
 have h2:b.natAbs<=m:=by omega
 have h3:=Nat.mul_le_mul h1 h2
 rw[<- Int.natAbs_mul]at h3
 omega
section
variable {P:Program} (hm:P.follows .mixedOrders=true)
include hm
theorem Q2a {f:FuncId} (hf:Q9 P f L0m.c L0m.r L0m.n):Qam P f:=by
 intro p
 refine PureC.is (Q7 hm hf (qh rfl) ?_) rfl
 unfold L0m.c
 simp +contextual -implicitDefEqProofs [go_sem,P2.enc,P2.cs,L0m.r]
 simp[P2.valid,and_assoc]
end
abbrev Eg:=P2 × P2
def Q2x (e:Eg) (p:P2):Int :=
 if e.1.y<=p.y/\p.y<e.2.y/\0<Jw e.1 e.2 p then 1 else if e.2.y<=p.y/\p.y<e.1.y/\Jw e.1 e.2 p<0 then -1 else 0
def wnd (es:List Eg) (p:P2):Int:=(es.map (Q2x · p)).sum
theorem Q79 {a b:List Int} (h:a.Perm b):a.sum=b.sum:=by
 induction h with
 | nil=>rfl
 | cons x _ ih=>simp only[List.sum_cons,ih]
 | swap x y l=>simp only[List.sum_cons];omega
 | trans _ _ h1 h2=>rw[h1,h2]
theorem Qlw {es fs:List Eg} (h:es.Perm fs) (p:P2):wnd es p=wnd fs p:=Q79 (h.map _)
theorem wnd_nil (p:P2):wnd [] p=0:=rfl
theorem Il (e:Eg) (es:List Eg) (p:P2):wnd (e::es) p=Q2x e p+wnd es p:=by simp[wnd]
theorem Qks {e:Eg} (h:e.1=e.2) (p:P2):Q2x e p=0:=by
 unfold Q2x
 rw[h,if_neg (by omega),if_neg (by omega)]
theorem Qlx (p:P2):∀es:List Eg,wnd (es.filter λe=>decide (e.1≠e.2)) p=wnd es p
 | []=>rfl
 | e::es=>by
   rw[List.filter_cons,Il,<- Qlx p es]
   split
   ·rw[Il]
   ·rename_i h
    rw[Qks (by simpa using h)];omega
def Q00 (es:List Eg):Prop:=∀p:P2,es.countP (λe=>decide (e.1=p))=es.countP (λe=>decide (e.2=p))
theorem Qfy (a b p:P2):Jw b a p=- Jw a b p:=by unfold Jw;grind
def EgB (es:List Eg) (k:Int):Prop:=∀e∈es,(-k<=e.1.x/\e.1.x<=k)/\(-k<=e.1.y/\e.1.y<=k)/\(-k<=e.2.x/\e.2.x<=k)/\(-k<=e.2.y/\e.2.y<=k)
def ctr (k y x:Int):P2:=⟨x*k+k / 2,y*k+k / 2⟩
noncomputable def Uw (es:List Eg) (k:Int):List Rw:=J6 λy x=>decide (0<wnd es (ctr k y x))
theorem Qjh {es fs:List Eg} (h:es.Perm fs) (k:Int):Uw es k=Uw fs k:=by
 unfold Uw;congr 1;funext y x;rw[Qlw h]
theorem rasR_ne (es:List Eg) (k:Int):Uw (es.filter λe=>decide (e.1≠e.2)) k=Uw es k:=by
 unfold Uw;congr 1;funext y x;rw[Qlx]
structure E5 where
 lo:P2
 hi:P2
 sg:Int
def I4 (e:Eg):Option E5:=if e.1.y<e.2.y then some ⟨e.1,e.2,1⟩ else if e.2.y<e.1.y then some ⟨e.2,e.1,-1⟩ else none
def Qkn (k cy:Int) (e:E5):Int:=e.lo.x*(e.hi.y-e.lo.y)+(e.hi.x-e.lo.x)*(cy-e.lo.y)-k / 2*(e.hi.y-e.lo.y)
def Q6s (k cy:Int) (e:E5):Int:=- ((- Qkn k cy e) / (k*(e.hi.y-e.lo.y)))
def Qih (k cy:Int) (e:E5):Int × Int:=(Q6s k cy e,e.sg)
def onE (cy:Int) (e:E5):Bool:=decide (e.lo.y<=cy) && decide (cy<e.hi.y)
def Zu (l:List E5) (k cy:Int):List (Int × Int):=(l.filter (onE cy)).map (Qih k cy)
def Yy (ss:List (Int × Int)) (x:Int):Int:=((ss.filter λs=>decide (x<s.1)).map Prod.snd).sum
theorem Jf (x:Int):Yy [] x=0:=rfl
theorem Ks (s:Int × Int) (ss:List (Int × Int)) (x:Int):Yy (s::ss) x=(if x<s.1 then s.2 else 0)+Yy ss x:=by
 unfold Yy
 rw[List.filter_cons]
 by_cases h:x<s.1
 ·simp[h]
 ·simp[h]
theorem Q3o {a b:List (Int × Int)} (h:a.Perm b) (x:Int):Yy a x=Yy b x:=Q79 ((h.filter _).map _)
theorem Qqs {k cy y x:Int} {e:E5} (hk:0<k) (hd:e.lo.y<e.hi.y) (hc:cy=y*k+k / 2):x<Q6s k cy e↔0<Jw e.lo e.hi (ctr k y x):=by
 have hD:0<k*(e.hi.y-e.lo.y):=Int.mul_pos hk (by omega)
 unfold Q6s
 have h1:x < - ((- Qkn k cy e) / (k*(e.hi.y-e.lo.y)))↔(- Qkn k cy e) / (k*(e.hi.y-e.lo.y)) < -x:=by omega
 rw[h1,Int.ediv_lt_iff_lt_mul hD]
 unfold Qkn Jw ctr
 simp only[]
 rw[<- hc]
 generalize k / 2=q
 constructor<;>intro h<;>grind
theorem Qqi {k y x:Int} (hk:0<k) (e:Eg):Q2x e (ctr k y x)=Yy (Zu (I4 e).toList k (y*k+k / 2)) x:=by
 unfold I4 Q2x
 have hcy:(ctr k y x).y=y*k+k / 2:=rfl
 by_cases h1:e.1.y<e.2.y
 ·rw[if_pos h1]
  simp only[Option.toList_some,Zu]
  have hb:=Qqs (x:=x) (y:=y) (e:=⟨e.1,e.2,1⟩) hk h1 rfl
  simp only[]at hb
  by_cases h2:onE (y*k+k / 2) ⟨e.1,e.2,1⟩=true
  ·rw[List.filter_cons,if_pos h2]
   simp only[List.filter_nil,List.map_cons,List.map_nil,Ks,Jf,Qih]
   simp only[onE,Bool.and_eq_true,decide_eq_true_eq]at h2
   by_cases h3:x<Q6s k (y*k+k / 2) ⟨e.1,e.2,1⟩
   ·rw[if_pos ⟨h2.1,h2.2,hb.1 h3⟩,if_pos h3];rfl
   ·rw[if_neg (λhh=>h3 (hb.2 hh.2.2)),if_neg (by rw[hcy];omega),if_neg h3];rfl
  ·rw[List.filter_cons,if_neg h2]
   simp only[List.filter_nil,List.map_nil,Jf]
   simp only[onE,Bool.and_eq_true,decide_eq_true_eq]at h2
   rw[if_neg (by rw[hcy];omega),if_neg (by rw[hcy];omega)]
 ·rw[if_neg h1,if_neg (by omega)]
  by_cases h4:e.2.y<e.1.y
  ·rw[if_pos h4]
   simp only[Option.toList_some,Zu]
   have hb:=Qqs (x:=x) (y:=y) (e:=⟨e.2,e.1,-1⟩) hk h4 rfl
   simp only[]at hb
   rw[Qfy]at hb
   by_cases h2:onE (y*k+k / 2) ⟨e.2,e.1,-1⟩=true
   ·rw[List.filter_cons,if_pos h2]
    simp only[List.filter_nil,List.map_cons,List.map_nil,Ks,Jf,Qih]
    simp only[onE,Bool.and_eq_true,decide_eq_true_eq]at h2
    by_cases h3:x<Q6s k (y*k+k / 2) ⟨e.2,e.1,-1⟩
    ·rw[if_pos ⟨h2.1,h2.2,by have:=hb.1 h3;omega⟩,if_pos h3];rfl
    ·rw[if_neg (λhh=>h3 (hb.2 (by omega))),if_neg h3];rfl
   ·rw[List.filter_cons,if_neg h2]
    simp only[List.filter_nil,List.map_nil,Jf]
    simp only[onE,Bool.and_eq_true,decide_eq_true_eq]at h2
    rw[if_neg (by rw[hcy];omega)]
  ·rw[if_neg h4,if_neg (by omega)]
   rfl
theorem Q3m (l l':List E5) (k cy:Int):Zu (l++l') k cy=Zu l k cy++Zu l' k cy:=by simp[Zu]
theorem Qj2 (a b:List (Int × Int)) (x:Int):Yy (a++b) x=Yy a x+Yy b x:=by simp[Yy]
theorem Qaz {k:Int} (hk:0<k) (y x:Int):∀es:List Eg,wnd es (ctr k y x)=Yy (Zu (es.filterMap I4) k (y*k+k / 2)) x
 | []=>rfl
 | e::es=>by
   rw[Il,Qaz hk y x es,Qqi hk]
   have:(e::es).filterMap I4=(I4 e).toList++es.filterMap I4:=by
    rw[List.filterMap_cons];cases I4 e<;>rfl
   rw[this,Q3m,Qj2]
def clM (x:Int):Int:=max (-4096) (min x 4096)
def Jq:List (Int × Int)->Int->Int->List Rn
 | [],w,r=>if 0<w/\-4096<r then [⟨-4096,r⟩] else []
 | s::ss,w,r=>(if 0<w/\clM s.1<r then [⟨clM s.1,r⟩] else [])++Jq ss (w+s.2) (clM s.1)
theorem Qeb {ss:List (Int × Int)} {x:Int} (h:∀s∈ss,s.1<=x):Yy ss x=0:=by
 induction ss with
 | nil=>rfl
 | cons s ss ih=>rw[Ks,if_neg (by have:=h s (by simp);omega),ih λt ht=>h t (by simp[ht])];rfl
theorem Qck:∀(ss:List (Int × Int)) (w r x:Int),ss.Pairwise (λa b=>b.1<=a.1)->r<=4096->(∀s∈ss,clM s.1<=r) ->
  (Qa (Jq ss w r) x↔(-4096<=x/\x<r)/\0<w+Yy ss x)
 | [],w,r,x,_,hr,_=>by
   rw[Jf]
   unfold Jq
   split
   ·rw[inRns_cons];simp only[Qj,or_false];omega
   ·simp only[Qj,false_iff];omega
 | s::ss,w,r,x,hp,hr,hc=>by
   obtain⟨p1,p2⟩:=j9.1 hp
   have hs:=hc s (by simp)
   have hcl:clM s.1<=4096:=by unfold clM;omega
   have ih:=Qck ss (w+s.2) (clM s.1) x p2 hcl (λt ht=>by have:=p1 t ht;unfold clM;omega)
   unfold Jq
   rw[Yf,ih,Ks]
   by_cases hx:clM s.1<=x
   ·by_cases hxr:x<r
    ·have hsx:s.1<=x:=by unfold clM at hx;omega
     rw[if_neg (show ¬ x<s.1 by omega),Qeb (λt ht=>by have:=p1 t ht;omega)]
     split
     ·rw[inRns_cons];simp only[Qj,or_false]
      have:-4096<=clM s.1:=by unfold clM;omega
      omega
     ·simp only[Qj,false_or]
      rename_i hn
      have:-4096<=clM s.1:=by unfold clM;omega
      omega
    ·constructor
     ·rintro (h | h)
      ·split at h
       ·rw[inRns_cons]at h;simp only[Qj,or_false]at h;omega
       ·exact absurd h (Qj _)
      ·omega
     ·rintro⟨h,_⟩;omega
   ·constructor
    ·rintro (h | ⟨h1,h2⟩)
     ·split at h
      ·rw[inRns_cons]at h;simp only[Qj,or_false]at h;omega
      ·exact absurd h (Qj _)
     ·have hsx:x<s.1:=by unfold clM at hx;omega
      rw[if_pos hsx];omega
    ·rintro⟨h1,h2⟩
     have hsx:x<s.1:=by unfold clM at hx;omega
     rw[if_pos hsx]at h2
     exact .inr ⟨by omega,by omega⟩
theorem Q76:∀(ss:List (Int × Int)) (w r:Int),-4096<=r->r<=4096->∀q∈Jq ss w r,(-4096<=q.a/\q.a<=4096)/\-4096<=q.b/\q.b<=4096
 | [],w,r,h0,hr,q,hq=>by
   unfold Jq at hq
   split at hq
   ·rw[qn.1 hq];simp only[];omega
   ·simp at hq
 | s::ss,w,r,h0,hr,q,hq=>by
   unfold Jq at hq
   rcases qg.1 hq with hq | hq
   ·split at hq
    ·rw[qn.1 hq];simp only[];unfold clM;omega
    ·simp at hq
   ·exact Q76 ss _ _ (by unfold clM;omega) (by unfold clM;omega) q hq
theorem Q75:∀(ss:List (Int × Int)) (w r:Int),(Jq ss w r).length<=ss.length+1
 | [],w,r=>by unfold Jq;split<;>simp
 | s::ss,w,r=>by
   unfold Jq
   have:=Q75 ss (w+s.2) (clM s.1)
   rw[j3,List.length_cons]
   split<;>simp<;>omega
end Go.Abs
