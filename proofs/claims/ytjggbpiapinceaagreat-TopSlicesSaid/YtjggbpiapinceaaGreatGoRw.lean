/- Part of the library on which the proof stands: an abstract machine, its values and its soundness against the model; or what functions of the program do to such values. -/
import Derived.Test.YtjggbpiapinceaaGreatGoRevC
import Derived.Test.YtjggbpiapinceaaGreatAbsSS
import Derived.Test.YtjggbpiapinceaaGreatGoStB
set_option linter.unusedVariables false
set_option linter.unusedSimpArgs false
set_option maxHeartbeats 4000000
namespace Go.Abs
structure LtOrd {α:Type} (lt:α->α->Prop):Prop where
 irr:∀a,¬ lt a a
 tr:∀{a b c},lt a b->lt b c->lt a c
 tot:∀{a b},¬ lt a b->¬ lt b a->a=b
section
variable {α:Type} {lt:α->α->Prop} (O:LtOrd lt)
include O
theorem LtOrd.asymm {a b:α} (h1:lt a b):¬ lt b a:=λh2=>O.irr a (O.tr h1 h2)
theorem Q0y:∀{l1 l2:List α},l1.Pairwise lt->l2.Pairwise lt->(∀a,a∈l1↔a∈l2)->l1=l2
 | [],[],_,_,_=>rfl
 | [],y::l2,_,_,h=>by have:=(h y).2 (by simp);simp at this
 | x::l1,[],_,_,h=>by have:=(h x).1 (by simp);simp at this
 | x::l1,y::l2,h1,h2,h=>by
   have p1:=ja.1 h1
   have p2:=ja.1 h2
   have hxy:x=y:=by
    rcases List.mem_cons.1 ((h x).1 (by simp)) with h3 | h3
    ·exact h3
    ·rcases List.mem_cons.1 ((h y).2 (by simp)) with h4 | h4
     ·exact h4.symm
     ·exact absurd (p2.1 x h3) (O.asymm (p1.1 y h4))
   subst hxy
   rw[Q0y p1.2 p2.2 λa=>?_]
   constructor
   ·intro ha
    rcases List.mem_cons.1 ((h a).1 (by simp[ha])) with h3 | h3
    ·subst h3;exact absurd (p1.1 a ha) (O.irr a)
    ·exact h3
   ·intro ha
    rcases List.mem_cons.1 ((h a).2 (by simp[ha])) with h3 | h3
    ·subst h3;exact absurd (p2.1 a ha) (O.irr a)
    ·exact h3
theorem Bt {l:List α} (h:l.Pairwise lt):l.Nodup:=h.imp λh1 h2=>by subst h2;exact O.irr _ h1
theorem Q6q {ys:List α} (hs:ys.Pairwise λa b=>¬ lt b a) (hn:ys.Nodup):ys.Pairwise lt :=
 (List.Pairwise.and hs hn).imp λh=>Classical.byContradiction λh3=>h.2 (O.tot h3 h.1)
end
section
variable {α:Type} [DecidableEq α] {lt:α->α->Prop} [DecidableRel lt]
def Qdx (lt:α->α->Prop) [DecidableRel lt] (e:α):List α->List α
 | []=>[e]
 | x::l=>if e=x then x::l else if lt e x then e::x::l else x::Qdx lt e l
def Qht (lt:α->α->Prop) [DecidableRel lt] (l:List α):List α:=l.foldr (Qdx lt) []
theorem mem_insG {e a:α}:∀{l:List α},a∈Qdx lt e l↔a=e∨a∈l
 | []=>by simp[Qdx]
 | x::l=>by
   simp only[Qdx]
   split
   ·rename_i h;subst h;simp
   ·split
    ·simp
    ·simp[mem_insG];constructor<;>(rintro (h | h | h)<;>simp[h])
theorem Qdw (O:LtOrd lt) {e:α}:∀{l:List α},l.Pairwise lt->(Qdx lt e l).Pairwise lt
 | [],_=>by simp[Qdx]
 | x::l,h=>by
   have hc:=ja.1 h
   simp only[Qdx]
   split
   ·exact h
   ·split
    ·rename_i h1 h2
     refine ja.2 ⟨λb hb=>?_,h⟩
     rcases List.mem_cons.1 hb with rfl | hb
     ·exact h2
     ·exact O.tr h2 (hc.1 b hb)
    ·rename_i h1 h2
     refine ja.2 ⟨λb hb=>?_,Qdw O hc.2⟩
     rcases mem_insG.1 hb with rfl | hb
     ·exact j8 λh3=>h1 (O.tot h2 h3)
     ·exact hc.1 b hb
theorem Q0z (O:LtOrd lt) (l:List α):(Qht lt l).Pairwise lt:=by
 induction l with
 | nil=>simp[Qht]
 | cons x l ih=>exact Qdw O ih
theorem Q0k {l:List α} {a:α}:a∈Qht lt l↔a∈l:=by
 induction l with
 | nil=>simp[Qht]
 | cons x l ih=>simp only[Qht,List.foldr_cons,mem_insG,List.mem_cons];rw[<- ih];rfl
theorem Qbt (O:LtOrd lt) {ys xs:List α} (hp:ys.Perm xs) (hn:xs.Nodup) (hs:ys.Pairwise λa b=>¬ lt b a):ys=Qht lt xs:=by
 refine Q0y O (Q6q O hs (hp.symm.nodup hn)) (Q0z O xs) λa=>by rw[hp.mem_iff,Q0k]
end
def V3.lt (a b:V3):Prop:=a.x<b.x∨(a.x=b.x/\(a.y<b.y∨(a.y=b.y/\a.z<b.z)))
instance:DecidableRel V3.lt:=λa b=>by unfold V3.lt;infer_instance
theorem V3.ltO:LtOrd V3.lt where
 irr a:=by unfold V3.lt;omega
 tr h1 h2:=by unfold V3.lt at *;omega
 tot {a b} h h':=by
  unfold V3.lt at *
  have h1:a.x=b.x:=by omega
  have h2:a.y=b.y:=by omega
  have h3:a.z=b.z:=by omega
  cases a;cases b;simp_all
structure Rn where
 a:Int
 b:Int
deriving DecidableEq
structure Rw where
 y:Int
 rs:List Rn
deriving DecidableEq
def Qz (l:List Rn) (x:Int):Prop:=∃r∈l,r.a<=x/\x<r.b
instance (l:List Rn) (x:Int):Decidable (Qz l x):=by unfold Qz;infer_instance
def RnsV (l:List Rn):Prop:=(∀r∈l,r.a<r.b)/\l.Pairwise λr s=>r.b<s.a
theorem RnsV.nil:RnsV []:=⟨by simp,List.Pairwise.nil⟩
theorem RnsV.tail {r:Rn} {l:List Rn} (h:RnsV (r::l)):RnsV l:=⟨λs hs=>h.1 s (by simp[hs]),(ja.1 h.2).2⟩
theorem Qt (x:Int):¬ Qz [] x:=by simp[Qz]
theorem inRns_cons {r:Rn} {l:List Rn} {x:Int}:Qz (r::l) x↔(r.a<=x/\x<r.b)∨Qz l x:=by simp[Qz]
theorem W6 {l k:List Rn} {x:Int}:Qz (l++k) x↔Qz l x∨Qz k x:=by
 simp only[Qz,qg]
 constructor
 ·rintro⟨r,h | h,h2⟩
  ·exact .inl ⟨r,h,h2⟩
  ·exact .inr ⟨r,h,h2⟩
 ·rintro (⟨r,h,h2⟩ | ⟨r,h,h2⟩)
  ·exact⟨r,.inl h,h2⟩
  ·exact⟨r,.inr h,h2⟩
theorem RnsV.behind {r:Rn} {l:List Rn} (h:RnsV (r::l)) {x:Int} (hx:Qz l x):r.b<x:=by
 obtain⟨s,hs,h1,h2⟩:=hx
 have:=(ja.1 h.2).1 s hs
 omega
theorem RnsV.ext:∀{l k:List Rn},RnsV l->RnsV k->(∀x,Qz l x↔Qz k x)->l=k
 | [],[],_,_,_=>rfl
 | [],r::k,_,hk,h=>by
   have hr:=hk.1 r (by simp)
   exact absurd ((h r.a).2 (inRns_cons.2 (.inl ⟨by omega,hr⟩))) (Qt _)
 | r::l,[],hl,_,h=>by
   have hr:=hl.1 r (by simp)
   exact absurd ((h r.a).1 (inRns_cons.2 (.inl ⟨by omega,hr⟩))) (Qt _)
 | r::l,s::k,hl,hk,h=>by
   have hr:=hl.1 r (by simp)
   have hs:=hk.1 s (by simp)
   have ea:r.a=s.a:=by
    have h1:=(h r.a).1 (inRns_cons.2 (.inl ⟨by omega,hr⟩))
    have h2:=(h s.a).2 (inRns_cons.2 (.inl ⟨by omega,hs⟩))
    rcases inRns_cons.1 h1 with h1 | h1
    ·rcases inRns_cons.1 h2 with h2 | h2
     ·omega
     ·have:=hl.behind h2;omega
    ·have:=hk.behind h1
     rcases inRns_cons.1 h2 with h2 | h2
     ·omega
     ·have:=hl.behind h2;omega
   have nb:∀{r:Rn} {l:List Rn},RnsV (r::l)->¬ Qz (r::l) r.b:=by
    intro r l hl hh
    rcases inRns_cons.1 hh with h1 | h1
    ·omega
    ·have:=hl.behind h1;omega
   have eb:r.b=s.b:=by
    have n1:=nb hl
    have n2:=nb hk
    refine j8 λhne=>?_
    by_cases hlt:r.b<s.b
    ·exact n1 ((h r.b).2 (inRns_cons.2 (.inl ⟨by omega,hlt⟩)))
    ·exact n2 ((h s.b).1 (inRns_cons.2 (.inl ⟨by omega,by omega⟩)))
   have e:r=s:=by cases r;cases s;simp_all
   subst e
   rw[RnsV.ext hl.tail hk.tail λx=>?_]
   constructor
   ·intro hx
    have hb:=hl.behind hx
    rcases inRns_cons.1 ((h x).1 (inRns_cons.2 (.inr hx))) with h1 | h1
    ·omega
    ·exact h1
   ·intro hx
    have hb:=hk.behind hx
    rcases inRns_cons.1 ((h x).2 (inRns_cons.2 (.inr hx))) with h1 | h1
    ·omega
    ·exact h1
theorem Qf1 {α:Type} (f:α->Int):∀{l k:List α},l.Pairwise (λa b=>f a<f b)->k.Pairwise (λa b=>f a<f b)->(∀a,a∈l↔a∈k)->l=k
 | [],[],_,_,_=>rfl
 | [],y::k,_,_,h=>by have:=(h y).2 (by simp);simp at this
 | x::l,[],_,_,h=>by have:=(h x).1 (by simp);simp at this
 | x::l,y::k,h1,h2,h=>by
   have p1:=ja.1 h1
   have p2:=ja.1 h2
   have hxy:x=y:=by
    rcases List.mem_cons.1 ((h x).1 (by simp)) with h3 | h3
    ·exact h3
    ·rcases List.mem_cons.1 ((h y).2 (by simp)) with h4 | h4
     ·exact h4.symm
     ·have:=p2.1 x h3;have:=p1.1 y h4;omega
   subst hxy
   rw[Qf1 f p1.2 p2.2 λa=>?_]
   constructor
   ·intro ha
    rcases List.mem_cons.1 ((h a).1 (by simp[ha])) with h3 | h3
    ·subst h3;have:=p1.1 a ha;omega
    ·exact h3
   ·intro ha
    rcases List.mem_cons.1 ((h a).2 (by simp[ha])) with h3 | h3
    ·subst h3;have:=p2.1 a ha;omega
    ·exact h3
def Q3s (g:List Rw) (y x:Int):Prop:=∃w∈g,w.y=y/\Qz w.rs x
structure RgV (g:List Rw):Prop where
 rs:∀w∈g,RnsV w.rs
 ne:∀w∈g,w.rs≠[]
 asc:g.Pairwise λu v=>u.y<v.y
theorem RgV.nil:RgV []:=⟨by simp,by simp,List.Pairwise.nil⟩
theorem RgV.uniq {g:List Rw} (h:RgV g) {u v:Rw} (hu:u∈g) (hv:v∈g) (he:u.y=v.y):u=v:=by
 obtain⟨i,hi,rfl⟩:=List.mem_iff_getElem.1 hu
 obtain⟨j,hj,rfl⟩:=List.mem_iff_getElem.1 hv
 have hp:=j5.1 h.asc
 by_cases h1:i<j
 ·have:=hp i j hi hj h1;omega
 ·by_cases h2:j<i
  ·have:=hp j i hj hi h2;omega
  ·obtain rfl:i=j:=by omega
   rfl
theorem RgV.row {g:List Rw} (h:RgV g) {w:Rw} (hw:w∈g) (x:Int):Q3s g w.y x↔Qz w.rs x:=by
 constructor
 ·rintro⟨v,hv,he,hx⟩
  rw[h.uniq hw hv he.symm];exact hx
 ·intro hx;exact⟨w,hw,rfl,hx⟩
theorem RnsV.some {l:List Rn} (h:RnsV l) (hn:l≠[]):∃x,Qz l x:=by
 cases l with
 | nil=>exact absurd rfl hn
 | cons r l=>exact⟨r.a,inRns_cons.2 (.inl ⟨Int.le_refl _,h.1 r (by simp)⟩)⟩
theorem RgV.ext {g k:List Rw} (hg:RgV g) (hk:RgV k) (h:∀y x,Q3s g y x↔Q3s k y x):g=k:=by
 have key:∀{g k:List Rw},RgV g->RgV k->(∀y x,Q3s g y x↔Q3s k y x)->∀w,w∈g->w∈k:=by
  intro g k hg hk h w hw
  obtain⟨x,hx⟩:=(hg.rs w hw).some (hg.ne w hw)
  obtain⟨v,hv,he,_⟩:=(h w.y x).1 ⟨w,hw,rfl,hx⟩
  have:w.rs=v.rs:=(hg.rs w hw).ext (hk.rs v hv) λx=>by
   rw[<- hg.row hw,<- hk.row hv,he];exact h w.y x
  have e:w=v:=by cases w;cases v;simp_all
  rw[e];exact hv
 exact Qf1 Rw.y hg.asc hk.asc λw=>⟨key hg hk h w,key hk hg (λy x=>(h y x).symm) w⟩
def Bz (l:List Rn) (x:Int):List Rn :=
 match l.getLast? with
 | some r=>if r.b=x then l.dropLast++[⟨r.a,x+1⟩] else l++[⟨x,x+1⟩]
 | none=>[⟨x,x+1⟩]
theorem Qkv (x:Int):Bz [] x=[⟨x,x+1⟩]:=rfl
theorem Qkw (l:List Rn) (r:Rn) (x:Int):Bz (l++[r]) x=if r.b=x then l++[⟨r.a,x+1⟩] else l++[r]++[⟨x,x+1⟩]:=by
 unfold Bz;simp
theorem RnsV.snoc {l:List Rn} {s:Rn}:RnsV (l++[s])↔RnsV l/\s.a<s.b/\∀r∈l,r.b<s.a:=by
 unfold RnsV
 rw[List.pairwise_append]
 constructor
 ·rintro⟨h1,h2,_,h3⟩
  exact⟨⟨λr hr=>h1 r (by simp[hr]),h2⟩,h1 s (by simp),λr hr=>h3 r hr s (by simp)⟩
 ·rintro⟨⟨h1,h2⟩,h3,h4⟩
  refine⟨λr hr=>?_,h2,by simp,λr hr s' hs=>?_⟩
  ·rcases qg.1 hr with hr | hr
   ·exact h1 r hr
   ·rw[qo.1 hr];exact h3
  ·rw[qo.1 hs];exact h4 r hr
theorem El {α:Type} (l:List α):l=[]∨∃k r,l=k++[r]:=by
 rcases List.eq_nil_or_concat l with h | ⟨k,r,h⟩
 ·exact .inl h
 ·exact .inr ⟨k,r,by simpa using h⟩
theorem Qov {l:List Rn} {x:Int} (h:RnsV l) (hb:∀r∈l,r.b<=x):RnsV (Bz l x)/\(∀r∈Bz l x,r.b<=x+1)/\∀y,Qz (Bz l x) y↔Qz l y∨y=x:=by
 rcases El l with rfl | ⟨k,r,rfl⟩
 ·rw[Qkv]
  refine⟨⟨by simp;omega,by simp⟩,by simp,λy=>?_⟩
  simp only[inRns_cons,Qt,or_false,false_or]
  omega
 ·obtain⟨h1,h2,h3⟩:=RnsV.snoc.1 h
  have hr:=hb r (by simp)
  rw[Qkw]
  by_cases he:r.b=x
  ·rw[if_pos he]
   refine⟨RnsV.snoc.2 ⟨h1,by simp only[];omega,λs hs=>h3 s hs⟩,λs hs=>?_,λy=>?_⟩
   ·rcases qg.1 hs with hs | hs
    ·have:=hb s (by simp[hs]);omega
    ·rw[qo.1 hs];exact Int.le_refl _
   ·simp only[W6,inRns_cons,Qt,or_false]
    by_cases hk:Qz k y<;>simp only[hk,true_or,false_or,or_true]<;>omega
  ·rw[if_neg he]
   refine⟨RnsV.snoc.2 ⟨h,by simp only[];omega,λs hs=>?_⟩,λs hs=>?_,λy=>?_⟩
   ·rcases qg.1 hs with hs | hs
    ·have:=h3 s hs;simp only[];omega
    ·rw[qo.1 hs];simp only[];omega
   ·rcases qg.1 hs with hs | hs
    ·have:=hb s hs;omega
    ·rw[qo.1 hs];exact Int.le_refl _
   ·simp only[W6,inRns_cons,Qt,or_false]
    by_cases hk:Qz k y<;>simp only[hk,true_or,false_or,or_true]<;>omega
theorem Q6a:∀(xs:List Int) {l:List Rn},RnsV l->xs.Pairwise (·<·)->(∀r∈l,∀x∈xs,r.b<=x)->RnsV (xs.foldl Bz l)/\∀y,Qz (xs.foldl Bz l) y↔Qz l y∨y∈xs
 | [],l,h,_,_=>⟨h,λy=>by simp⟩
 | x::xs,l,h,ha,hb=>by
   obtain⟨h1,h2,h3⟩:=Qov h (λr hr=>hb r hr x (by simp))
   obtain⟨a1,a2⟩:=ja.1 ha
   obtain⟨g1,g2⟩:=Q6a xs h1 a2 (λr hr y hy=>by have:=h2 r hr;have:=a1 y hy;omega)
   refine⟨g1,λy=>?_⟩
   rw[List.foldl_cons,g2,h3,List.mem_cons]
   constructor
   ·rintro ((h | h) | h)
    ·exact .inl h
    ·exact .inr (.inl h)
    ·exact .inr (.inr h)
   ·rintro (h | h | h)
    ·exact .inl (.inl h)
    ·exact .inl (.inr h)
    ·exact .inr h
theorem Q67:∃l:List Int,(∀x,x∈l↔-4096<=x/\x<4096)/\l.Pairwise (·<·):=by
 refine⟨(List.range 8192).map λi:Nat=>(i:Int)-4096,λx=>?_,?_⟩
 ·rw[qp]
  constructor
  ·rintro⟨i,hi,rfl⟩
   have:=qz.1 hi;omega
  ·rintro⟨h1,h2⟩
   exact⟨(x+4096).toNat,qz.2 (by omega),by omega⟩
 ·rw[je]
  exact List.pairwise_lt_range.imp λh=>by omega
noncomputable def gridL:List Int:=Classical.choose Q67
theorem mem_gridL {x:Int}:x∈gridL↔-4096<=x/\x<4096:=(Classical.choose_spec Q67).1 x
theorem gridL_asc:gridL.Pairwise (·<·):=(Classical.choose_spec Q67).2
noncomputable def Q2f (p:Int->Bool):List Rn:=(gridL.filter p).foldl Bz []
theorem Qse (p:Int->Bool):RnsV (Q2f p):=(Q6a _ RnsV.nil (gridL_asc.filter p) (by simp)).1
theorem in_canonL {p:Int->Bool} {x:Int}:Qz (Q2f p) x↔(-4096<=x/\x<4096)/\p x=true:=by
 unfold Q2f
 rw[(Q6a _ RnsV.nil (gridL_asc.filter p) (by simp)).2,qv,mem_gridL]
 simp[Qt]
noncomputable def Kr (p:Int->Int->Bool):List Rw:=(gridL.map λy=>Rw.mk y (Q2f (p y))).filter λw=>decide (w.rs≠[])
theorem Qev (p:Int->Int->Bool):RgV (Kr p) where
 rs w hw:=by
  unfold Kr at hw
  obtain⟨h1,_⟩:=qv.1 hw
  obtain⟨y,_,rfl⟩:=qp.1 h1
  exact Qse _
 ne w hw:=by
  unfold Kr at hw
  simpa using(qv.1 hw).2
 asc:=by
  unfold Kr
  refine List.Pairwise.filter _ ?_
  rw[je]
  exact gridL_asc
theorem in_canonR {p:Int->Int->Bool} {y x:Int}:Q3s (Kr p) y x↔(-4096<=y/\y<4096)/\(-4096<=x/\x<4096)/\p y x=true:=by
 constructor
 ·rintro⟨w,hw,rfl,hx⟩
  unfold Kr at hw
  obtain⟨h1,_⟩:=qv.1 hw
  obtain⟨y,hy,rfl⟩:=qp.1 h1
  obtain⟨h2,h3⟩:=in_canonL.1 hx
  exact⟨mem_gridL.1 hy,h2,h3⟩
 ·rintro⟨hy,hx,hp⟩
  have hin:Qz (Q2f (p y)) x:=in_canonL.2 ⟨hx,hp⟩
  unfold Kr
  refine⟨⟨y,Q2f (p y)⟩,qv.2 ⟨qp.2 ⟨y,mem_gridL.2 hy,rfl⟩,?_⟩,rfl,hin⟩
  simp only[decide_eq_true_eq]
  intro h0
  rw[h0]at hin
  exact Qt _ hin
def RgB (g:List Rw):Prop:=∀y x,Q3s g y x->(-4096<=y/\y<4096)/\-4096<=x/\x<4096
theorem Qsd (p:Int->Int->Bool):RgB (Kr p):=λy x h=>by
 obtain⟨h1,h2,_⟩:=in_canonR.1 h
 exact⟨h1,h2⟩
theorem Q2e {g:List Rw} (h:RgV g) {p:Int->Int->Bool} (hp:∀y x,Q3s g y x↔(-4096<=y/\y<4096)/\(-4096<=x/\x<4096)/\p y x=true):g=Kr p :=
 h.ext (Qev p) λy x=>by rw[hp,in_canonR]
theorem RgB.run {g:List Rw} (h:RgV g) (hb:RgB g) {w:Rw} (hw:w∈g) {r:Rn} (hr:r∈w.rs):(-4096<=w.y/\w.y<4096)/\-4096<=r.a/\r.a<r.b/\r.b<=4096:=by
 have hab:=(h.rs w hw).1 r hr
 have h1:=hb w.y r.a ⟨w,hw,rfl,r,hr,Int.le_refl _,hab⟩
 have h2:=hb w.y (r.b-1) ⟨w,hw,rfl,r,hr,by omega,by omega⟩
 omega
theorem RgB.nil:RgB []:=λy x h=>by obtain⟨w,hw,_⟩:=h;simp at hw
def Q6x (P:Program) (f:FuncId):Prop:=CallIs P f [] (.b true)
theorem par_i {k:IntKind} {ps:List (Bool × List Sch)} {us:List V} (h:Ko ((false,[.i k])::ps) us):∃n r,us=.i k n::r/\(k.min<=n/\n<=k.max)/\Ko ps r:=by
 simp only[Ko,Qj1]at h
 obtain⟨v,r,rfl,hv,hr⟩:=h
 simp only[okL,Sch.ok]at hv
 obtain⟨x,r',h1,⟨n,rfl,h2⟩,rfl⟩:=hv
 obtain rfl:v=.i k n:=by simpa using h1
 exact⟨n,r,rfl,h2,hr⟩
theorem par_0 {us:List V} (h:Ko [] us):us=[]:=h
def Jj (P:Program) (f:FuncId) (sz:Nat):Prop:=∀els:List (List V),els.all (λel=>el.all V.isD)=true->els.length<=1000000->NewC P f [.l sz els] (λr h=>r=.own 0 1 0 els.length/\h=[.arr 1 sz els])
theorem Wt {x:V} (n:Nat) (h:x.isD=true):x.cl n=true:=by cases x<;>simp[V.isD]at h<;>simp[V.cl,V.cl1,V.cl0]
section
variable {P:Program} (hm:P.follows .mixedOrders=true)
include hm
theorem Kx {f:FuncId} (hf:Qa P f L1u.c L1u.r L1u.n):Jj P f 3:=by
 intro els hel hlen
 refine Qfd 3 ?_
 refine Qpo hm hf (qh rfl) ?_
 unfold L1u.c
 cases els with
 | nil=>simp[go_sem,L1u.r]
 | cons e l =>
   simp only[List.length_cons]at hlen
   simp[go_sem,L1u.r]
   simp only[List.all_cons,Bool.and_eq_true,qj]at hel
   exact⟨⟨by omega,by omega⟩,λx hx=>Wt 1 (hel.1 x hx),λa ha x hx=>Wt 1 (hel.2 a ha x hx)⟩
theorem Q1i {f:FuncId} (hf:Qa P f L1t.c L1t.r L1t.n):Jj P f 3:=Kx hm hf
end
def Ql2:List Sch:=[.i .i64,.i .i64,.i .i64]
def schM:List Sch:=[.sl Ql2,.sl Ql2]
theorem v3_of {e:List V} (h:okL Ql2 e):∃v:V3,e=v.cs:=by
 simp only[Ql2,okL,Sch.ok]at h
 obtain⟨v1,r1,rfl,⟨x,rfl,_⟩,v2,r2,rfl,⟨y,rfl,_⟩,v3,r3,rfl,⟨z,rfl,_⟩,rfl⟩:=h
 exact⟨⟨x,y,z⟩,rfl⟩
theorem t3_of {e:List V} (h:okL Ql2 e):∃v:T3,e=v.cs:=by
 simp only[Ql2,okL,Sch.ok]at h
 obtain⟨v1,r1,rfl,⟨x,rfl,_⟩,v2,r2,rfl,⟨y,rfl,_⟩,v3,r3,rfl,⟨z,rfl,_⟩,rfl⟩:=h
 exact⟨⟨x,y,z⟩,rfl⟩
theorem Qaq {α:Type} {f:α->List V} {el:List Sch} (hf:∀e,okL el e->∃v,e=f v):∀els:List (List V),(∀e∈els,okL el e)->∃l:List α,els=l.map f
 | [],_=>⟨[],rfl⟩
 | e::els,h=>by
   obtain⟨l,rfl⟩:=Qaq hf els (λe he=>h e (by simp[he]))
   obtain⟨v,rfl⟩:=hf e (h e (by simp))
   exact⟨v::l,rfl⟩
theorem par_m {ps:List (Bool × List Sch)} {us:List V} (h:Ko ((true,schM)::ps) us):∃(m:Mesh) (r:List V),us=m.enc::r/\(m.verts.length<=9223372036854775807/\m.tris.length<=9223372036854775807)/\Ko ps r:=by
 simp only[Ko,Qj1]at h
 obtain⟨v,r,rfl,⟨cs,rfl,hc⟩,hr⟩:=h
 simp only[schM,okL,Sch.ok]at hc
 obtain⟨v1,r1,rfl,⟨els,rfl,hl,he⟩,v2,r2,rfl,⟨els2,rfl,hl2,he2⟩,rfl⟩:=hc
 obtain⟨vs,rfl⟩:=Qaq (λe=>v3_of) els he
 obtain⟨ts,rfl⟩:=Qaq (λe=>t3_of) els2 he2
 exact⟨⟨vs,ts⟩,r,rfl,⟨by simpa using hl,by simpa using hl2⟩,hr⟩
structure P2 where
 x:Int
 y:Int
deriving DecidableEq
def P2.cs (p:P2):List V:=[.i .i64 p.x,.i .i64 p.y]
def P2.enc (p:P2):V:=.a p.cs
def psV (l:List P2):V:=.l 2 (l.map P2.cs)
theorem pcs (p:P2):p.cs=[.i .i64 p.x,.i .i64 p.y]:=Rfl rfl
def inI (n:Int):Bool:=decide (-9223372036854775808<=n) && decide (n<=9223372036854775807)
def Q5w (m:Mesh) (e:Int):V:=.t [m.enc,.i .i64 e]
def Zb:Mesh:=⟨[],[]⟩
theorem mesV_le {u v:V} {vs:List V3} {ts:List T3} {e:Int} (h1:Le0 u (vsV vs)) (h2:Le0 v (tsV ts)):Le (.t [.a [u,v],.i .i64 e]) (Q5w ⟨vs,ts⟩ e) :=
 .inr ⟨_,_,rfl,rfl,.inr ⟨_,_,rfl,rfl,h1,h2,trivial⟩,Le1.refl _,trivial⟩
theorem Q8q (e:Int):Le (.t [.a [.nil,.nil],.i .i64 e]) (Q5w Zb e):=mesV_le (Le0.nil 3) (Le0.nil 3)
def Qi9 (P:Program) (f:FuncId):Prop:=∀l:List V3,l.length<=1000000->CallIs P f [vsV l] (.b (Kn l))
def Qti (P:Program) (f:FuncId):Prop:=∀v:V3,CallIs P f [v.enc] (.b (v.within 131072))
def V3.plus (a b:V3):V3:=⟨IntKind.i64.wrap (a.x+b.x),IntKind.i64.wrap (a.y+b.y),IntKind.i64.wrap (a.z+b.z)⟩
def Qjv (P:Program) (f:FuncId):Prop:=∀a b:V3,CallIs P f [a.enc,b.enc] (a.plus b).enc
def V3.add (a b:V3):V3:=⟨a.x+b.x,a.y+b.y,a.z+b.z⟩
def Qi (p s:V3):List V3 :=
 [⟨p.x,p.y,p.z⟩,⟨p.x+s.x,p.y,p.z⟩,⟨p.x,p.y+s.y,p.z⟩,⟨p.x+s.x,p.y+s.y,p.z⟩,⟨p.x,p.y,p.z+s.z⟩,⟨p.x+s.x,p.y,p.z+s.z⟩,⟨p.x,p.y+s.y,p.z+s.z⟩,⟨p.x+s.x,p.y+s.y,p.z+s.z⟩]
def Q2p (P:Program) (f:FuncId):Prop:=∀p s:V3,p.valid=true->s.within 131072=true->CallIs P f [p.enc,s.enc] (.a ((Qi p s).flatMap V3.cs))
theorem within_iff {v:V3} {k:Int}:v.within k=true↔(-k<=v.x/\v.x<=k/\-k<=v.y/\v.y<=k/\-k<=v.z/\v.z<=k):=by
 simp[V3.within,and_assoc]
theorem Qdb {a b:V3} (h1:a.valid=true) (h2:b.within 131072=true):a.plus b=a.add b:=by
 have:=V3.valid_iff.1 h1
 have:=within_iff.1 h2
 simp only[V3.plus,V3.add]
 rw[Q3 (by omega) (by omega),Q3 (by omega) (by omega),Q3 (by omega) (by omega)]
section
variable {P:Program} (hm:P.follows .mixedOrders=true)
include hm
theorem Q4u {f fv:FuncId} (hf:Qa P f (L1q.c fv) L1q.r L1q.n) (hv:Bu P fv):Qi9 P f:=by
 intro l hl
 refine PureC.is (Q8 hm hf (qh rfl) ?_) rfl
 unfold L1q.c
 simp[go_sem,vsV]
 refine Qf (α:=Nat) (λk=>k<=l.length/\Kn (l.take k)=true)
  (λk=>⟨[(5,vsV l),(6,.i .i64 l.length),(7,.i .i64 k)],[]⟩)
  (λk=>l.length-k) 0 ⟨Nat.zero_le _,rfl⟩ ?_ ?_
 ·simp[go_sem,vsV]
 ·rintro k ⟨hk,hok⟩
  cases hp:l[k]? with
  | none =>
    have:¬ k<l.length:=by simpa using hp
    obtain rfl:k=l.length:=by omega
    rw[qi]at hok
    simp[go_sem,vsV,L1q.r,hok]
  | some p =>
    obtain⟨hlt,hp'⟩:=q8.1 hp
    simp[go_sem,vsV,hlt,hp',vcs]
    refine Q4 (hv p) ?_
    cases hvp:p.valid
    ·simp[go_sem,L1q.r,Q4e hp hvp]
    ·simp (disch:=omega) [go_sem,Q3]
     refine⟨k+1,⟨by omega,?_⟩,by omega,?_⟩
     ·rw[Q89 hp,hok,hvp];rfl
     ·simp (disch:=omega) [go_sem,vsV,Q3]
theorem Q4t {f:FuncId} (hf:Qa P f L1r.c L1r.r L1r.n):Qti P f:=by
 intro v
 refine PureC.is (Q8 hm hf (qh rfl) ?_) rfl
 unfold L1r.c
 have hw:=@within_iff v 131072
 by_cases h1:v.x<=131072/\v.y<=131072/\v.z<=131072
 ·have h2:max (max v.x v.y) v.z<=131072:=by omega
  simp +contextual -implicitDefEqProofs [go_sem,V3.enc,V3.cs,L1r.r,h1,h2]
  rw[Bool.eq_iff_iff,hw];simp;omega
 ·have h2:¬ max (max v.x v.y) v.z<=131072:=by omega
  simp +contextual -implicitDefEqProofs [go_sem,V3.enc,V3.cs,L1r.r,h1,h2]
  rw[Bool.eq_iff_iff,hw];simp;omega
theorem Q4s {f:FuncId} (hf:Qa P f L1s.c L1s.r L1s.n):Qjv P f:=by
 intro a b
 refine PureC.is (Q8 hm hf (qh rfl) ?_) rfl
 unfold L1s.c
 simp[go_sem,V3.enc,V3.cs,L1s.r,V3.plus]
theorem Q01 {f fp:FuncId} (hf:Qa P f (L1p.c fp) L1p.r L1p.n) (hp:Qjv P fp):Q2p P f:=by
 intro p s hv hs
 have h1:=V3.valid_iff.1 hv
 have h2:=within_iff.1 hs
 refine PureC.is (Q8 hm hf (qh rfl) ?_) rfl
 unfold L1p.c
 simp[go_sem,V3.enc,V3.cs]
 refine Qf (α:=Nat) (λk=>k<=8)
  (λk=>⟨[(2,.p 0 1 0 0),(3,.p 1 1 0 0),(4,.p 2 1 0 0),(5,.p 3 1 0 0),(7,.i .i64 k)],[.arr 1 3 [p.cs],.arr 1 3 [s.cs],.arr 1 24 [List.replicate 24 (.i .i64 0)],.arr 1 24 [((Qi p s).take k).flatMap V3.cs++List.replicate (24-3*k) (.i .i64 0)]]⟩)
  (λk=>8-k) 0 (by omega) ?_ ?_
 ·simp[go_sem,vcs]
 ·intro k hk
  by_cases h8:k=8
  ·subst h8
   simp[go_sem,L1p.r,Qi,V3.cs]
  ·have:k=0∨k=1∨k=2∨k=3∨k=4∨k=5∨k=6∨k=7:=by omega
   have w0:IntKind.i64.wrap 0=0:=rfl
   have w1:IntKind.i64.wrap 1=1:=rfl
   have wx:IntKind.i64.wrap s.x=s.x:=Q3 (by omega) (by omega)
   have wy:IntKind.i64.wrap s.y=s.y:=Q3 (by omega) (by omega)
   have wz:IntKind.i64.wrap s.z=s.z:=Q3 (by omega) (by omega)
   rcases this with rfl | rfl | rfl | rfl | rfl | rfl | rfl | rfl
   ·simp[go_sem,vcs,w0,w1,wx,wy,wz]
    refine Q4 (hp p ⟨0,0,0⟩) ?_
    simp (disch:=omega) [go_sem,Q3,V3.plus,V3.enc,V3.cs,w0,w1,Qi]
    exact⟨1,by simp[go_sem,V3.cs,or_imp,forall_and,V.cl,V.cl1,V.cl0]⟩
   ·simp[go_sem,vcs,w0,w1,wx,wy,wz]
    refine Q4 (hp p ⟨s.x,0,0⟩) ?_
    simp (disch:=omega) [go_sem,Q3,V3.plus,V3.enc,V3.cs,w0,w1,Qi]
    exact⟨2,by simp[go_sem,V3.cs,or_imp,forall_and,V.cl,V.cl1,V.cl0]⟩
   ·simp[go_sem,vcs,w0,w1,wx,wy,wz]
    refine Q4 (hp p ⟨0,s.y,0⟩) ?_
    simp (disch:=omega) [go_sem,Q3,V3.plus,V3.enc,V3.cs,w0,w1,Qi]
    exact⟨3,by simp[go_sem,V3.cs,or_imp,forall_and,V.cl,V.cl1,V.cl0]⟩
   ·simp[go_sem,vcs,w0,w1,wx,wy,wz]
    refine Q4 (hp p ⟨s.x,s.y,0⟩) ?_
    simp (disch:=omega) [go_sem,Q3,V3.plus,V3.enc,V3.cs,w0,w1,Qi]
    exact⟨4,by simp[go_sem,V3.cs,or_imp,forall_and,V.cl,V.cl1,V.cl0]⟩
   ·simp[go_sem,vcs,w0,w1,wx,wy,wz]
    refine Q4 (hp p ⟨0,0,s.z⟩) ?_
    simp (disch:=omega) [go_sem,Q3,V3.plus,V3.enc,V3.cs,w0,w1,Qi]
    exact⟨5,by simp[go_sem,V3.cs,or_imp,forall_and,V.cl,V.cl1,V.cl0]⟩
   ·simp[go_sem,vcs,w0,w1,wx,wy,wz]
    refine Q4 (hp p ⟨s.x,0,s.z⟩) ?_
    simp (disch:=omega) [go_sem,Q3,V3.plus,V3.enc,V3.cs,w0,w1,Qi]
    exact⟨6,by simp[go_sem,V3.cs,or_imp,forall_and,V.cl,V.cl1,V.cl0]⟩
   ·simp[go_sem,vcs,w0,w1,wx,wy,wz]
    refine Q4 (hp p ⟨0,s.y,s.z⟩) ?_
    simp (disch:=omega) [go_sem,Q3,V3.plus,V3.enc,V3.cs,w0,w1,Qi]
    exact⟨7,by simp[go_sem,V3.cs,or_imp,forall_and,V.cl,V.cl1,V.cl0]⟩
   ·simp[go_sem,vcs,w0,w1,wx,wy,wz]
    refine Q4 (hp p ⟨s.x,s.y,s.z⟩) ?_
    simp (disch:=omega) [go_sem,Q3,V3.plus,V3.enc,V3.cs,w0,w1,Qi]
    exact⟨8,by simp[go_sem,V3.cs,or_imp,forall_and,V.cl,V.cl1,V.cl0]⟩
end
def P2.valid (p:P2):Bool:=decide (-16777216<=p.x) && decide (p.x<=16777216) && decide (-16777216<=p.y) && decide (p.y<=16777216)
theorem P2.valid_iff {p:P2}:p.valid=true↔(-16777216<=p.x/\p.x<=16777216/\-16777216<=p.y/\p.y<=16777216):=by simp[P2.valid,and_assoc]
def K9 (a b c:P2):Int:=(b.x-a.x)*(c.y-a.y)-(b.y-a.y)*(c.x-a.x)
def Qc3 (P:Program) (f:FuncId):Prop:=∀p:P2,CallIs P f [p.enc] (.b p.valid)
theorem Q21 {a b:Int} {k m:Nat} (ha:-(k:Int)<=a/\a<=k) (hb:-(m:Int)<=b/\b<=m):-((k*m:Nat):Int)<=a*b/\a*b<=(k*m:Nat):=by
 have h1:a.natAbs<=k:=by omega
 have h2:b.natAbs<=m:=by omega
 have h3:=Nat.mul_le_mul h1 h2
 rw[<- Int.natAbs_mul]at h3
 omega
section
variable {P:Program} (hm:P.follows .mixedOrders=true)
include hm
theorem Q3b {f:FuncId} (hf:Qa P f L0t.c L0t.r L0t.n):Qc3 P f:=by
 intro p
 refine PureC.is (Q8 hm hf (qh rfl) ?_) rfl
 unfold L0t.c
 simp +contextual -implicitDefEqProofs [go_sem,P2.enc,P2.cs,L0t.r]
 simp[P2.valid,and_assoc]
end
abbrev Eg:=P2 × P2
def Q3u (e:Eg) (p:P2):Int :=
 if e.1.y<=p.y/\p.y<e.2.y/\0<K9 e.1 e.2 p then 1 else if e.2.y<=p.y/\p.y<e.1.y/\K9 e.1 e.2 p<0 then -1 else 0
def wnd (es:List Eg) (p:P2):Int:=(es.map (Q3u · p)).sum
theorem Q8n {a b:List Int} (h:a.Perm b):a.sum=b.sum:=by
 induction h with
 | nil=>rfl
 | cons x _ ih=>simp only[List.sum_cons,ih]
 | swap x y l=>simp only[List.sum_cons];omega
 | trans _ _ h1 h2=>rw[h1,h2]
theorem Qnt {es fs:List Eg} (h:es.Perm fs) (p:P2):wnd es p=wnd fs p:=Q8n (h.map _)
theorem Qif (p:P2):wnd [] p=0:=rfl
theorem Bv (e:Eg) (es:List Eg) (p:P2):wnd (e::es) p=Q3u e p+wnd es p:=by simp[wnd]
theorem Qmm {e:Eg} (h:e.1=e.2) (p:P2):Q3u e p=0:=by
 unfold Q3u
 rw[h,if_neg (by omega),if_neg (by omega)]
theorem Qnu (p:P2):∀es:List Eg,wnd (es.filter λe=>decide (e.1≠e.2)) p=wnd es p
 | []=>rfl
 | e::es=>by
   rw[List.filter_cons,Bv,<- Qnu p es]
   split
   ·rw[Bv]
   ·rename_i h
    rw[Qmm (by simpa using h)];omega
def Q19 (es:List Eg):Prop:=∀p:P2,es.countP (λe=>decide (e.1=p))=es.countP (λe=>decide (e.2=p))
theorem Qhk (a b p:P2):K9 b a p=- K9 a b p:=by unfold K9;grind
def EgB (es:List Eg) (k:Int):Prop:=∀e∈es,(-k<=e.1.x/\e.1.x<=k)/\(-k<=e.1.y/\e.1.y<=k)/\(-k<=e.2.x/\e.2.x<=k)/\(-k<=e.2.y/\e.2.y<=k)
def ctr (k y x:Int):P2:=⟨x*k+k / 2,y*k+k / 2⟩
noncomputable def W2 (es:List Eg) (k:Int):List Rw:=Kr λy x=>decide (0<wnd es (ctr k y x))
theorem Ql9 {es fs:List Eg} (h:es.Perm fs) (k:Int):W2 es k=W2 fs k:=by
 unfold W2;congr 1;funext y x;rw[Qnt h]
theorem rasR_ne (es:List Eg) (k:Int):W2 (es.filter λe=>decide (e.1≠e.2)) k=W2 es k:=by
 unfold W2;congr 1;funext y x;rw[Qnu]
structure E5 where
 lo:P2
 hi:P2
 sg:Int
def Bg (e:Eg):Option E5:=if e.1.y<e.2.y then some ⟨e.1,e.2,1⟩ else if e.2.y<e.1.y then some ⟨e.2,e.1,-1⟩ else none
def Qmc (k cy:Int) (e:E5):Int:=e.lo.x*(e.hi.y-e.lo.y)+(e.hi.x-e.lo.x)*(cy-e.lo.y)-k / 2*(e.hi.y-e.lo.y)
def Q83 (k cy:Int) (e:E5):Int:=- ((- Qmc k cy e) / (k*(e.hi.y-e.lo.y)))
def Qk7 (k cy:Int) (e:E5):Int × Int:=(Q83 k cy e,e.sg)
def onE (cy:Int) (e:E5):Bool:=decide (e.lo.y<=cy) && decide (cy<e.hi.y)
def Y2 (l:List E5) (k cy:Int):List (Int × Int):=(l.filter (onE cy)).map (Qk7 k cy)
def Xl (ss:List (Int × Int)) (x:Int):Int:=((ss.filter λs=>decide (x<s.1)).map Prod.snd).sum
theorem Js (x:Int):Xl [] x=0:=rfl
theorem Wl (s:Int × Int) (ss:List (Int × Int)) (x:Int):Xl (s::ss) x=(if x<s.1 then s.2 else 0)+Xl ss x:=by
 unfold Xl
 rw[List.filter_cons]
 by_cases h:x<s.1
 ·simp[h]
 ·simp[h]
theorem Q4p {a b:List (Int × Int)} (h:a.Perm b) (x:Int):Xl a x=Xl b x:=Q8n ((h.filter _).map _)
theorem Qsh {k cy y x:Int} {e:E5} (hk:0<k) (hd:e.lo.y<e.hi.y) (hc:cy=y*k+k / 2):x<Q83 k cy e↔0<K9 e.lo e.hi (ctr k y x):=by
 have hD:0<k*(e.hi.y-e.lo.y):=Int.mul_pos hk (by omega)
 unfold Q83
 have h1:x < - ((- Qmc k cy e) / (k*(e.hi.y-e.lo.y)))↔(- Qmc k cy e) / (k*(e.hi.y-e.lo.y)) < -x:=by omega
 rw[h1,Int.ediv_lt_iff_lt_mul hD]
 unfold Qmc K9 ctr
 simp only[]
 rw[<- hc]
 generalize k / 2=q
 constructor<;>intro h<;>grind
theorem Qs7 {k y x:Int} (hk:0<k) (e:Eg):Q3u e (ctr k y x)=Xl (Y2 (Bg e).toList k (y*k+k / 2)) x:=by
 unfold Bg Q3u
 have hcy:(ctr k y x).y=y*k+k / 2:=rfl
 by_cases h1:e.1.y<e.2.y
 ·rw[if_pos h1]
  simp only[Option.toList_some,Y2]
  have hb:=Qsh (x:=x) (y:=y) (e:=⟨e.1,e.2,1⟩) hk h1 rfl
  simp only[]at hb
  by_cases h2:onE (y*k+k / 2) ⟨e.1,e.2,1⟩=true
  ·rw[List.filter_cons,if_pos h2]
   simp only[List.filter_nil,List.map_cons,List.map_nil,Wl,Js,Qk7]
   simp only[onE,Bool.and_eq_true,decide_eq_true_eq]at h2
   by_cases h3:x<Q83 k (y*k+k / 2) ⟨e.1,e.2,1⟩
   ·rw[if_pos ⟨h2.1,h2.2,hb.1 h3⟩,if_pos h3];rfl
   ·rw[if_neg (λhh=>h3 (hb.2 hh.2.2)),if_neg (by rw[hcy];omega),if_neg h3];rfl
  ·rw[List.filter_cons,if_neg h2]
   simp only[List.filter_nil,List.map_nil,Js]
   simp only[onE,Bool.and_eq_true,decide_eq_true_eq]at h2
   rw[if_neg (by rw[hcy];omega),if_neg (by rw[hcy];omega)]
 ·rw[if_neg h1,if_neg (by omega)]
  by_cases h4:e.2.y<e.1.y
  ·rw[if_pos h4]
   simp only[Option.toList_some,Y2]
   have hb:=Qsh (x:=x) (y:=y) (e:=⟨e.2,e.1,-1⟩) hk h4 rfl
   simp only[]at hb
   rw[Qhk]at hb
   by_cases h2:onE (y*k+k / 2) ⟨e.2,e.1,-1⟩=true
   ·rw[List.filter_cons,if_pos h2]
    simp only[List.filter_nil,List.map_cons,List.map_nil,Wl,Js,Qk7]
    simp only[onE,Bool.and_eq_true,decide_eq_true_eq]at h2
    by_cases h3:x<Q83 k (y*k+k / 2) ⟨e.2,e.1,-1⟩
    ·rw[if_pos ⟨h2.1,h2.2,by have:=hb.1 h3;omega⟩,if_pos h3];rfl
    ·rw[if_neg (λhh=>h3 (hb.2 (by omega))),if_neg h3];rfl
   ·rw[List.filter_cons,if_neg h2]
    simp only[List.filter_nil,List.map_nil,Js]
    simp only[onE,Bool.and_eq_true,decide_eq_true_eq]at h2
    rw[if_neg (by rw[hcy];omega)]
  ·rw[if_neg h4,if_neg (by omega)]
   rfl
theorem Q4n (l l':List E5) (k cy:Int):Y2 (l++l') k cy=Y2 l k cy++Y2 l' k cy:=by simp[Y2]
theorem Qks (a b:List (Int × Int)) (x:Int):Xl (a++b) x=Xl a x+Xl b x:=by simp[Xl]
theorem Qce {k:Int} (hk:0<k) (y x:Int):∀es:List Eg,wnd es (ctr k y x)=Xl (Y2 (es.filterMap Bg) k (y*k+k / 2)) x
 | []=>rfl
 | e::es=>by
   rw[Bv,Qce hk y x es,Qs7 hk]
   have:(e::es).filterMap Bg=(Bg e).toList++es.filterMap Bg:=by
    rw[List.filterMap_cons];cases Bg e<;>rfl
   rw[this,Q4n,Qks]
def clM (x:Int):Int:=max (-4096) (min x 4096)
def K1:List (Int × Int)->Int->Int->List Rn
 | [],w,r=>if 0<w/\-4096<r then [⟨-4096,r⟩] else []
 | s::ss,w,r=>(if 0<w/\clM s.1<r then [⟨clM s.1,r⟩] else [])++K1 ss (w+s.2) (clM s.1)
theorem Qfq {ss:List (Int × Int)} {x:Int} (h:∀s∈ss,s.1<=x):Xl ss x=0:=by
 induction ss with
 | nil=>rfl
 | cons s ss ih=>rw[Wl,if_neg (by have:=h s (by simp);omega),ih λt ht=>h t (by simp[ht])];rfl
theorem Qdy:∀(ss:List (Int × Int)) (w r x:Int),ss.Pairwise (λa b=>b.1<=a.1)->r<=4096->(∀s∈ss,clM s.1<=r) ->
  (Qz (K1 ss w r) x↔(-4096<=x/\x<r)/\0<w+Xl ss x)
 | [],w,r,x,_,hr,_=>by
   rw[Js]
   unfold K1
   split
   ·rw[inRns_cons];simp only[Qt,or_false];omega
   ·simp only[Qt,false_iff];omega
 | s::ss,w,r,x,hp,hr,hc=>by
   obtain⟨p1,p2⟩:=ja.1 hp
   have hs:=hc s (by simp)
   have hcl:clM s.1<=4096:=by unfold clM;omega
   have ih:=Qdy ss (w+s.2) (clM s.1) x p2 hcl (λt ht=>by have:=p1 t ht;unfold clM;omega)
   unfold K1
   rw[W6,ih,Wl]
   by_cases hx:clM s.1<=x
   ·by_cases hxr:x<r
    ·have hsx:s.1<=x:=by unfold clM at hx;omega
     rw[if_neg (show ¬ x<s.1 by omega),Qfq (λt ht=>by have:=p1 t ht;omega)]
     split
     ·rw[inRns_cons];simp only[Qt,or_false]
      have:-4096<=clM s.1:=by unfold clM;omega
      omega
     ·simp only[Qt,false_or]
      rename_i hn
      have:-4096<=clM s.1:=by unfold clM;omega
      omega
    ·constructor
     ·rintro (h | h)
      ·split at h
       ·rw[inRns_cons]at h;simp only[Qt,or_false]at h;omega
       ·exact absurd h (Qt _)
      ·omega
     ·rintro⟨h,_⟩;omega
   ·constructor
    ·rintro (h | ⟨h1,h2⟩)
     ·split at h
      ·rw[inRns_cons]at h;simp only[Qt,or_false]at h;omega
      ·exact absurd h (Qt _)
     ·have hsx:x<s.1:=by unfold clM at hx;omega
      rw[if_pos hsx];omega
    ·rintro⟨h1,h2⟩
     have hsx:x<s.1:=by unfold clM at hx;omega
     rw[if_pos hsx]at h2
     exact .inr ⟨by omega,by omega⟩
theorem Q8k:∀(ss:List (Int × Int)) (w r:Int),-4096<=r->r<=4096->∀q∈K1 ss w r,(-4096<=q.a/\q.a<=4096)/\-4096<=q.b/\q.b<=4096
 | [],w,r,h0,hr,q,hq=>by
   unfold K1 at hq
   split at hq
   ·rw[qo.1 hq];simp only[];omega
   ·simp at hq
 | s::ss,w,r,h0,hr,q,hq=>by
   unfold K1 at hq
   rcases qg.1 hq with hq | hq
   ·split at hq
    ·rw[qo.1 hq];simp only[];unfold clM;omega
    ·simp at hq
   ·exact Q8k ss _ _ (by unfold clM;omega) (by unfold clM;omega) q hq
theorem Q8j:∀(ss:List (Int × Int)) (w r:Int),(K1 ss w r).length<=ss.length+1
 | [],w,r=>by unfold K1;split<;>simp
 | s::ss,w,r=>by
   unfold K1
   have:=Q8j ss (w+s.2) (clM s.1)
   rw[j4,List.length_cons]
   split<;>simp<;>omega
end Go.Abs
