/- Part of the library on which the proof stands: an abstract machine, its values and its soundness against the model; or what functions of the program do to such values. -/
import Derived.Test.YtnaehggpjfdenaaGreatGoRevC
import Derived.Test.YtnaehggpjfdenaaGreatAbsSS
import Derived.Test.YtnaehggpjfdenaaGreatGoShp
set_option linter.unusedVariables false
set_option linter.unusedSimpArgs false
set_option maxHeartbeats 4000000
namespace Go.Abs
structure Rn where
 a:Int
 b:Int
deriving DecidableEq
structure Rw where
 y:Int
 rs:List Rn
deriving DecidableEq
def Qj (l:List Rn) (x:Int):Prop:=∃r∈l,r.a<=x/\x<r.b
instance (l:List Rn) (x:Int):Decidable (Qj l x):=by unfold Qj;infer_instance
def RnsV (l:List Rn):Prop:=(∀r∈l,r.a<r.b)/\l.Pairwise λr s=>r.b<s.a
theorem RnsV.nil:RnsV []:=⟨by simp,List.Pairwise.nil⟩
theorem RnsV.tail {r:Rn} {l:List Rn} (h:RnsV (r::l)):RnsV l:=⟨λs hs=>h.1 s (by simp[hs]),(jd.1 h.2).2⟩
theorem Qm (x:Int):¬ Qj [] x:=by simp[Qj]
theorem inRns_cons {r:Rn} {l:List Rn} {x:Int}:Qj (r::l) x↔(r.a<=x/\x<r.b)∨Qj l x:=by simp[Qj]
theorem Jo {l k:List Rn} {x:Int}:Qj (l++k) x↔Qj l x∨Qj k x:=by
 simp only[Qj,qg]
 constructor
 ·rintro⟨r,h | h,h2⟩
  ·exact .inl ⟨r,h,h2⟩
  ·exact .inr ⟨r,h,h2⟩
 ·rintro (⟨r,h,h2⟩ | ⟨r,h,h2⟩)
  ·exact⟨r,.inl h,h2⟩
  ·exact⟨r,.inr h,h2⟩
theorem RnsV.behind {r:Rn} {l:List Rn} (h:RnsV (r::l)) {x:Int} (hx:Qj l x):r.b<x:=by
 obtain⟨s,hs,h1,h2⟩:=hx
 have:=(jd.1 h.2).1 s hs
 omega
theorem RnsV.ext:∀{l k:List Rn},RnsV l->RnsV k->(∀x,Qj l x↔Qj k x)->l=k
 | [],[],_,_,_=>rfl
 | [],r::k,_,hk,h=>by
   have hr:=hk.1 r (by simp)
   exact absurd ((h r.a).2 (inRns_cons.2 (.inl ⟨by omega,hr⟩))) (Qm _)
 | r::l,[],hl,_,h=>by
   have hr:=hl.1 r (by simp)
   exact absurd ((h r.a).1 (inRns_cons.2 (.inl ⟨by omega,hr⟩))) (Qm _)
 | r::l,s::k,hl,hk,h=>by
   have hr:=hl.1 r (by simp)
   have hs:=hk.1 s (by simp)
   have ea:r.a=s.a:=by
    have h1:=(h r.a).1 (inRns_cons.2 (.inl ⟨by omega,hr⟩))
    have h2:=(h s.a).2 (inRns_cons.2 (.inl ⟨by omega,hs⟩))
    rcases inRns_cons.1 h1 with h1 | h1
    ·rcases inRns_cons.1 h2 with h2 | h2
     ·omega
     ·have:=hl.behind h2;omega
    ·have:=hk.behind h1
     rcases inRns_cons.1 h2 with h2 | h2
     ·omega
     ·have:=hl.behind h2;omega
   have nb:∀{r:Rn} {l:List Rn},RnsV (r::l)->¬ Qj (r::l) r.b:=by
    intro r l hl hh
    rcases inRns_cons.1 hh with h1 | h1
    ·omega
    ·have:=hl.behind h1;omega
   have eb:r.b=s.b:=by
    have n1:=nb hl
    have n2:=nb hk
    refine jb λhne=>?_
    by_cases hlt:r.b<s.b
    ·exact n1 ((h r.b).2 (inRns_cons.2 (.inl ⟨by omega,hlt⟩)))
    ·exact n2 ((h s.b).1 (inRns_cons.2 (.inl ⟨by omega,by omega⟩)))
   have e:r=s:=by cases r;cases s;simp_all
   subst e
   rw[RnsV.ext hl.tail hk.tail λx=>?_]
   constructor
   ·intro hx
    have hb:=hl.behind hx
    rcases inRns_cons.1 ((h x).1 (inRns_cons.2 (.inr hx))) with h1 | h1
    ·omega
    ·exact h1
   ·intro hx
    have hb:=hk.behind hx
    rcases inRns_cons.1 ((h x).2 (inRns_cons.2 (.inr hx))) with h1 | h1
    ·omega
    ·exact h1
theorem Qfw {α:Type} (f:α->Int):∀{l k:List α},l.Pairwise (λa b=>f a<f b)->k.Pairwise (λa b=>f a<f b)->(∀a,a∈l↔a∈k)->l=k
 | [],[],_,_,_=>rfl
 | [],y::k,_,_,h=>by have:=(h y).2 (by simp);simp at this
 | x::l,[],_,_,h=>by have:=(h x).1 (by simp);simp at this
 | x::l,y::k,h1,h2,h=>by
   have p1:=jd.1 h1
   have p2:=jd.1 h2
   have hxy:x=y:=by
    rcases List.mem_cons.1 ((h x).1 (by simp)) with h3 | h3
    ·exact h3
    ·rcases List.mem_cons.1 ((h y).2 (by simp)) with h4 | h4
     ·exact h4.symm
     ·have:=p2.1 x h3;have:=p1.1 y h4;omega
   subst hxy
   rw[Qfw f p1.2 p2.2 λa=>?_]
   constructor
   ·intro ha
    rcases List.mem_cons.1 ((h a).1 (by simp[ha])) with h3 | h3
    ·subst h3;have:=p1.1 a ha;omega
    ·exact h3
   ·intro ha
    rcases List.mem_cons.1 ((h a).2 (by simp[ha])) with h3 | h3
    ·subst h3;have:=p2.1 a ha;omega
    ·exact h3
def Xx (g:List Rw) (y x:Int):Prop:=∃w∈g,w.y=y/\Qj w.rs x
structure RgV (g:List Rw):Prop where
 rs:∀w∈g,RnsV w.rs
 ne:∀w∈g,w.rs≠[]
 asc:g.Pairwise λu v=>u.y<v.y
theorem RgV.nil:RgV []:=⟨by simp,by simp,List.Pairwise.nil⟩
theorem RgV.uniq {g:List Rw} (h:RgV g) {u v:Rw} (hu:u∈g) (hv:v∈g) (he:u.y=v.y):u=v:=by
 obtain⟨i,hi,rfl⟩:=List.mem_iff_getElem.1 hu
 obtain⟨j,hj,rfl⟩:=List.mem_iff_getElem.1 hv
 have hp:=j8.1 h.asc
 by_cases h1:i<j
 ·have:=hp i j hi hj h1;omega
 ·by_cases h2:j<i
  ·have:=hp j i hj hi h2;omega
  ·obtain rfl:i=j:=by omega
   rfl
theorem RgV.row {g:List Rw} (h:RgV g) {w:Rw} (hw:w∈g) (x:Int):Xx g w.y x↔Qj w.rs x:=by
 constructor
 ·rintro⟨v,hv,he,hx⟩
  rw[h.uniq hw hv he.symm];exact hx
 ·intro hx;exact⟨w,hw,rfl,hx⟩
theorem RnsV.some {l:List Rn} (h:RnsV l) (hn:l≠[]):∃x,Qj l x:=by
 cases l with
 | nil=>exact absurd rfl hn
 | cons r l=>exact⟨r.a,inRns_cons.2 (.inl ⟨Int.le_refl _,h.1 r (by simp)⟩)⟩
theorem RgV.ext {g k:List Rw} (hg:RgV g) (hk:RgV k) (h:∀y x,Xx g y x↔Xx k y x):g=k:=by
 have key:∀{g k:List Rw},RgV g->RgV k->(∀y x,Xx g y x↔Xx k y x)->∀w,w∈g->w∈k:=by
  intro g k hg hk h w hw
  obtain⟨x,hx⟩:=(hg.rs w hw).some (hg.ne w hw)
  obtain⟨v,hv,he,_⟩:=(h w.y x).1 ⟨w,hw,rfl,hx⟩
  have:w.rs=v.rs:=(hg.rs w hw).ext (hk.rs v hv) λx=>by
   rw[<- hg.row hw,<- hk.row hv,he];exact h w.y x
  have e:w=v:=by cases w;cases v;simp_all
  rw[e];exact hv
 exact Qfw Rw.y hg.asc hk.asc λw=>⟨key hg hk h w,key hk hg (λy x=>(h y x).symm) w⟩
def Ym (l:List Rn) (x:Int):List Rn :=
 match l.getLast? with
 | some r=>if r.b=x then l.dropLast++[⟨r.a,x+1⟩] else l++[⟨x,x+1⟩]
 | none=>[⟨x,x+1⟩]
theorem Kn (x:Int):Ym [] x=[⟨x,x+1⟩]:=rfl
theorem Un (l:List Rn) (r:Rn) (x:Int):Ym (l++[r]) x=if r.b=x then l++[⟨r.a,x+1⟩] else l++[r]++[⟨x,x+1⟩]:=by
 unfold Ym;simp
theorem RnsV.snoc {l:List Rn} {s:Rn}:RnsV (l++[s])↔RnsV l/\s.a<s.b/\∀r∈l,r.b<s.a:=by
 unfold RnsV
 rw[jg]
 constructor
 ·rintro⟨h1,h2,_,h3⟩
  exact⟨⟨λr hr=>h1 r (by simp[hr]),h2⟩,h1 s (by simp),λr hr=>h3 r hr s (by simp)⟩
 ·rintro⟨⟨h1,h2⟩,h3,h4⟩
  refine⟨λr hr=>?_,h2,by simp,λr hr s' hs=>?_⟩
  ·rcases qg.1 hr with hr | hr
   ·exact h1 r hr
   ·rw[qn.1 hr];exact h3
  ·rw[qn.1 hs];exact h4 r hr
theorem Y7 {α:Type} (l:List α):l=[]∨∃k r,l=k++[r]:=by
 rcases List.eq_nil_or_concat l with h | ⟨k,r,h⟩
 ·exact .inl h
 ·exact .inr ⟨k,r,by simpa using h⟩
theorem Q4t {l:List Rn} {x:Int} (h:RnsV l) (hb:∀r∈l,r.b<=x):RnsV (Ym l x)/\(∀r∈Ym l x,r.b<=x+1)/\∀y,Qj (Ym l x) y↔Qj l y∨y=x:=by
 rcases Y7 l with rfl | ⟨k,r,rfl⟩
 ·rw[Kn]
  refine⟨⟨by simp;omega,by simp⟩,by simp,λy=>?_⟩
  simp only[inRns_cons,Qm,or_false,false_or]
  omega
 ·obtain⟨h1,h2,h3⟩:=RnsV.snoc.1 h
  have hr:=hb r (by simp)
  rw[Un]
  by_cases he:r.b=x
  ·rw[if_pos he]
   refine⟨RnsV.snoc.2 ⟨h1,by simp only[];omega,λs hs=>h3 s hs⟩,λs hs=>?_,λy=>?_⟩
   ·rcases qg.1 hs with hs | hs
    ·have:=hb s (by simp[hs]);omega
    ·rw[qn.1 hs];exact Int.le_refl _
   ·simp only[Jo,inRns_cons,Qm,or_false]
    by_cases hk:Qj k y<;>simp only[hk,true_or,false_or,or_true]<;>omega
  ·rw[if_neg he]
   refine⟨RnsV.snoc.2 ⟨h,by simp only[];omega,λs hs=>?_⟩,λs hs=>?_,λy=>?_⟩
   ·rcases qg.1 hs with hs | hs
    ·have:=h3 s hs;simp only[];omega
    ·rw[qn.1 hs];simp only[];omega
   ·rcases qg.1 hs with hs | hs
    ·have:=hb s hs;omega
    ·rw[qn.1 hs];exact Int.le_refl _
   ·simp only[Jo,inRns_cons,Qm,or_false]
    by_cases hk:Qj k y<;>simp only[hk,true_or,false_or,or_true]<;>omega
theorem Q6v:∀(xs:List Int) {l:List Rn},RnsV l->xs.Pairwise (·<·)->(∀r∈l,∀x∈xs,r.b<=x)->RnsV (xs.foldl Ym l)/\∀y,Qj (xs.foldl Ym l) y↔Qj l y∨y∈xs
 | [],l,h,_,_=>⟨h,λy=>by simp⟩
 | x::xs,l,h,ha,hb=>by
   obtain⟨h1,h2,h3⟩:=Q4t h (λr hr=>hb r hr x (by simp))
   obtain⟨a1,a2⟩:=jd.1 ha
   obtain⟨g1,g2⟩:=Q6v xs h1 a2 (λr hr y hy=>by have:=h2 r hr;have:=a1 y hy;omega)
   refine⟨g1,λy=>?_⟩
   rw[List.foldl_cons,g2,h3,List.mem_cons]
   constructor
   ·rintro ((h | h) | h)
    ·exact .inl h
    ·exact .inr (.inl h)
    ·exact .inr (.inr h)
   ·rintro (h | h | h)
    ·exact .inl (.inl h)
    ·exact .inl (.inr h)
    ·exact .inr h
theorem Q6r:∃l:List Int,(∀x,x∈l↔-4096<=x/\x<4096)/\l.Pairwise (·<·):=by
 refine⟨(List.range 8192).map λi:Nat=>(i:Int)-4096,λx=>?_,?_⟩
 ·rw[qo]
  constructor
  ·rintro⟨i,hi,rfl⟩
   have:=qz.1 hi;omega
  ·rintro⟨h1,h2⟩
   exact⟨(x+4096).toNat,qz.2 (by omega),by omega⟩
 ·rw[ji]
  exact List.pairwise_lt_range.imp λh=>by omega
noncomputable def gridL:List Int:=Classical.choose Q6r
theorem mem_gridL {x:Int}:x∈gridL↔-4096<=x/\x<4096:=(Classical.choose_spec Q6r).1 x
theorem gridL_asc:gridL.Pairwise (·<·):=(Classical.choose_spec Q6r).2
noncomputable def Q1w (p:Int->Bool):List Rn:=(gridL.filter p).foldl Ym []
theorem Qsz (p:Int->Bool):RnsV (Q1w p):=(Q6v _ RnsV.nil (gridL_asc.filter p) (by simp)).1
theorem in_canonL {p:Int->Bool} {x:Int}:Qj (Q1w p) x↔(-4096<=x/\x<4096)/\p x=true:=by
 unfold Q1w
 rw[(Q6v _ RnsV.nil (gridL_asc.filter p) (by simp)).2,qu,mem_gridL]
 simp[Qm]
noncomputable def K4 (p:Int->Int->Bool):List Rw:=(gridL.map λy=>Rw.mk y (Q1w (p y))).filter λw=>decide (w.rs≠[])
theorem Q75 (p:Int->Int->Bool):RgV (K4 p) where
 rs w hw:=by
  unfold K4 at hw
  obtain⟨h1,_⟩:=qu.1 hw
  obtain⟨y,_,rfl⟩:=qo.1 h1
  exact Qsz _
 ne w hw:=by
  unfold K4 at hw
  simpa using(qu.1 hw).2
 asc:=by
  unfold K4
  refine List.Pairwise.filter _ ?_
  rw[ji]
  exact gridL_asc
theorem in_canonR {p:Int->Int->Bool} {y x:Int}:Xx (K4 p) y x↔(-4096<=y/\y<4096)/\(-4096<=x/\x<4096)/\p y x=true:=by
 constructor
 ·rintro⟨w,hw,rfl,hx⟩
  unfold K4 at hw
  obtain⟨h1,_⟩:=qu.1 hw
  obtain⟨y,hy,rfl⟩:=qo.1 h1
  obtain⟨h2,h3⟩:=in_canonL.1 hx
  exact⟨mem_gridL.1 hy,h2,h3⟩
 ·rintro⟨hy,hx,hp⟩
  have hin:Qj (Q1w (p y)) x:=in_canonL.2 ⟨hx,hp⟩
  unfold K4
  refine⟨⟨y,Q1w (p y)⟩,qu.2 ⟨qo.2 ⟨y,mem_gridL.2 hy,rfl⟩,?_⟩,rfl,hin⟩
  simp only[decide_eq_true_eq]
  intro h0
  rw[h0]at hin
  exact Qm _ hin
def RgB (g:List Rw):Prop:=∀y x,Xx g y x->(-4096<=y/\y<4096)/\-4096<=x/\x<4096
theorem Qfq (p:Int->Int->Bool):RgB (K4 p):=λy x h=>by
 obtain⟨h1,h2,_⟩:=in_canonR.1 h
 exact⟨h1,h2⟩
theorem Q1v {g:List Rw} (h:RgV g) {p:Int->Int->Bool} (hp:∀y x,Xx g y x↔(-4096<=y/\y<4096)/\(-4096<=x/\x<4096)/\p y x=true):g=K4 p :=
 h.ext (Q75 p) λy x=>by rw[hp,in_canonR]
theorem RgB.run {g:List Rw} (h:RgV g) (hb:RgB g) {w:Rw} (hw:w∈g) {r:Rn} (hr:r∈w.rs):(-4096<=w.y/\w.y<4096)/\-4096<=r.a/\r.a<r.b/\r.b<=4096:=by
 have hab:=(h.rs w hw).1 r hr
 have h1:=hb w.y r.a ⟨w,hw,rfl,r,hr,Int.le_refl _,hab⟩
 have h2:=hb w.y (r.b-1) ⟨w,hw,rfl,r,hr,by omega,by omega⟩
 omega
noncomputable def Km (g k:List Rw):List Rw:=open Classical in K4 λy x=>decide (Xx g y x∨Xx k y x)
theorem Q49 {g k:List Rw} (hg:RgB g) (hk:RgB k) {y x:Int}:Xx (Km g k) y x↔Xx g y x∨Xx k y x:=by
 unfold Km
 rw[in_canonR]
 constructor
 ·rintro⟨_,_,h⟩;simpa using h
 ·intro h
  have hb:(-4096<=y/\y<4096)/\-4096<=x/\x<4096:=by
   rcases h with h | h
   ·exact hg y x h
   ·exact hk y x h
  exact⟨hb.1,hb.2,by simpa using h⟩
theorem Wu (g k:List Rw):RgV (Km g k):=Q75 _
theorem Qgh (g k:List Rw):RgB (Km g k):=Qfq _
theorem RgB.nil:RgB []:=λy x h=>by obtain⟨w,hw,_⟩:=h;simp at hw
theorem Qdk {g:List Rw} (hg:RgV g) (hb:RgB g):Km [] g=g :=
 (Wu [] g).ext hg λy x=>by
  rw[Q49 RgB.nil hb]
  constructor
  ·rintro (⟨w,hw,_⟩ | h)
   ·simp at hw
   ·exact h
  ·exact .inr
def Qj2 (P:Program) (f:FuncId):Prop:=CallIs P f [] (.b true)
theorem par_i {k:IntKind} {ps:List (Bool × List Sch)} {us:List V} (h:Ke ((false,[.i k])::ps) us):∃n r,us=.i k n::r/\(k.min<=n/\n<=k.max)/\Ke ps r:=by
 simp only[Ke,Qji]at h
 obtain⟨v,r,rfl,hv,hr⟩:=h
 simp only[okL,Sch.ok]at hv
 obtain⟨x,r',h1,⟨n,rfl,h2⟩,rfl⟩:=hv
 obtain rfl:v=.i k n:=by simpa using h1
 exact⟨n,r,rfl,h2,hr⟩
theorem par_0 {us:List V} (h:Ke [] us):us=[]:=h
def Qj1 (P:Program) (f:FuncId) (sz:Nat):Prop:=∀els:List (List V),els.all (λel=>el.all V.isD)=true->els.length<=1000000->NewC P f [.l sz els] (λr h=>r=.own 0 1 0 els.length/\h=[.arr 1 sz els])
theorem Kg {x:V} (n:Nat) (h:x.isD=true):x.cl n=true:=by cases x<;>simp[V.isD]at h<;>simp[V.cl,V.cl1,V.cl0]
section
variable {P:Program} (hm:P.follows .mixedOrders=true)
include hm
theorem Q0l {f:FuncId} (hf:Q9 P f L2l.c L2l.r L2l.n):Qj1 P f 3:=by
 intro els hel hlen
 refine Qga 3 ?_
 refine Qpt hm hf (qh rfl) ?_
 unfold L2l.c
 cases els with
 | nil=>simp[go_sem,L2l.r]
 | cons e l =>
   simp only[List.length_cons]at hlen
   simp[go_sem,L2l.r]
   simp only[List.all_cons,Bool.and_eq_true,qj]at hel
   exact⟨⟨by omega,by omega⟩,λx hx=>Kg 1 (hel.1 x hx),λa ha x hx=>Kg 1 (hel.2 a ha x hx)⟩
end
def Qlh:List Sch:=[.i .i64,.i .i64,.i .i64]
def schM:List Sch:=[.sl Qlh,.sl Qlh]
theorem v3_of {e:List V} (h:okL Qlh e):∃v:V3,e=v.cs:=by
 simp only[Qlh,okL,Sch.ok]at h
 obtain⟨v1,r1,rfl,⟨x,rfl,_⟩,v2,r2,rfl,⟨y,rfl,_⟩,v3,r3,rfl,⟨z,rfl,_⟩,rfl⟩:=h
 exact⟨⟨x,y,z⟩,rfl⟩
theorem t3_of {e:List V} (h:okL Qlh e):∃v:T3,e=v.cs:=by
 simp only[Qlh,okL,Sch.ok]at h
 obtain⟨v1,r1,rfl,⟨x,rfl,_⟩,v2,r2,rfl,⟨y,rfl,_⟩,v3,r3,rfl,⟨z,rfl,_⟩,rfl⟩:=h
 exact⟨⟨x,y,z⟩,rfl⟩
theorem Qbl {α:Type} {f:α->List V} {el:List Sch} (hf:∀e,okL el e->∃v,e=f v):∀els:List (List V),(∀e∈els,okL el e)->∃l:List α,els=l.map f
 | [],_=>⟨[],rfl⟩
 | e::els,h=>by
   obtain⟨l,rfl⟩:=Qbl hf els (λe he=>h e (by simp[he]))
   obtain⟨v,rfl⟩:=hf e (h e (by simp))
   exact⟨v::l,rfl⟩
theorem par_m {ps:List (Bool × List Sch)} {us:List V} (h:Ke ((true,schM)::ps) us):∃(m:Mesh) (r:List V),us=m.enc::r/\(m.verts.length<=9223372036854775807/\m.tris.length<=9223372036854775807)/\Ke ps r:=by
 simp only[Ke,Qji]at h
 obtain⟨v,r,rfl,⟨cs,rfl,hc⟩,hr⟩:=h
 simp only[schM,okL,Sch.ok]at hc
 obtain⟨v1,r1,rfl,⟨els,rfl,hl,he⟩,v2,r2,rfl,⟨els2,rfl,hl2,he2⟩,rfl⟩:=hc
 obtain⟨vs,rfl⟩:=Qbl (λe=>v3_of) els he
 obtain⟨ts,rfl⟩:=Qbl (λe=>t3_of) els2 he2
 exact⟨⟨vs,ts⟩,r,rfl,⟨by simpa using hl,by simpa using hl2⟩,hr⟩
structure P2 where
 x:Int
 y:Int
deriving DecidableEq
def P2.cs (p:P2):List V:=[.i .i64 p.x,.i .i64 p.y]
def P2.enc (p:P2):V:=.a p.cs
def psV (l:List P2):V:=.l 2 (l.map P2.cs)
theorem pcs (p:P2):p.cs=[.i .i64 p.x,.i .i64 p.y]:=Rfl rfl
def inI (n:Int):Bool:=decide (-9223372036854775808<=n) && decide (n<=9223372036854775807)
def Q6d (m:Mesh) (e:Int):V:=.t [m.enc,.i .i64 e]
def Q6c:Mesh:=⟨[],[]⟩
theorem mesV_le {u v:V} {vs:List V3} {ts:List T3} {e:Int} (h1:Le0 u (vsV vs)) (h2:Le0 v (tsV ts)):Le (.t [.a [u,v],.i .i64 e]) (Q6d ⟨vs,ts⟩ e) :=
 .inr ⟨_,_,rfl,rfl,.inr ⟨_,_,rfl,rfl,h1,h2,trivial⟩,Le1.refl _,trivial⟩
theorem Q9d (e:Int):Le (.t [.a [.nil,.nil],.i .i64 e]) (Q6d Q6c e):=mesV_le (Le0.nil 3) (Le0.nil 3)
def Qix (P:Program) (f:FuncId):Prop:=∀l:List V3,l.length<=1000000->CallIs P f [vsV l] (.b (J9 l))
def Qud (P:Program) (f:FuncId):Prop:=∀v:V3,CallIs P f [v.enc] (.b (v.within 131072))
def V3.plus (a b:V3):V3:=⟨IntKind.i64.wrap (a.x+b.x),IntKind.i64.wrap (a.y+b.y),IntKind.i64.wrap (a.z+b.z)⟩
def Qke (P:Program) (f:FuncId):Prop:=∀a b:V3,CallIs P f [a.enc,b.enc] (a.plus b).enc
def V3.add (a b:V3):V3:=⟨a.x+b.x,a.y+b.y,a.z+b.z⟩
def Qe (p s:V3):List V3 :=
 [⟨p.x,p.y,p.z⟩,⟨p.x+s.x,p.y,p.z⟩,⟨p.x,p.y+s.y,p.z⟩,⟨p.x+s.x,p.y+s.y,p.z⟩,⟨p.x,p.y,p.z+s.z⟩,⟨p.x+s.x,p.y,p.z+s.z⟩,⟨p.x,p.y+s.y,p.z+s.z⟩,⟨p.x+s.x,p.y+s.y,p.z+s.z⟩]
def Q27 (P:Program) (f:FuncId):Prop:=∀p s:V3,p.valid=true->s.within 131072=true->CallIs P f [p.enc,s.enc] (.a ((Qe p s).flatMap V3.cs))
theorem within_iff {v:V3} {k:Int}:v.within k=true↔(-k<=v.x/\v.x<=k/\-k<=v.y/\v.y<=k/\-k<=v.z/\v.z<=k):=by
 simp[V3.within,and_assoc]
theorem Qee {a b:V3} (h1:a.valid=true) (h2:b.within 131072=true):a.plus b=a.add b:=by
 have:=V3.valid_iff.1 h1
 have:=within_iff.1 h2
 simp only[V3.plus,V3.add]
 rw[Q0 (by omega) (by omega),Q0 (by omega) (by omega),Q0 (by omega) (by omega)]
section
variable {P:Program} (hm:P.follows .mixedOrders=true)
include hm
theorem Q4w {f fv:FuncId} (hf:Q9 P f (L2g.c fv) L2g.r L2g.n) (hv:K6 P fv):Qix P f:=by
 intro l hl
 refine PureC.is (Q6 hm hf (qh rfl) ?_) rfl
 unfold L2g.c
 simp[go_sem,vsV]
 refine Qc (α:=Nat) (λk=>k<=l.length/\J9 (l.take k)=true)
  (λk=>⟨[(5,vsV l),(6,.i .i64 l.length),(7,.i .i64 k)],[]⟩)
  (λk=>l.length-k) 0 ⟨Nat.zero_le _,rfl⟩ ?_ ?_
 ·simp[go_sem,vsV]
 ·rintro k ⟨hk,hok⟩
  cases hp:l[k]? with
  | none =>
    have:¬ k<l.length:=by simpa using hp
    obtain rfl:k=l.length:=by omega
    rw[qi]at hok
    simp[go_sem,vsV,L2g.r,hok]
  | some p =>
    obtain⟨hlt,hp'⟩:=q8.1 hp
    simp[go_sem,vsV,hlt,hp',vcs]
    refine Q4 (hv p) ?_
    cases hvp:p.valid
    ·simp[go_sem,L2g.r,I1 hp hvp]
    ·simp (disch:=omega) [go_sem,Q0]
     refine⟨k+1,⟨by omega,?_⟩,by omega,?_⟩
     ·rw[Q0c hp,hok,hvp];rfl
     ·simp (disch:=omega) [go_sem,vsV,Q0]
theorem Q4v {f:FuncId} (hf:Q9 P f L2h.c L2h.r L2h.n):Qud P f:=by
 intro v
 refine PureC.is (Q6 hm hf (qh rfl) ?_) rfl
 unfold L2h.c
 have hw:=@within_iff v 131072
 by_cases h1:v.x<=131072/\v.y<=131072/\v.z<=131072
 ·have h2:max (max v.x v.y) v.z<=131072:=by omega
  simp +contextual -implicitDefEqProofs [go_sem,V3.enc,V3.cs,L2h.r,h1,h2]
  rw[Bool.eq_iff_iff,hw];simp;omega
 ·have h2:¬ max (max v.x v.y) v.z<=131072:=by omega
  simp +contextual -implicitDefEqProofs [go_sem,V3.enc,V3.cs,L2h.r,h1,h2]
  rw[Bool.eq_iff_iff,hw];simp;omega
theorem Q4u {f:FuncId} (hf:Q9 P f L2i.c L2i.r L2i.n):Qke P f:=by
 intro a b
 refine PureC.is (Q6 hm hf (qh rfl) ?_) rfl
 unfold L2i.c
 simp[go_sem,V3.enc,V3.cs,L2i.r,V3.plus]
theorem Bc {f fp:FuncId} (hf:Q9 P f (L2f.c fp) L2f.r L2f.n) (hp:Qke P fp):Q27 P f:=by
 intro p s hv hs
 have h1:=V3.valid_iff.1 hv
 have h2:=within_iff.1 hs
 refine PureC.is (Q6 hm hf (qh rfl) ?_) rfl
 unfold L2f.c
 simp[go_sem,V3.enc,V3.cs]
 refine Qc (α:=Nat) (λk=>k<=8)
  (λk=>⟨[(2,.p 0 1 0 0),(3,.p 1 1 0 0),(4,.p 2 1 0 0),(5,.p 3 1 0 0),(7,.i .i64 k)],[.arr 1 3 [p.cs],.arr 1 3 [s.cs],.arr 1 24 [List.replicate 24 (.i .i64 0)],.arr 1 24 [((Qe p s).take k).flatMap V3.cs++List.replicate (24-3*k) (.i .i64 0)]]⟩)
  (λk=>8-k) 0 (by omega) ?_ ?_
 ·simp[go_sem,vcs]
 ·intro k hk
  by_cases h8:k=8
  ·subst h8
   simp[go_sem,L2f.r,Qe,V3.cs]
  ·have:k=0∨k=1∨k=2∨k=3∨k=4∨k=5∨k=6∨k=7:=by omega
   have w0:IntKind.i64.wrap 0=0:=rfl
   have w1:IntKind.i64.wrap 1=1:=rfl
   have wx:IntKind.i64.wrap s.x=s.x:=Q0 (by omega) (by omega)
   have wy:IntKind.i64.wrap s.y=s.y:=Q0 (by omega) (by omega)
   have wz:IntKind.i64.wrap s.z=s.z:=Q0 (by omega) (by omega)
   rcases this with rfl | rfl | rfl | rfl | rfl | rfl | rfl | rfl
   ·simp[go_sem,vcs,w0,w1,wx,wy,wz]
    refine Q4 (hp p ⟨0,0,0⟩) ?_
    simp (disch:=omega) [go_sem,Q0,V3.plus,V3.enc,V3.cs,w0,w1,Qe]
    exact⟨1,by simp[go_sem,V3.cs,or_imp,forall_and,V.cl,V.cl1,V.cl0]⟩
   ·simp[go_sem,vcs,w0,w1,wx,wy,wz]
    refine Q4 (hp p ⟨s.x,0,0⟩) ?_
    simp (disch:=omega) [go_sem,Q0,V3.plus,V3.enc,V3.cs,w0,w1,Qe]
    exact⟨2,by simp[go_sem,V3.cs,or_imp,forall_and,V.cl,V.cl1,V.cl0]⟩
   ·simp[go_sem,vcs,w0,w1,wx,wy,wz]
    refine Q4 (hp p ⟨0,s.y,0⟩) ?_
    simp (disch:=omega) [go_sem,Q0,V3.plus,V3.enc,V3.cs,w0,w1,Qe]
    exact⟨3,by simp[go_sem,V3.cs,or_imp,forall_and,V.cl,V.cl1,V.cl0]⟩
   ·simp[go_sem,vcs,w0,w1,wx,wy,wz]
    refine Q4 (hp p ⟨s.x,s.y,0⟩) ?_
    simp (disch:=omega) [go_sem,Q0,V3.plus,V3.enc,V3.cs,w0,w1,Qe]
    exact⟨4,by simp[go_sem,V3.cs,or_imp,forall_and,V.cl,V.cl1,V.cl0]⟩
   ·simp[go_sem,vcs,w0,w1,wx,wy,wz]
    refine Q4 (hp p ⟨0,0,s.z⟩) ?_
    simp (disch:=omega) [go_sem,Q0,V3.plus,V3.enc,V3.cs,w0,w1,Qe]
    exact⟨5,by simp[go_sem,V3.cs,or_imp,forall_and,V.cl,V.cl1,V.cl0]⟩
   ·simp[go_sem,vcs,w0,w1,wx,wy,wz]
    refine Q4 (hp p ⟨s.x,0,s.z⟩) ?_
    simp (disch:=omega) [go_sem,Q0,V3.plus,V3.enc,V3.cs,w0,w1,Qe]
    exact⟨6,by simp[go_sem,V3.cs,or_imp,forall_and,V.cl,V.cl1,V.cl0]⟩
   ·simp[go_sem,vcs,w0,w1,wx,wy,wz]
    refine Q4 (hp p ⟨0,s.y,s.z⟩) ?_
    simp (disch:=omega) [go_sem,Q0,V3.plus,V3.enc,V3.cs,w0,w1,Qe]
    exact⟨7,by simp[go_sem,V3.cs,or_imp,forall_and,V.cl,V.cl1,V.cl0]⟩
   ·simp[go_sem,vcs,w0,w1,wx,wy,wz]
    refine Q4 (hp p ⟨s.x,s.y,s.z⟩) ?_
    simp (disch:=omega) [go_sem,Q0,V3.plus,V3.enc,V3.cs,w0,w1,Qe]
    exact⟨8,by simp[go_sem,V3.cs,or_imp,forall_and,V.cl,V.cl1,V.cl0]⟩
end
def P2.valid (p:P2):Bool:=decide (-16777216<=p.x) && decide (p.x<=16777216) && decide (-16777216<=p.y) && decide (p.y<=16777216)
theorem P2.valid_iff {p:P2}:p.valid=true↔(-16777216<=p.x/\p.x<=16777216/\-16777216<=p.y/\p.y<=16777216):=by simp[P2.valid,and_assoc]
def Y1 (a b c:P2):Int:=(b.x-a.x)*(c.y-a.y)-(b.y-a.y)*(c.x-a.x)
def Ki (a b c:P2):Int:=if a.valid=true/\b.valid=true/\c.valid=true then Y1 a b c else 0
def Qon (a b c:P2):Int:=if 0<Ki a b c then 1 else if Ki a b c<0 then -1 else 0
def Xo (P:Program) (f:FuncId):Prop:=∀p:P2,CallIs P f [p.enc] (.b p.valid)
def Qd5 (P:Program) (f:FuncId):Prop:=∀a b c:P2,CallIs P f [a.enc,b.enc,c.enc] (.i .i64 (Ki a b c))
def Qtj (P:Program) (f:FuncId):Prop:=∀a b c:P2,CallIs P f [a.enc,b.enc,c.enc] (.i .i64 (Qon a b c))
theorem Xh {a b:Int} {k m:Nat} (ha:-(k:Int)<=a/\a<=k) (hb:-(m:Int)<=b/\b<=m):-((k*m:Nat):Int)<=a*b/\a*b<=(k*m:Nat):=by
 have h1:a.natAbs<=k:=by omega
 have h2:b.natAbs<=m:=by omega
 have h3:=Nat.mul_le_mul h1 h2
 rw[<- Int.natAbs_mul]at h3
 omega
section
variable {P:Program} (hm:P.follows .mixedOrders=true)
include hm
theorem Wl {f:FuncId} (hf:Q9 P f L0m.c L0m.r L0m.n):Xo P f:=by
 intro p
 refine PureC.is (Q6 hm hf (qh rfl) ?_) rfl
 unfold L0m.c
 simp +contextual -implicitDefEqProofs [go_sem,P2.enc,P2.cs,L0m.r]
 simp[P2.valid,and_assoc]
theorem Q5g {f:FuncId} (hf:Q9 P f L10.c L10.r L10.n):Xo P f:=Wl hm hf
theorem Q3a {f fv:FuncId} (hf:Q9 P f (L0l.c fv) L0l.r L0l.n) (hv:Xo P fv):Qd5 P f:=by
 intro a b c
 refine PureC.is (Q6 hm hf (qh rfl) ?_) rfl
 unfold L0l.c
 simp[go_sem,P2.enc,P2.cs]
 refine Q4 (hv a) ?_
 cases ha:a.valid
 ·simp[go_sem,L0l.r,Ki,ha]
 simp[go_sem]
 refine Q4 (hv b) ?_
 cases hb:b.valid
 ·simp[go_sem,L0l.r,Ki,hb]
 simp[go_sem]
 refine Q4 (hv c) ?_
 cases hc:c.valid
 ·simp[go_sem,L0l.r,Ki,hc]
 have h1:=P2.valid_iff.1 ha
 have h2:=P2.valid_iff.1 hb
 have h3:=P2.valid_iff.1 hc
 have m1:=Xh (a:=b.x-a.x) (b:=c.y-a.y) (k:=33554432) (m:=33554432) (by omega) (by omega)
 have m2:=Xh (a:=b.y-a.y) (b:=c.x-a.x) (k:=33554432) (m:=33554432) (by omega) (by omega)
 simp (disch:=omega) [go_sem,L0l.r,Ki,ha,hb,hc,Q0,Y1]
theorem Q5h {f fv:FuncId} (hf:Q9 P f (L0y.c fv) L0y.r L0y.n) (hv:Xo P fv):Qd5 P f:=Q3a hm hf hv
theorem Q7z {f fc:FuncId} (hf:Q9 P f (L0z.c fc) L0z.r L0z.n) (hc:Qd5 P fc):Qtj P f:=by
 intro a b c
 refine PureC.is (Q6 hm hf (qh rfl) ?_) rfl
 unfold L0z.c
 simp[go_sem,P2.enc,P2.cs]
 refine Q4 (hc a b c) ?_
 unfold Qon
 by_cases h1:0<Ki a b c
 ·simp[go_sem,L0z.r,h1]
 ·by_cases h2:Ki a b c<0<;>simp[go_sem,L0z.r,h1,h2]
end
end Go.Abs
