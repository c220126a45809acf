/- Part of the library on which the proof stands: an abstract machine, its values and its soundness against the model; or what functions of the program do to such values. -/
import Derived.Test.YtnaehggpjfdenaaGreatGoRevC
import Derived.Test.YtnaehggpjfdenaaGreatAbsCP
import Derived.Test.YtnaehggpjfdenaaGreatGoShp
set_option linter.unusedVariables false
set_option linter.unusedSimpArgs false
set_option maxHeartbeats 4000000
namespace Go.Abs
structure Rn where
 a:Int
 b:Int
deriving DecidableEq
structure Rw where
 y:Int
 rs:List Rn
deriving DecidableEq
def Qb (l:List Rn) (x:Int):Prop:=∃r∈l,r.a<=x/\x<r.b
instance (l:List Rn) (x:Int):Decidable (Qb l x):=by unfold Qb;infer_instance
def RnsV (l:List Rn):Prop:=(∀r∈l,r.a<r.b)/\l.Pairwise λr s=>r.b<s.a
theorem RnsV.nil:RnsV []:=⟨by simp,List.Pairwise.nil⟩
theorem RnsV.tail {r:Rn} {l:List Rn} (h:RnsV (r::l)):RnsV l:=⟨λs hs=>h.1 s (by simp[hs]),(jd.1 h.2).2⟩
theorem Qj (x:Int):¬ Qb [] x:=by simp[Qb]
theorem inRns_cons {r:Rn} {l:List Rn} {x:Int}:Qb (r::l) x↔(r.a<=x/\x<r.b)∨Qb l x:=by simp[Qb]
theorem Yz {l k:List Rn} {x:Int}:Qb (l++k) x↔Qb l x∨Qb k x:=by
 simp only[Qb,qg];constructor
 ·rintro⟨r,h | h,h2⟩
  ·exact .inl ⟨r,h,h2⟩
  ·exact .inr ⟨r,h,h2⟩
 ·rintro (⟨r,h,h2⟩ | ⟨r,h,h2⟩)
  ·exact⟨r,.inl h,h2⟩
  ·exact⟨r,.inr h,h2⟩
theorem RnsV.behind {r:Rn} {l:List Rn} (h:RnsV (r::l)) {x:Int} (hx:Qb l x):r.b<x:=by
 obtain⟨s,hs,h1,h2⟩:=hx;have:=(jd.1 h.2).1 s hs;omega
theorem RnsV.ext:∀{l k:List Rn},RnsV l->RnsV k->(∀x,Qb l x↔Qb k x)->l=k
 | [],[],_,_,_=>rfl
 | [],r::k,_,hk,h=>by
   have hr:=hk.1 r (by simp);exact absurd ((h r.a).2 (inRns_cons.2 (.inl ⟨by omega,hr⟩))) (Qj _)
 | r::l,[],hl,_,h=>by
   have hr:=hl.1 r (by simp);exact absurd ((h r.a).1 (inRns_cons.2 (.inl ⟨by omega,hr⟩))) (Qj _)
 | r::l,s::k,hl,hk,h=>by
   have hr:=hl.1 r (by simp);have hs:=hk.1 s (by simp);have ea:r.a=s.a:=by
    have h1:=(h r.a).1 (inRns_cons.2 (.inl ⟨by omega,hr⟩));have h2:=(h s.a).2 (inRns_cons.2 (.inl ⟨by omega,hs⟩));rcases inRns_cons.1 h1 with h1 | h1
    ·rcases inRns_cons.1 h2 with h2 | h2
     ·omega
     ·have:=hl.behind h2;omega
    ·have:=hk.behind h1;rcases inRns_cons.1 h2 with h2 | h2
     ·omega
     ·have:=hl.behind h2;omega
   have nb:∀{r:Rn} {l:List Rn},RnsV (r::l)->¬ Qb (r::l) r.b:=by
    intro r l hl hh;rcases inRns_cons.1 hh with h1 | h1
    ·omega
    ·have:=hl.behind h1;omega
   have eb:r.b=s.b:=by
    have n1:=nb hl;have n2:=nb hk;refine jb λhne=>?_
    by_cases hlt:r.b<s.b
    ·exact n1 ((h r.b).2 (inRns_cons.2 (.inl ⟨by omega,hlt⟩)))
    ·exact n2 ((h s.b).1 (inRns_cons.2 (.inl ⟨by omega,by omega⟩)))
   have e:r=s:=by cases r;cases s;simp_all
   subst e;rw[RnsV.ext hl.tail hk.tail λx=>?_];constructor
   ·intro hx;have hb:=hl.behind hx;rcases inRns_cons.1 ((h x).1 (inRns_cons.2 (.inr hx))) with h1 | h1
    ·omega
    ·exact h1
   ·intro hx;have hb:=hk.behind hx;rcases inRns_cons.1 ((h x).2 (inRns_cons.2 (.inr hx))) with h1 | h1
    ·omega
    ·exact h1
theorem Qkz {α:Type} (f:α->Int):∀{l k:List α},l.Pairwise (λa b=>f a<f b)->k.Pairwise (λa b=>f a<f b)->(∀a,a∈l↔a∈k)->l=k
 | [],[],_,_,_=>rfl
 | [],y::k,_,_,h=>by have:=(h y).2 (by simp);simp at this
 | x::l,[],_,_,h=>by have:=(h x).1 (by simp);simp at this
 | x::l,y::k,h1,h2,h=>by
   have p1:=jd.1 h1;have p2:=jd.1 h2;have hxy:x=y:=by
    rcases List.mem_cons.1 ((h x).1 (by simp)) with h3 | h3
    ·exact h3
    ·rcases List.mem_cons.1 ((h y).2 (by simp)) with h4 | h4
     ·exact h4.symm
     ·have:=p2.1 x h3;have:=p1.1 y h4;omega
   subst hxy;rw[Qkz f p1.2 p2.2 λa=>?_];constructor
   ·intro ha;rcases List.mem_cons.1 ((h a).1 (by simp[ha])) with h3 | h3
    ·subst h3;have:=p1.1 a ha;omega
    ·exact h3
   ·intro ha;rcases List.mem_cons.1 ((h a).2 (by simp[ha])) with h3 | h3
    ·subst h3;have:=p2.1 a ha;omega
    ·exact h3
def Zx (g:List Rw) (y x:Int):Prop:=∃w∈g,w.y=y/\Qb w.rs x
structure RgV (g:List Rw):Prop where
 rs:∀w∈g,RnsV w.rs
 ne:∀w∈g,w.rs≠[]
 asc:g.Pairwise λu v=>u.y<v.y
theorem RgV.nil:RgV []:=⟨by simp,by simp,List.Pairwise.nil⟩
theorem RgV.uniq {g:List Rw} (h:RgV g) {u v:Rw} (hu:u∈g) (hv:v∈g) (he:u.y=v.y):u=v:=by
 obtain⟨i,hi,rfl⟩:=List.mem_iff_getElem.1 hu;obtain⟨j,hj,rfl⟩:=List.mem_iff_getElem.1 hv;have hp:=j8.1 h.asc;by_cases h1:i<j
 ·have:=hp i j hi hj h1;omega
 ·by_cases h2:j<i
  ·have:=hp j i hj hi h2;omega
  ·obtain rfl:i=j:=by omega
   rfl
theorem RgV.row {g:List Rw} (h:RgV g) {w:Rw} (hw:w∈g) (x:Int):Zx g w.y x↔Qb w.rs x:=by
 constructor
 ·rintro⟨v,hv,he,hx⟩;rw[h.uniq hw hv he.symm];exact hx
 ·intro hx;exact⟨w,hw,rfl,hx⟩
theorem RnsV.some {l:List Rn} (h:RnsV l) (hn:l≠[]):∃x,Qb l x:=by
 cases l with
 | nil=>exact absurd rfl hn
 | cons r l=>exact⟨r.a,inRns_cons.2 (.inl ⟨Int.le_refl _,h.1 r (by simp)⟩)⟩
theorem RgV.ext {g k:List Rw} (hg:RgV g) (hk:RgV k) (h:∀y x,Zx g y x↔Zx k y x):g=k:=by
 have key:∀{g k:List Rw},RgV g->RgV k->(∀y x,Zx g y x↔Zx k y x)->∀w,w∈g->w∈k:=by
  intro g k hg hk h w hw;obtain⟨x,hx⟩:=(hg.rs w hw).some (hg.ne w hw);obtain⟨v,hv,he,_⟩:=(h w.y x).1 ⟨w,hw,rfl,hx⟩;have:w.rs=v.rs:=(hg.rs w hw).ext (hk.rs v hv) λx=>by
   rw[<- hg.row hw,<- hk.row hv,he];exact h w.y x
  have e:w=v:=by cases w;cases v;simp_all
  rw[e];exact hv
 exact Qkz Rw.y hg.asc hk.asc λw=>⟨key hg hk h w,key hk hg (λy x=>(h y x).symm) w⟩
def X5 (l:List Rn) (x:Int):List Rn :=
 match l.getLast? with
 | some r=>if r.b=x then l.dropLast++[⟨r.a,x+1⟩] else l++[⟨x,x+1⟩]
 | none=>[⟨x,x+1⟩]
theorem Wu (x:Int):X5 [] x=[⟨x,x+1⟩]:=rfl
theorem Ij (l:List Rn) (r:Rn) (x:Int):X5 (l++[r]) x=if r.b=x then l++[⟨r.a,x+1⟩] else l++[r]++[⟨x,x+1⟩]:=by
 unfold X5;simp
theorem RnsV.snoc {l:List Rn} {s:Rn}:RnsV (l++[s])↔RnsV l/\s.a<s.b/\∀r∈l,r.b<s.a:=by
 unfold RnsV;rw[jg];constructor
 ·rintro⟨h1,h2,_,h3⟩;exact⟨⟨λr hr=>h1 r (by simp[hr]),h2⟩,h1 s (by simp),λr hr=>h3 r hr s (by simp)⟩
 ·rintro⟨⟨h1,h2⟩,h3,h4⟩;refine⟨λr hr=>?_,h2,by simp,λr hr s' hs=>?_⟩
  ·rcases qg.1 hr with hr | hr
   ·exact h1 r hr
   ·rw[qn.1 hr];exact h3
  ·rw[qn.1 hs];exact h4 r hr
theorem Zu {α:Type} (l:List α):l=[]∨∃k r,l=k++[r]:=by
 rcases List.eq_nil_or_concat l with h | ⟨k,r,h⟩
 ·exact .inl h
 ·exact .inr ⟨k,r,by simpa using h⟩
theorem Q8l {l:List Rn} {x:Int} (h:RnsV l) (hb:∀r∈l,r.b<=x):RnsV (X5 l x)/\(∀r∈X5 l x,r.b<=x+1)/\∀y,Qb (X5 l x) y↔Qb l y∨y=x:=by
 rcases Zu l with rfl | ⟨k,r,rfl⟩
 ·rw[Wu];refine⟨⟨by simp;omega,by simp⟩,by simp,λy=>?_⟩;simp only[inRns_cons,Qj,or_false,false_or];omega
 ·obtain⟨h1,h2,h3⟩:=RnsV.snoc.1 h;have hr:=hb r (by simp);rw[Ij];by_cases he:r.b=x
  ·rw[if_pos he];refine⟨RnsV.snoc.2 ⟨h1,by simp only[];omega,λs hs=>h3 s hs⟩,λs hs=>?_,λy=>?_⟩
   ·rcases qg.1 hs with hs | hs
    ·have:=hb s (by simp[hs]);omega
    ·rw[qn.1 hs];exact Int.le_refl _
   ·simp only[Yz,inRns_cons,Qj,or_false];by_cases hk:Qb k y<;>simp only[hk,true_or,false_or,or_true]<;>omega
  ·rw[if_neg he];refine⟨RnsV.snoc.2 ⟨h,by simp only[];omega,λs hs=>?_⟩,λs hs=>?_,λy=>?_⟩
   ·rcases qg.1 hs with hs | hs
    ·have:=h3 s hs;simp only[];omega
    ·rw[qn.1 hs];simp only[];omega
   ·rcases qg.1 hs with hs | hs
    ·have:=hb s hs;omega
    ·rw[qn.1 hs];exact Int.le_refl _
   ·simp only[Yz,inRns_cons,Qj,or_false];by_cases hk:Qb k y<;>simp only[hk,true_or,false_or,or_true]<;>omega
theorem Qb0:∀(xs:List Int) {l:List Rn},RnsV l->xs.Pairwise (·<·)->(∀r∈l,∀x∈xs,r.b<=x)->RnsV (xs.foldl X5 l)/\∀y,Qb (xs.foldl X5 l) y↔Qb l y∨y∈xs
 | [],l,h,_,_=>⟨h,λy=>by simp⟩
 | x::xs,l,h,ha,hb=>by
   obtain⟨h1,h2,h3⟩:=Q8l h (λr hr=>hb r hr x (by simp));obtain⟨a1,a2⟩:=jd.1 ha;obtain⟨g1,g2⟩:=Qb0 xs h1 a2 (λr hr y hy=>by have:=h2 r hr;have:=a1 y hy;omega);refine⟨g1,λy=>?_⟩;rw[List.foldl_cons,g2,h3,List.mem_cons];constructor
   ·rintro ((h | h) | h)
    ·exact .inl h
    ·exact .inr (.inl h)
    ·exact .inr (.inr h)
   ·rintro (h | h | h)
    ·exact .inl (.inl h)
    ·exact .inl (.inr h)
    ·exact .inr h
theorem Qaw:∃l:List Int,(∀x,x∈l↔-4096<=x/\x<4096)/\l.Pairwise (·<·):=by
 refine⟨(List.range 8192).map λi:Nat=>(i:Int)-4096,λx=>?_,?_⟩
 ·rw[qo];constructor
  ·rintro⟨i,hi,rfl⟩;have:=qz.1 hi;omega
  ·rintro⟨h1,h2⟩;exact⟨(x+4096).toNat,qz.2 (by omega),by omega⟩
 ·rw[ji];exact List.pairwise_lt_range.imp λh=>by omega
noncomputable def gridL:List Int:=Classical.choose Qaw
theorem mem_gridL {x:Int}:x∈gridL↔-4096<=x/\x<4096:=(Classical.choose_spec Qaw).1 x
theorem gridL_asc:gridL.Pairwise (·<·):=(Classical.choose_spec Qaw).2
noncomputable def Q4s (p:Int->Bool):List Rn:=(gridL.filter p).foldl X5 []
theorem Qza (p:Int->Bool):RnsV (Q4s p):=(Qb0 _ RnsV.nil (gridL_asc.filter p) (by simp)).1
theorem in_canonL {p:Int->Bool} {x:Int}:Qb (Q4s p) x↔(-4096<=x/\x<4096)/\p x=true:=by
 unfold Q4s;rw[(Qb0 _ RnsV.nil (gridL_asc.filter p) (by simp)).2,qu,mem_gridL];simp[Qj]
noncomputable def K7 (p:Int->Int->Bool):List Rw:=(gridL.map λy=>Rw.mk y (Q4s (p y))).filter λw=>decide (w.rs≠[])
theorem Q2t (p:Int->Int->Bool):RgV (K7 p) where
 rs w hw:=by
  unfold K7 at hw;obtain⟨h1,_⟩:=qu.1 hw;obtain⟨y,_,rfl⟩:=qo.1 h1;exact Qza _
 ne w hw:=by
  unfold K7 at hw;simpa using(qu.1 hw).2
 asc:=by
  unfold K7;refine List.Pairwise.filter _ ?_;rw[ji];exact gridL_asc
theorem in_canonR {p:Int->Int->Bool} {y x:Int}:Zx (K7 p) y x↔(-4096<=y/\y<4096)/\(-4096<=x/\x<4096)/\p y x=true:=by
 constructor
 ·rintro⟨w,hw,rfl,hx⟩;unfold K7 at hw;obtain⟨h1,_⟩:=qu.1 hw;obtain⟨y,hy,rfl⟩:=qo.1 h1;obtain⟨h2,h3⟩:=in_canonL.1 hx;exact⟨mem_gridL.1 hy,h2,h3⟩
 ·rintro⟨hy,hx,hp⟩;have hin:Qb (Q4s (p y)) x:=in_canonL.2 ⟨hx,hp⟩;unfold K7;refine⟨⟨y,Q4s (p y)⟩,qu.2 ⟨qo.2 ⟨y,mem_gridL.2 hy,rfl⟩,?_⟩,rfl,hin⟩;simp only[decide_eq_true_eq];intro h0;rw[h0]at hin
  exact Qj _ hin
def RgB (g:List Rw):Prop:=∀y x,Zx g y x->(-4096<=y/\y<4096)/\-4096<=x/\x<4096
theorem Qbf (p:Int->Int->Bool):RgB (K7 p):=λy x h=>by
 obtain⟨h1,h2,_⟩:=in_canonR.1 h;exact⟨h1,h2⟩
theorem Q4r {g:List Rw} (h:RgV g) {p:Int->Int->Bool} (hp:∀y x,Zx g y x↔(-4096<=y/\y<4096)/\(-4096<=x/\x<4096)/\p y x=true):g=K7 p :=
 h.ext (Q2t p) λy x=>by rw[hp,in_canonR]
theorem RgB.run {g:List Rw} (h:RgV g) (hb:RgB g) {w:Rw} (hw:w∈g) {r:Rn} (hr:r∈w.rs):(-4096<=w.y/\w.y<4096)/\-4096<=r.a/\r.a<r.b/\r.b<=4096:=by
 have hab:=(h.rs w hw).1 r hr;have h1:=hb w.y r.a ⟨w,hw,rfl,r,hr,Int.le_refl _,hab⟩;have h2:=hb w.y (r.b-1) ⟨w,hw,rfl,r,hr,by omega,by omega⟩;omega
noncomputable def Jj (g k:List Rw):List Rw:=open Classical in K7 λy x=>decide (Zx g y x∨Zx k y x)
theorem Q7w {g k:List Rw} (hg:RgB g) (hk:RgB k) {y x:Int}:Zx (Jj g k) y x↔Zx g y x∨Zx k y x:=by
 unfold Jj;rw[in_canonR];constructor
 ·rintro⟨_,_,h⟩;simpa using h
 ·intro h;have hb:(-4096<=y/\y<4096)/\-4096<=x/\x<4096:=by
   rcases h with h | h
   ·exact hg y x h
   ·exact hk y x h
  exact⟨hb.1,hb.2,by simpa using h⟩
theorem Eh (g k:List Rw):RgV (Jj g k):=Q2t _
theorem Qli (g k:List Rw):RgB (Jj g k):=Qbf _
theorem RgB.nil:RgB []:=λy x h=>by obtain⟨w,hw,_⟩:=h;simp at hw
theorem Qiq {g:List Rw} (hg:RgV g) (hb:RgB g):Jj [] g=g :=
 (Eh [] g).ext hg λy x=>by
  rw[Q7w RgB.nil hb];constructor
  ·rintro (⟨w,hw,_⟩ | h)
   ·simp at hw
   ·exact h
  ·exact .inr
def Qof (P:Program) (f:FuncId):Prop:=CallIs P f [] (.b true)
theorem par_0 {us:List V} (h:Wl [] us):us=[]:=h
def Qoe (P:Program) (f:FuncId) (sz:Nat):Prop:=∀els:List (List V),els.all (λel=>el.all V.isD)=true->els.length<=1000000->NewC P f [.l sz els] (λr h=>r=.own 0 1 0 els.length/\h=[.arr 1 sz els])
theorem K4 {x:V} (n:Nat) (h:x.isD=true):x.cl n=true:=by cases x<;>simp[V.isD]at h<;>simp[V.cl,V.cl1,V.cl0]
section
variable {P:Program} (hm:P.follows .mixedOrders=true)
include hm
theorem Q39 {f:FuncId} (hf:Q5 P f L3r.c L3r.r L3r.n):Qoe P f 3:=by
 intro els hel hlen;refine Qld 3 ?_;refine Qme hm hf (qh rfl) ?_;unfold L3r.c;cases els with
 | nil=>simp[go_sem,L3r.r]
 | cons e l =>
   simp only[List.length_cons]at hlen;simp[go_sem,L3r.r];simp only[List.all_cons,Bool.and_eq_true,qj]at hel;exact⟨⟨by omega,by omega⟩,λx hx=>K4 1 (hel.1 x hx),λa ha x hx=>K4 1 (hel.2 a ha x hx)⟩
end
def Qr0:List Sch:=[.i .i64,.i .i64,.i .i64]
def schM:List Sch:=[.sl Qr0,.sl Qr0]
theorem v3_of {e:List V} (h:okL Qr0 e):∃v:V3,e=v.cs:=by
 simp only[Qr0,okL,Sch.ok]at h;obtain⟨v1,r1,rfl,⟨x,rfl,_⟩,v2,r2,rfl,⟨y,rfl,_⟩,v3,r3,rfl,⟨z,rfl,_⟩,rfl⟩:=h;exact⟨⟨x,y,z⟩,rfl⟩
theorem t3_of {e:List V} (h:okL Qr0 e):∃v:T3,e=v.cs:=by
 simp only[Qr0,okL,Sch.ok]at h;obtain⟨v1,r1,rfl,⟨x,rfl,_⟩,v2,r2,rfl,⟨y,rfl,_⟩,v3,r3,rfl,⟨z,rfl,_⟩,rfl⟩:=h;exact⟨⟨x,y,z⟩,rfl⟩
theorem Q7u {α:Type} {f:α->List V} {el:List Sch} (hf:∀e,okL el e->∃v,e=f v):∀els:List (List V),(∀e∈els,okL el e)->∃l:List α,els=l.map f
 | [],_=>⟨[],rfl⟩
 | e::els,h=>by
   obtain⟨l,rfl⟩:=Q7u hf els (λe he=>h e (by simp[he]));obtain⟨v,rfl⟩:=hf e (h e (by simp));exact⟨v::l,rfl⟩
structure P2 where
 x:Int
 y:Int
deriving DecidableEq
def P2.cs (p:P2):List V:=[.i .i64 p.x,.i .i64 p.y]
def P2.enc (p:P2):V:=.a p.cs
def psV (l:List P2):V:=.l 2 (l.map P2.cs)
theorem pcs (p:P2):p.cs=[.i .i64 p.x,.i .i64 p.y]:=Rfl rfl
def inI (n:Int):Bool:=decide (-9223372036854775808<=n) && decide (n<=9223372036854775807)
def Qah (m:Mesh) (e:Int):V:=.t [m.enc,.i .i64 e]
def Qag:Mesh:=⟨[],[]⟩
theorem mesV_le {u v:V} {vs:List V3} {ts:List T3} {e:Int} (h1:Le0 u (vsV vs)) (h2:Le0 v (tsV ts)):Le (.t [.a [u,v],.i .i64 e]) (Qah ⟨vs,ts⟩ e) :=
 .inr ⟨_,_,rfl,rfl,.inr ⟨_,_,rfl,rfl,h1,h2,trivial⟩,Le1.refl _,trivial⟩
theorem Qe6 (e:Int):Le (.t [.a [.nil,.nil],.i .i64 e]) (Qah Qag e):=mesV_le (Le0.nil 3) (Le0.nil 3)
def Qoa (P:Program) (f:FuncId):Prop:=∀l:List V3,l.length<=1000000->CallIs P f [vsV l] (.b (K8 l))
def Z0q (P:Program) (f:FuncId):Prop:=∀v:V3,CallIs P f [v.enc] (.b (v.within 131072))
def V3.plus (a b:V3):V3:=⟨IntKind.i64.wrap (a.x+b.x),IntKind.i64.wrap (a.y+b.y),IntKind.i64.wrap (a.z+b.z)⟩
def Qpx (P:Program) (f:FuncId):Prop:=∀a b:V3,CallIs P f [a.enc,b.enc] (a.plus b).enc
def V3.add (a b:V3):V3:=⟨a.x+b.x,a.y+b.y,a.z+b.z⟩
def Qg (p s:V3):List V3 :=
 [⟨p.x,p.y,p.z⟩,⟨p.x+s.x,p.y,p.z⟩,⟨p.x,p.y+s.y,p.z⟩,⟨p.x+s.x,p.y+s.y,p.z⟩,⟨p.x,p.y,p.z+s.z⟩,⟨p.x+s.x,p.y,p.z+s.z⟩,⟨p.x,p.y+s.y,p.z+s.z⟩,⟨p.x+s.x,p.y+s.y,p.z+s.z⟩]
def Q53 (P:Program) (f:FuncId):Prop:=∀p s:V3,p.valid=true->s.within 131072=true->CallIs P f [p.enc,s.enc] (.a ((Qg p s).flatMap V3.cs))
theorem within_iff {v:V3} {k:Int}:v.within k=true↔(-k<=v.x/\v.x<=k/\-k<=v.y/\v.y<=k/\-k<=v.z/\v.z<=k):=by
 simp[V3.within,and_assoc]
theorem Qjg {a b:V3} (h1:a.valid=true) (h2:b.within 131072=true):a.plus b=a.add b:=by
 have:=V3.valid_iff.1 h1;have:=within_iff.1 h2;simp only[V3.plus,V3.add];rw[Q0 (by omega) (by omega),Q0 (by omega) (by omega),Q0 (by omega) (by omega)]
section
variable {P:Program} (hm:P.follows .mixedOrders=true)
include hm
theorem Q8p {f fv:FuncId} (hf:Q5 P f (L3m.c fv) L3m.r L3m.n) (hv:Je P fv):Qoa P f:=by
 intro l hl;refine PI hm hf ?_;unfold L3m.c;simp[go_sem,vsV];refine Q8 (α:=Nat) (λk=>k<=l.length/\K8 (l.take k)=true)
  (λk=>⟨[(5,vsV l),(6,.i .i64 l.length),(7,.i .i64 k)],[]⟩)
  (λk=>l.length-k) 0 ⟨Nat.zero_le _,rfl⟩ ?_ ?_
 ·simp[go_sem,vsV]
 ·rintro k ⟨hk,hok⟩;cases hp:l[k]? with
  | none =>
    have:¬ k<l.length:=by simpa using hp
    obtain rfl:k=l.length:=by omega
    rw[qi]at hok
    simp[go_sem,vsV,L3m.r,hok]
  | some p =>
    obtain⟨hlt,hp'⟩:=q8.1 hp;simp[go_sem,vsV,hlt,hp',vcs];refine Q2 (hv p) ?_;cases hvp:p.valid
    ·simp[go_sem,L3m.r,Q0c hp hvp]
    ·simp (disch:=omega) [go_sem,Q0];refine⟨k+1,⟨by omega,?_⟩,by omega,?_⟩
     ·rw[Q30 hp,hok,hvp];rfl
     ·simp (disch:=omega) [go_sem,vsV,Q0]
theorem Q8o {f:FuncId} (hf:Q5 P f L3n.c L3n.r L3n.n):Z0q P f:=by
 intro v;refine PI hm hf ?_;unfold L3n.c;have hw:=@within_iff v 131072;by_cases h1:v.x<=131072/\v.y<=131072/\v.z<=131072
 ·have h2:max (max v.x v.y) v.z<=131072:=by omega
  simp +contextual -implicitDefEqProofs [go_sem,V3.enc,V3.cs,L3n.r,h1,h2];rw[Bool.eq_iff_iff,hw];simp;omega
 ·have h2:¬ max (max v.x v.y) v.z<=131072:=by omega
  simp +contextual -implicitDefEqProofs [go_sem,V3.enc,V3.cs,L3n.r,h1,h2];rw[Bool.eq_iff_iff,hw];simp;omega
theorem Q8n {f:FuncId} (hf:Q5 P f L3o.c L3o.r L3o.n):Qpx P f:=by
 intro a b;refine PI hm hf ?_;unfold L3o.c;simp[go_sem,V3.enc,V3.cs,L3o.r,V3.plus]
theorem Q1j {f fp:FuncId} (hf:Q5 P f (L3l.c fp) L3l.r L3l.n) (hp:Qpx P fp):Q53 P f:=by
 intro p s hv hs;have h1:=V3.valid_iff.1 hv;have h2:=within_iff.1 hs;refine PI hm hf ?_;unfold L3l.c;simp[go_sem,V3.enc,V3.cs];refine Q8 (α:=Nat) (λk=>k<=8)
  (λk=>⟨[(2,.p 0 1 0 0),(3,.p 1 1 0 0),(4,.p 2 1 0 0),(5,.p 3 1 0 0),(7,.i .i64 k)],[.arr 1 3 [p.cs],.arr 1 3 [s.cs],.arr 1 24 [List.replicate 24 (.i .i64 0)],.arr 1 24 [((Qg p s).take k).flatMap V3.cs++List.replicate (24-3*k) (.i .i64 0)]]⟩)
  (λk=>8-k) 0 (by omega) ?_ ?_
 ·simp[go_sem,vcs]
 ·intro k hk;by_cases h8:k=8
  ·subst h8;simp[go_sem,L3l.r,Qg,V3.cs]
  ·have:k=0∨k=1∨k=2∨k=3∨k=4∨k=5∨k=6∨k=7:=by omega
   have w0:IntKind.i64.wrap 0=0:=rfl;have w1:IntKind.i64.wrap 1=1:=rfl;have wx:IntKind.i64.wrap s.x=s.x:=Q0 (by omega) (by omega);have wy:IntKind.i64.wrap s.y=s.y:=Q0 (by omega) (by omega);have wz:IntKind.i64.wrap s.z=s.z:=Q0 (by omega) (by omega);rcases this with rfl | rfl | rfl | rfl | rfl | rfl | rfl | rfl
   ·simp[go_sem,vcs,w0,w1,wx,wy,wz];refine Q2 (hp p ⟨0,0,0⟩) ?_;simp (disch:=omega) [go_sem,Q0,V3.plus,V3.enc,V3.cs,w0,w1,Qg];exact⟨1,by simp[go_sem,V3.cs,or_imp,forall_and,V.cl,V.cl1,V.cl0]⟩
   ·simp[go_sem,vcs,w0,w1,wx,wy,wz];refine Q2 (hp p ⟨s.x,0,0⟩) ?_;simp (disch:=omega) [go_sem,Q0,V3.plus,V3.enc,V3.cs,w0,w1,Qg];exact⟨2,by simp[go_sem,V3.cs,or_imp,forall_and,V.cl,V.cl1,V.cl0]⟩
   ·simp[go_sem,vcs,w0,w1,wx,wy,wz];refine Q2 (hp p ⟨0,s.y,0⟩) ?_;simp (disch:=omega) [go_sem,Q0,V3.plus,V3.enc,V3.cs,w0,w1,Qg];exact⟨3,by simp[go_sem,V3.cs,or_imp,forall_and,V.cl,V.cl1,V.cl0]⟩
   ·simp[go_sem,vcs,w0,w1,wx,wy,wz];refine Q2 (hp p ⟨s.x,s.y,0⟩) ?_;simp (disch:=omega) [go_sem,Q0,V3.plus,V3.enc,V3.cs,w0,w1,Qg];exact⟨4,by simp[go_sem,V3.cs,or_imp,forall_and,V.cl,V.cl1,V.cl0]⟩
   ·simp[go_sem,vcs,w0,w1,wx,wy,wz];refine Q2 (hp p ⟨0,0,s.z⟩) ?_;simp (disch:=omega) [go_sem,Q0,V3.plus,V3.enc,V3.cs,w0,w1,Qg];exact⟨5,by simp[go_sem,V3.cs,or_imp,forall_and,V.cl,V.cl1,V.cl0]⟩
   ·simp[go_sem,vcs,w0,w1,wx,wy,wz];refine Q2 (hp p ⟨s.x,0,s.z⟩) ?_;simp (disch:=omega) [go_sem,Q0,V3.plus,V3.enc,V3.cs,w0,w1,Qg];exact⟨6,by simp[go_sem,V3.cs,or_imp,forall_and,V.cl,V.cl1,V.cl0]⟩
   ·simp[go_sem,vcs,w0,w1,wx,wy,wz];refine Q2 (hp p ⟨0,s.y,s.z⟩) ?_;simp (disch:=omega) [go_sem,Q0,V3.plus,V3.enc,V3.cs,w0,w1,Qg];exact⟨7,by simp[go_sem,V3.cs,or_imp,forall_and,V.cl,V.cl1,V.cl0]⟩
   ·simp[go_sem,vcs,w0,w1,wx,wy,wz];refine Q2 (hp p ⟨s.x,s.y,s.z⟩) ?_;simp (disch:=omega) [go_sem,Q0,V3.plus,V3.enc,V3.cs,w0,w1,Qg];exact⟨8,by simp[go_sem,V3.cs,or_imp,forall_and,V.cl,V.cl1,V.cl0]⟩
end
def P2.valid (p:P2):Bool:=decide (-16777216<=p.x) && decide (p.x<=16777216) && decide (-16777216<=p.y) && decide (p.y<=16777216)
theorem P2.valid_iff {p:P2}:p.valid=true↔(-16777216<=p.x/\p.x<=16777216/\-16777216<=p.y/\p.y<=16777216):=by simp[P2.valid,and_assoc]
def Ye (a b c:P2):Int:=(b.x-a.x)*(c.y-a.y)-(b.y-a.y)*(c.x-a.x)
def Wp (a b c:P2):Int:=if a.valid=true/\b.valid=true/\c.valid=true then Ye a b c else 0
def Qug (a b c:P2):Int:=if 0<Wp a b c then 1 else if Wp a b c<0 then -1 else 0
def Ji (P:Program) (f:FuncId):Prop:=∀p:P2,CallIs P f [p.enc] (.b p.valid)
def Qib (P:Program) (f:FuncId):Prop:=∀a b c:P2,CallIs P f [a.enc,b.enc,c.enc] (.i .i64 (Wp a b c))
def Qzw (P:Program) (f:FuncId):Prop:=∀a b c:P2,CallIs P f [a.enc,b.enc,c.enc] (.i .i64 (Qug a b c))
theorem Ja {a b:Int} {k m:Nat} (ha:-(k:Int)<=a/\a<=k) (hb:-(m:Int)<=b/\b<=m):-((k*m:Nat):Int)<=a*b/\a*b<=(k*m:Nat):=by
 have h1:a.natAbs<=k:=by omega
 have h2:b.natAbs<=m:=by omega
 have h3:=Nat.mul_le_mul h1 h2;rw[<- Int.natAbs_mul]at h3
 omega
section
variable {P:Program} (hm:P.follows .mixedOrders=true)
include hm
theorem E7 {f:FuncId} (hf:Q5 P f L0n.c L0n.r L0n.n):Ji P f:=by
 intro p;refine PI hm hf ?_;unfold L0n.c;simp +contextual -implicitDefEqProofs [go_sem,P2.enc,P2.cs,L0n.r];simp[P2.valid,and_assoc]
theorem Q9e {f:FuncId} (hf:Q5 P f L17.c L17.r L17.n):Ji P f:=E7 hm hf
theorem Q6j {f fv:FuncId} (hf:Q5 P f (L0m.c fv) L0m.r L0m.n) (hv:Ji P fv):Qib P f:=by
 intro a b c;refine PI hm hf ?_;unfold L0m.c;simp[go_sem,P2.enc,P2.cs];refine Q2 (hv a) ?_;cases ha:a.valid
 ·simp[go_sem,L0m.r,Wp,ha]
 simp[go_sem];refine Q2 (hv b) ?_;cases hb:b.valid
 ·simp[go_sem,L0m.r,Wp,hb]
 simp[go_sem];refine Q2 (hv c) ?_;cases hc:c.valid
 ·simp[go_sem,L0m.r,Wp,hc]
 have h1:=P2.valid_iff.1 ha;have h2:=P2.valid_iff.1 hb;have h3:=P2.valid_iff.1 hc;have m1:=Ja (a:=b.x-a.x) (b:=c.y-a.y) (k:=33554432) (m:=33554432) (by omega) (by omega);have m2:=Ja (a:=b.y-a.y) (b:=c.x-a.x) (k:=33554432) (m:=33554432) (by omega) (by omega);simp (disch:=omega) [go_sem,L0m.r,Wp,ha,hb,hc,Q0,Ye]
theorem Q9f {f fv:FuncId} (hf:Q5 P f (L15.c fv) L15.r L15.n) (hv:Ji P fv):Qib P f:=Q6j hm hf hv
theorem Qch {f fc:FuncId} (hf:Q5 P f (L16.c fc) L16.r L16.n) (hc:Qib P fc):Qzw P f:=by
 intro a b c;refine PI hm hf ?_;unfold L16.c;simp[go_sem,P2.enc,P2.cs];refine Q2 (hc a b c) ?_;unfold Qug;by_cases h1:0<Wp a b c
 ·simp[go_sem,L16.r,h1]
 ·by_cases h2:Wp a b c<0<;>simp[go_sem,L16.r,h1,h2]
end
abbrev Eg:=P2 × P2
def Wf (e:Eg) (p:P2):Int :=
 if e.1.y<=p.y/\p.y<e.2.y/\0<Ye e.1 e.2 p then 1 else if e.2.y<=p.y/\p.y<e.1.y/\Ye e.1 e.2 p<0 then -1 else 0
def wnd (es:List Eg) (p:P2):Int:=(es.map (Wf · p)).sum
theorem Q3s {a b:List Int} (h:a.Perm b):a.sum=b.sum:=by
 induction h with
 | nil=>rfl
 | cons x _ ih=>simp only[List.sum_cons,ih]
 | swap x y l=>simp only[List.sum_cons];omega
 | trans _ _ h1 h2=>rw[h1,h2]
theorem Qu4 {es fs:List Eg} (h:es.Perm fs) (p:P2):wnd es p=wnd fs p:=Q3s (h.map _)
theorem Q7m (p:P2):wnd [] p=0:=rfl
theorem Kt (e:Eg) (es:List Eg) (p:P2):wnd (e::es) p=Wf e p+wnd es p:=by simp[wnd]
theorem Qog (es fs:List Eg) (p:P2):wnd (es++fs) p=wnd es p+wnd fs p:=by simp[wnd]
theorem Qst {e:Eg} (h:e.1=e.2) (p:P2):Wf e p=0:=by
 unfold Wf;rw[h,if_neg (by omega),if_neg (by omega)]
theorem Qu5 (p:P2):∀es:List Eg,wnd (es.filter λe=>decide (e.1≠e.2)) p=wnd es p
 | []=>rfl
 | e::es=>by
   rw[List.filter_cons,Kt,<- Qu5 p es];split
   ·rw[Kt]
   ·rename_i h;rw[Qst (by simpa using h)];omega
def Wq (es:List Eg):Prop:=∀p:P2,es.countP (λe=>decide (e.1=p))=es.countP (λe=>decide (e.2=p))
theorem Qzk {es:List Eg} (h:Wq es):(es.map Prod.fst).Perm (es.map Prod.snd):=by
 rw[List.perm_iff_count];intro p;have e1:∀f:Eg->P2,(es.map f).count p=es.countP λe=>decide (f e=p):=λf=>by
  rw[List.count_eq_countP,List.countP_map];exact List.countP_congr λx _=>by simp
 rw[e1,e1];exact h p
theorem bal_sum {es:List Eg} (h:Wq es) (g:P2->Int):(es.map λe=>g e.1-g e.2).sum=0:=by
 have h1:=Q3s ((Qzk h).map g);rw[List.map_map,List.map_map]at h1
 have h2:∀l:List Eg,(l.map λe=>g e.1-g e.2).sum=(l.map (g ∘ Prod.fst)).sum-(l.map (g ∘ Prod.snd)).sum:=by
  intro l
  induction l with
  | nil=>rfl
  | cons a l ih=>simp only[List.map_cons,List.sum_cons,ih,Function.comp];omega
 rw[h2,h1];omega
theorem Q13 {a b p:P2} (h1:a.y<=p.y) (h2:p.y<b.y) (ha:p.x<a.x) (hb:p.x<b.x):0<Ye a b p:=by
 unfold Ye;by_cases hx:a.x<=b.x
 ·have e1:0<=(b.x-a.x)*(p.y-a.y):=Int.mul_nonneg (by omega) (by omega);have e2:(b.y-a.y)*(p.x-a.x)<0:=Int.mul_neg_of_pos_of_neg (by omega) (by omega);omega
 ·have e1:(a.x-b.x)*(p.y-a.y)<=(a.x-b.x)*(b.y-a.y):=jm (by omega) (by omega);have e2:0<(b.y-a.y)*(b.x-p.x):=Int.mul_pos (by omega) (by omega);have e3:(b.x-a.x)*(p.y-a.y)-(b.y-a.y)*(p.x-a.x)=(b.y-a.y)*(b.x-p.x)+((a.x-b.x)*(b.y-a.y)-(a.x-b.x)*(p.y-a.y)):=by grind
  omega
theorem Q5i {a b p:P2} (h1:a.y<=p.y) (h2:p.y<b.y) (ha:a.x<p.x) (hb:b.x<p.x):Ye a b p<0:=by
 have h:=Q13 (a:=⟨-a.x,a.y⟩) (b:=⟨-b.x,b.y⟩) (p:=⟨-p.x,p.y⟩) h1 h2 (by simp only[];omega) (by simp only[];omega);unfold Ye at h ⊢;simp only[]at h
 grind
theorem Q12 (a b p:P2):Ye b a p=- Ye a b p:=by unfold Ye;grind
def EgB (es:List Eg) (k:Int):Prop:=∀e∈es,(-k<=e.1.x/\e.1.x<=k)/\(-k<=e.1.y/\e.1.y<=k)/\(-k<=e.2.x/\e.2.x<=k)/\(-k<=e.2.y/\e.2.y<=k)
theorem Qu3 {es:List Eg} {p:P2} (h:∀e∈es,Wf e p=0):wnd es p=0:=by
 induction es with
 | nil=>rfl
 | cons e es ih=>rw[Kt,h e (by simp),ih λx hx=>h x (by simp[hx])];rfl
theorem wnd_out {es:List Eg} (hb:Wq es) {k:Int} (hk:EgB es k) {p:P2} (hp:p.x < -k∨k<p.x∨p.y < -k∨k<p.y):wnd es p=0:=by
 by_cases h1:p.x < -k
 ·have:=bal_sum hb λq=>if q.y<=p.y then 1 else 0
  rw[<- this];unfold wnd;congr 1;refine jv λe he=>?_
  obtain⟨a,b,c,d⟩:=hk e he;unfold Wf;by_cases u1:e.1.y<=p.y<;>by_cases u2:e.2.y<=p.y
  ·rw[if_neg (by omega),if_neg (by omega),if_pos u1,if_pos u2];rfl
  ·rw[if_pos ⟨u1,by omega,Q13 u1 (by omega) (by omega) (by omega)⟩,if_pos u1,if_neg u2];rfl
  ·have:=Q13 u2 (show p.y<e.1.y by omega) (show p.x<e.2.x by omega) (show p.x<e.1.x by omega);rw[Q12]at this
   rw[if_neg (by omega),if_pos ⟨u2,by omega,by omega⟩,if_neg u1,if_pos u2];rfl
  ·rw[if_neg (by omega),if_neg (by omega),if_neg u1,if_neg u2];rfl
 ·refine Qu3 λe he=>?_
  obtain⟨a,b,c,d⟩:=hk e he;unfold Wf;by_cases h2:k<p.x
  ·rw[if_neg,if_neg]
   ·rintro⟨q1,q2,q3⟩;have:=Q5i q1 q2 (show e.2.x<p.x by omega) (show e.1.x<p.x by omega);rw[Q12]at this;omega
   ·rintro⟨q1,q2,q3⟩;have:=Q5i q1 q2 (show e.1.x<p.x by omega) (show e.2.x<p.x by omega);omega
  ·rw[if_neg (by omega),if_neg (by omega)]
def ctr (k y x:Int):P2:=⟨x*k+k / 2,y*k+k / 2⟩
noncomputable def Ul (es:List Eg) (k:Int):List Rw:=K7 λy x=>decide (0<wnd es (ctr k y x))
theorem Qr6 {es fs:List Eg} (h:es.Perm fs) (k:Int):Ul es k=Ul fs k:=by
 unfold Ul;congr 1;funext y x;rw[Qu4 h]
theorem rasR_ne (es:List Eg) (k:Int):Ul (es.filter λe=>decide (e.1≠e.2)) k=Ul es k:=by
 unfold Ul;congr 1;funext y x;rw[Qu5]
structure E5 where
 lo:P2
 hi:P2
 sg:Int
def Q0t (e:Eg):Option E5:=if e.1.y<e.2.y then some ⟨e.1,e.2,1⟩ else if e.2.y<e.1.y then some ⟨e.2,e.1,-1⟩ else none
def Qsn (k cy:Int) (e:E5):Int:=e.lo.x*(e.hi.y-e.lo.y)+(e.hi.x-e.lo.x)*(cy-e.lo.y)-k / 2*(e.hi.y-e.lo.y)
def Qdi (k cy:Int) (e:E5):Int:=- ((- Qsn k cy e) / (k*(e.hi.y-e.lo.y)))
def Qq8 (k cy:Int) (e:E5):Int × Int:=(Qdi k cy e,e.sg)
def onE (cy:Int) (e:E5):Bool:=decide (e.lo.y<=cy) && decide (cy<e.hi.y)
def Y3 (l:List E5) (k cy:Int):List (Int × Int):=(l.filter (onE cy)).map (Qq8 k cy)
def Xp (ss:List (Int × Int)) (x:Int):Int:=((ss.filter λs=>decide (x<s.1)).map Prod.snd).sum
theorem Kk (x:Int):Xp [] x=0:=rfl
theorem Uh (s:Int × Int) (ss:List (Int × Int)) (x:Int):Xp (s::ss) x=(if x<s.1 then s.2 else 0)+Xp ss x:=by
 unfold Xp;rw[List.filter_cons];by_cases h:x<s.1
 ·simp[h]
 ·simp[h]
theorem Q8j {a b:List (Int × Int)} (h:a.Perm b) (x:Int):Xp a x=Xp b x:=Q3s ((h.filter _).map _)
theorem Qzh {k cy y x:Int} {e:E5} (hk:0<k) (hd:e.lo.y<e.hi.y) (hc:cy=y*k+k / 2):x<Qdi k cy e↔0<Ye e.lo e.hi (ctr k y x):=by
 have hD:0<k*(e.hi.y-e.lo.y):=Int.mul_pos hk (by omega);unfold Qdi;have h1:x < - ((- Qsn k cy e) / (k*(e.hi.y-e.lo.y)))↔(- Qsn k cy e) / (k*(e.hi.y-e.lo.y)) < -x:=by omega
 rw[h1,Int.ediv_lt_iff_lt_mul hD];unfold Qsn Ye ctr;simp only[];rw[<- hc];generalize k / 2=q;constructor<;>intro h<;>grind
theorem Qyz {k y x:Int} (hk:0<k) (e:Eg):Wf e (ctr k y x)=Xp (Y3 (Q0t e).toList k (y*k+k / 2)) x:=by
 unfold Q0t Wf;have hcy:(ctr k y x).y=y*k+k / 2:=rfl;by_cases h1:e.1.y<e.2.y
 ·rw[if_pos h1];simp only[Option.toList_some,Y3];have hb:=Qzh (x:=x) (y:=y) (e:=⟨e.1,e.2,1⟩) hk h1 rfl;simp only[]at hb;by_cases h2:onE (y*k+k / 2) ⟨e.1,e.2,1⟩=true
  ·rw[List.filter_cons,if_pos h2];simp only[List.filter_nil,List.map_cons,List.map_nil,Uh,Kk,Qq8];simp only[onE,Bool.and_eq_true,decide_eq_true_eq]at h2;by_cases h3:x<Qdi k (y*k+k / 2) ⟨e.1,e.2,1⟩
   ·rw[if_pos ⟨h2.1,h2.2,hb.1 h3⟩,if_pos h3];rfl
   ·rw[if_neg (λhh=>h3 (hb.2 hh.2.2)),if_neg (by rw[hcy];omega),if_neg h3];rfl
  ·rw[List.filter_cons,if_neg h2];simp only[List.filter_nil,List.map_nil,Kk];simp only[onE,Bool.and_eq_true,decide_eq_true_eq]at h2;rw[if_neg (by rw[hcy];omega),if_neg (by rw[hcy];omega)]
 ·rw[if_neg h1,if_neg (by omega)];by_cases h4:e.2.y<e.1.y
  ·rw[if_pos h4];simp only[Option.toList_some,Y3];have hb:=Qzh (x:=x) (y:=y) (e:=⟨e.2,e.1,-1⟩) hk h4 rfl;simp only[]at hb;rw[Q12]at hb
   by_cases h2:onE (y*k+k / 2) ⟨e.2,e.1,-1⟩=true
   ·rw[List.filter_cons,if_pos h2];simp only[List.filter_nil,List.map_cons,List.map_nil,Uh,Kk,Qq8];simp only[onE,Bool.and_eq_true,decide_eq_true_eq]at h2;by_cases h3:x<Qdi k (y*k+k / 2) ⟨e.2,e.1,-1⟩
    ·rw[if_pos ⟨h2.1,h2.2,by have:=hb.1 h3;omega⟩,if_pos h3];rfl
    ·rw[if_neg (λhh=>h3 (hb.2 (by omega))),if_neg h3];rfl
   ·rw[List.filter_cons,if_neg h2];simp only[List.filter_nil,List.map_nil,Kk];simp only[onE,Bool.and_eq_true,decide_eq_true_eq]at h2;rw[if_neg (by rw[hcy];omega)]
  ·rw[if_neg h4,if_neg (by omega)]
   rfl
theorem Q8i (l l':List E5) (k cy:Int):Y3 (l++l') k cy=Y3 l k cy++Y3 l' k cy:=by simp[Y3]
theorem Qqt (a b:List (Int × Int)) (x:Int):Xp (a++b) x=Xp a x+Xp b x:=by simp[Xp]
theorem Qii {k:Int} (hk:0<k) (y x:Int):∀es:List Eg,wnd es (ctr k y x)=Xp (Y3 (es.filterMap Q0t) k (y*k+k / 2)) x
 | []=>rfl
 | e::es=>by
   rw[Kt,Qii hk y x es,Qyz hk];have:(e::es).filterMap Q0t=(Q0t e).toList++es.filterMap Q0t:=by
    rw[List.filterMap_cons];cases Q0t e<;>rfl
   rw[this,Q8i,Qqt]
def clM (x:Int):Int:=max (-4096) (min x 4096)
def W2:List (Int × Int)->Int->Int->List Rn
 | [],w,r=>if 0<w/\-4096<r then [⟨-4096,r⟩] else []
 | s::ss,w,r=>(if 0<w/\clM s.1<r then [⟨clM s.1,r⟩] else [])++W2 ss (w+s.2) (clM s.1)
theorem Qlr {ss:List (Int × Int)} {x:Int} (h:∀s∈ss,s.1<=x):Xp ss x=0:=by
 induction ss with
 | nil=>rfl
 | cons s ss ih=>rw[Uh,if_neg (by have:=h s (by simp);omega),ih λt ht=>h t (by simp[ht])];rfl
theorem Qk2:∀(ss:List (Int × Int)) (w r x:Int),ss.Pairwise (λa b=>b.1<=a.1)->r<=4096->(∀s∈ss,clM s.1<=r) ->
  (Qb (W2 ss w r) x↔(-4096<=x/\x<r)/\0<w+Xp ss x)
 | [],w,r,x,_,hr,_=>by
   rw[Kk];unfold W2;split
   ·rw[inRns_cons];simp only[Qj,or_false];omega
   ·simp only[Qj,false_iff];omega
 | s::ss,w,r,x,hp,hr,hc=>by
   obtain⟨p1,p2⟩:=jd.1 hp;have hs:=hc s (by simp);have hcl:clM s.1<=4096:=by unfold clM;omega
   have ih:=Qk2 ss (w+s.2) (clM s.1) x p2 hcl (λt ht=>by have:=p1 t ht;unfold clM;omega);unfold W2;rw[Yz,ih,Uh];by_cases hx:clM s.1<=x
   ·by_cases hxr:x<r
    ·have hsx:s.1<=x:=by unfold clM at hx;omega
     rw[if_neg (show ¬ x<s.1 by omega),Qlr (λt ht=>by have:=p1 t ht;omega)];split
     ·rw[inRns_cons];simp only[Qj,or_false];have:-4096<=clM s.1:=by unfold clM;omega
      omega
     ·simp only[Qj,false_or];rename_i hn;have:-4096<=clM s.1:=by unfold clM;omega
      omega
    ·constructor
     ·rintro (h | h)
      ·split at h
       ·rw[inRns_cons]at h;simp only[Qj,or_false]at h;omega
       ·exact absurd h (Qj _)
      ·omega
     ·rintro⟨h,_⟩;omega
   ·constructor
    ·rintro (h | ⟨h1,h2⟩)
     ·split at h
      ·rw[inRns_cons]at h;simp only[Qj,or_false]at h;omega
      ·exact absurd h (Qj _)
     ·have hsx:x<s.1:=by unfold clM at hx;omega
      rw[if_pos hsx];omega
    ·rintro⟨h1,h2⟩;have hsx:x<s.1:=by unfold clM at hx;omega
     rw[if_pos hsx]at h2
     exact .inr ⟨by omega,by omega⟩
theorem Qdw:∀(ss:List (Int × Int)) (w r:Int),-4096<=r->r<=4096->∀q∈W2 ss w r,(-4096<=q.a/\q.a<=4096)/\-4096<=q.b/\q.b<=4096
 | [],w,r,h0,hr,q,hq=>by
   unfold W2 at hq;split at hq
   ·rw[qn.1 hq];simp only[];omega
   ·simp at hq
 | s::ss,w,r,h0,hr,q,hq=>by
   unfold W2 at hq;rcases qg.1 hq with hq | hq
   ·split at hq
    ·rw[qn.1 hq];simp only[];unfold clM;omega
    ·simp at hq
   ·exact Qdw ss _ _ (by unfold clM;omega) (by unfold clM;omega) q hq
theorem Qdv:∀(ss:List (Int × Int)) (w r:Int),(W2 ss w r).length<=ss.length+1
 | [],w,r=>by unfold W2;split<;>simp
 | s::ss,w,r=>by
   unfold W2;have:=Qdv ss (w+s.2) (clM s.1);rw[j7,List.length_cons];split<;>simp<;>omega
theorem Qf (h l:List O) (k:Nat):(h++l)[h.length+k]?=l[k]?:=by
 rw[qf (by omega)];congr 1;omega
theorem Qc (h l:List O):(h++l)[h.length]?=l[0]?:=Qf h l 0
theorem Qk (h l:List O) (k:Nat) (o:O):(h++l).set (h.length+k) o=h++l.set k o:=by
 rw[jq _ _ (by omega)];congr 2;omega
theorem Qm (h l:List O) (o:O):(h++l).set h.length o=h++l.set 0 o:=Qk h l 0 o
theorem Qn {n:Nat} {a b:List O}:∀{h:List O},(∀o∈h,o.cl n)->WeakH n a b->WeakH n (h++a) (h++b)
 | [],_,hw=>hw
 | o::h,hc,hw=>⟨.inr ⟨rfl,hc o (by simp)⟩,Qn (λo' ho=>hc o' (by simp[ho])) hw⟩
section
variable {J:Nat->Prop} {m:List Ent} {w:World}
theorem Q7t {id:Nat} {e:Ent} (h:m[id]?=some e):id<m.length:=(q8.1 h).1
theorem Z0d {x:V} {c:Value} (h:RL J m w x c):x.cl0 m.length=true:=by
 cases x<;>simp only[V.cl0]<;>simp only[RL]at h
 case own id g off len=>obtain⟨_,e,he,_⟩:=h;simpa using Q7t he
 case p id g el j=>obtain⟨_,e,he,_⟩:=h;simpa using Q7t he
 case mp id=>obtain⟨_,e,he,_⟩:=h;simpa using Q7t he
theorem Z0f {x:V} {c:Value} (h:RC J m w x c):x.cl1 m.length=true:=by
 cases x
 case f fn caps =>
  obtain⟨cs,_,hp⟩:=h;simp only[V.cl1,qj];intro x hx;obtain⟨i,hi⟩:=qq hx;have hlt:=(q8.1 hi).1;have hl:=hp.1;exact Z0d (hp.2 i x cs.toList[i] hi (q9 (by omega)))
 case a cs=>exact(show RL J m w (.a cs) c from h).elim
 case t vs=>exact(show RL J m w (.t vs) c from h).elim
 all_goals
  simp only[RC]at h;simp only[V.cl1];exact Z0d h
theorem RC_cl {x:V} {c:Value} (h:RC J m w x c):x.cl m.length=true:=by
 cases x
 case a cs=>exact(show RL J m w (.a cs) c from h).elim
 case t vs=>exact(show RL J m w (.t vs) c from h).elim
 all_goals
  simp only[V.cl];exact Z0f h
theorem Qpw {x:V} {c:Value} (h:RA J m w x c):x.cl m.length=true:=by
 cases x
 case a cs =>
  obtain⟨arr,_,hp⟩:=h;simp only[V.cl,qj];intro x hx;obtain⟨i,hi⟩:=qq hx;have hlt:=(q8.1 hi).1;have hl:=hp.1;exact Z0f (hp.2 i x arr.toList[i] hi (q9 (by omega)))
 case t vs=>exact(show RC J m w (.t vs) c from h).elim
 case any=>rfl
 all_goals
  simp only[RA]at h;exact RC_cl h
theorem Qtt {h:List O} (hr:RS J h m w):∀o∈h,o.cl h.length:=by
 intro o ho;obtain⟨id,hid⟩:=qq ho;have hlt:=(q8.1 hid).1;have hl:=hr.len;have hO:=hr.obj id m[id] o (q9 (by omega)) hid;rw[<- hl];cases o with
 | dead=>trivial
 | arr g sz els =>
   obtain⟨_,_,_,hb⟩:=hO;intro el hel x hx;obtain⟨i,hi⟩:=qq hel;obtain⟨j,hj⟩:=qq hx;split at hb
   ·obtain⟨rfl,_⟩:=hb;simp at hi
   ·obtain⟨_,_,c,ty,fz,_,_,_,hc⟩:=hb;obtain⟨cv,_,hcv⟩:=hc i el j x hi hj;exact RC_cl hcv
 | mp es =>
   obtain⟨_,B,_,ms,_,_,hc⟩:=hO;intro e he;obtain⟨i,hi⟩:=qq he;obtain⟨en,_,_,h1,h2⟩:=hc i e.1 e.2 hi;exact⟨Qpw h1,Qpw h2⟩
 | md es =>
   obtain⟨_,B,_,ms,c,_,_,hc⟩:=hO;intro e he;obtain⟨i,hi⟩:=qq he;obtain⟨en,_,h1,h2⟩:=hc i e.1 e.2 hi;exact⟨Qpw h1,Qpw h2⟩
 | it mid since seen =>
   obtain⟨_,_,_,B,_,mb,_,hm⟩:=hO;intro i hi;subst hi;obtain⟨e',he',_⟩:=hm;exact Q7t he'
end
theorem Qkr {x:V} {n k:Nat} (hnk:n<=k) (h:x.cl0 n=true):x.cl0 k=true:=by
 cases x<;>simp only[V.cl0,decide_eq_true_eq]at h ⊢<;>omega
theorem Qkq {x:V} {n k:Nat} (hnk:n<=k) (h:x.cl1 n=true):x.cl1 k=true:=by
 cases x
 case f fn caps=>simp only[V.cl1,qj]at h ⊢;exact λy hy=>Qkr hnk (h y hy)
 all_goals
  simp only[V.cl1]at h ⊢;exact Qkr hnk h
theorem Uv {x:V} {n k:Nat} (hnk:n<=k) (h:x.cl n=true):x.cl k=true:=by
 cases x
 case a cs=>simp only[V.cl,qj]at h ⊢;exact λy hy=>Qkq hnk (h y hy)
 case t=>simp[V.cl]at h
 all_goals
  simp only[V.cl]at h ⊢;exact Qkq hnk h
theorem Z0o {o:O} {n k:Nat} (hnk:n<=k) (h:o.cl n):o.cl k:=by
 cases o with
 | dead=>trivial
 | arr g sz els=>exact λel hel x hx=>Uv hnk (h el hel x hx)
 | mp es=>exact λe he=>⟨Uv hnk (h e he).1,Uv hnk (h e he).2⟩
 | md es=>exact λe he=>⟨Uv hnk (h e he).1,Uv hnk (h e he).2⟩
 | it mid since seen=>exact λi hi=>Nat.lt_of_lt_of_le (h i hi) hnk
theorem Kh {P:Program} {f:FuncId} {vs:List V} {h:List O} {R:V->List O->Prop} (hc:(∀n,h.length<=n->∀o∈h,o.cl n)->ACall P f vs h R):ACall P f vs h R:=by
 intro J m w cargs hr hp;exact hc (λn hn o ho=>Z0o hn (Qtt hr o ho)) J m w cargs hr hp
theorem Qt {P:Program} {f:FuncId} {vs:List V} {h h0:List O} {r0:V} {k:V->List O->Prop} (hc:ACall P f vs h (λr h'=>r=r0/\h'=h0)) (hk:k r0 h0):ACall P f vs h k :=
 hc.mono λr h' hh=>by rw[hh.1,hh.2];exact hk
end Go.Abs
