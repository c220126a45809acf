/- Part of the library on which the proof stands: an abstract machine, its values and its soundness against the model; or what functions of the program do to such values. -/
import Derived.Test.YtnaehggpjfdenaaGreatGoShpD
import Derived.Test.YtnaehggpjfdenaaGreatAbsSS
import Derived.Test.YtnaehggpjfdenaaGreatGoStB
set_option linter.unusedVariables false
set_option linter.unusedSimpArgs false
set_option maxHeartbeats 8000000
set_option maxRecDepth 20000
namespace Go.Abs
abbrev Eg:=P2 × P2
def K9 (e:Eg) (p:P2):Int :=
 if e.1.y<=p.y/\p.y<e.2.y/\0<Y1 e.1 e.2 p then 1 else if e.2.y<=p.y/\p.y<e.1.y/\Y1 e.1 e.2 p<0 then -1 else 0
def wnd (es:List Eg) (p:P2):Int:=(es.map (K9 · p)).sum
theorem Q11 {a b:List Int} (h:a.Perm b):a.sum=b.sum:=by
 induction h with
 | nil=>rfl
 | cons x _ ih=>simp only[List.sum_cons,ih]
 | swap x y l=>simp only[List.sum_cons];omega
 | trans _ _ h1 h2=>rw[h1,h2]
theorem Qob {es fs:List Eg} (h:es.Perm fs) (p:P2):wnd es p=wnd fs p:=Q11 (h.map _)
theorem Q42 (p:P2):wnd [] p=0:=rfl
theorem Jr (e:Eg) (es:List Eg) (p:P2):wnd (e::es) p=K9 e p+wnd es p:=by simp[wnd]
theorem Qj3 (es fs:List Eg) (p:P2):wnd (es++fs) p=wnd es p+wnd fs p:=by simp[wnd]
theorem Qn6 {e:Eg} (h:e.1=e.2) (p:P2):K9 e p=0:=by
 unfold K9
 rw[h,if_neg (by omega),if_neg (by omega)]
theorem Qoc (p:P2):∀es:List Eg,wnd (es.filter λe=>decide (e.1≠e.2)) p=wnd es p
 | []=>rfl
 | e::es=>by
   rw[List.filter_cons,Jr,<- Qoc p es]
   split
   ·rw[Jr]
   ·rename_i h
    rw[Qn6 (by simpa using h)];omega
def Kj (es:List Eg):Prop:=∀p:P2,es.countP (λe=>decide (e.1=p))=es.countP (λe=>decide (e.2=p))
theorem Qt9 {es:List Eg} (h:Kj es):(es.map Prod.fst).Perm (es.map Prod.snd):=by
 rw[List.perm_iff_count]
 intro p
 have e1:∀f:Eg->P2,(es.map f).count p=es.countP λe=>decide (f e=p):=λf=>by
  rw[List.count_eq_countP,List.countP_map]
  exact List.countP_congr λx _=>by simp
 rw[e1,e1];exact h p
theorem bal_sum {es:List Eg} (h:Kj es) (g:P2->Int):(es.map λe=>g e.1-g e.2).sum=0:=by
 have h1:=Q11 ((Qt9 h).map g)
 rw[List.map_map,List.map_map]at h1
 have h2:∀l:List Eg,(l.map λe=>g e.1-g e.2).sum=(l.map (g ∘ Prod.fst)).sum-(l.map (g ∘ Prod.snd)).sum:=by
  intro l
  induction l with
  | nil=>rfl
  | cons a l ih=>simp only[List.map_cons,List.sum_cons,ih,Function.comp];omega
 rw[h2,h1];omega
theorem Ix {a b p:P2} (h1:a.y<=p.y) (h2:p.y<b.y) (ha:p.x<a.x) (hb:p.x<b.x):0<Y1 a b p:=by
 unfold Y1
 by_cases hx:a.x<=b.x
 ·have e1:0<=(b.x-a.x)*(p.y-a.y):=Int.mul_nonneg (by omega) (by omega)
  have e2:(b.y-a.y)*(p.x-a.x)<0:=Int.mul_neg_of_pos_of_neg (by omega) (by omega)
  omega
 ·have e1:(a.x-b.x)*(p.y-a.y)<=(a.x-b.x)*(b.y-a.y):=jl (by omega) (by omega)
  have e2:0<(b.y-a.y)*(b.x-p.x):=Int.mul_pos (by omega) (by omega)
  have e3:(b.x-a.x)*(p.y-a.y)-(b.y-a.y)*(p.x-a.x)=(b.y-a.y)*(b.x-p.x)+((a.x-b.x)*(b.y-a.y)-(a.x-b.x)*(p.y-a.y)):=by grind
  omega
theorem Q2i {a b p:P2} (h1:a.y<=p.y) (h2:p.y<b.y) (ha:a.x<p.x) (hb:b.x<p.x):Y1 a b p<0:=by
 have h:=Ix (a:=⟨-a.x,a.y⟩) (b:=⟨-b.x,b.y⟩) (p:=⟨-p.x,p.y⟩) h1 h2 (by simp only[];omega) (by simp only[];omega)
 unfold Y1 at h ⊢
 simp only[]at h
 grind
theorem Iw (a b p:P2):Y1 b a p=- Y1 a b p:=by unfold Y1;grind
def EgB (es:List Eg) (k:Int):Prop:=∀e∈es,(-k<=e.1.x/\e.1.x<=k)/\(-k<=e.1.y/\e.1.y<=k)/\(-k<=e.2.x/\e.2.x<=k)/\(-k<=e.2.y/\e.2.y<=k)
theorem Qoa {es:List Eg} {p:P2} (h:∀e∈es,K9 e p=0):wnd es p=0:=by
 induction es with
 | nil=>rfl
 | cons e es ih=>rw[Jr,h e (by simp),ih λx hx=>h x (by simp[hx])];rfl
theorem wnd_out {es:List Eg} (hb:Kj es) {k:Int} (hk:EgB es k) {p:P2} (hp:p.x < -k∨k<p.x∨p.y < -k∨k<p.y):wnd es p=0:=by
 by_cases h1:p.x < -k
 ·have:=bal_sum hb λq=>if q.y<=p.y then 1 else 0
  rw[<- this]
  unfold wnd
  congr 1
  refine ju λe he=>?_
  obtain⟨a,b,c,d⟩:=hk e he
  unfold K9
  by_cases u1:e.1.y<=p.y<;>by_cases u2:e.2.y<=p.y
  ·rw[if_neg (by omega),if_neg (by omega),if_pos u1,if_pos u2];rfl
  ·rw[if_pos ⟨u1,by omega,Ix u1 (by omega) (by omega) (by omega)⟩,if_pos u1,if_neg u2];rfl
  ·have:=Ix u2 (show p.y<e.1.y by omega) (show p.x<e.2.x by omega) (show p.x<e.1.x by omega)
   rw[Iw]at this
   rw[if_neg (by omega),if_pos ⟨u2,by omega,by omega⟩,if_neg u1,if_pos u2];rfl
  ·rw[if_neg (by omega),if_neg (by omega),if_neg u1,if_neg u2];rfl
 ·refine Qoa λe he=>?_
  obtain⟨a,b,c,d⟩:=hk e he
  unfold K9
  by_cases h2:k<p.x
  ·rw[if_neg,if_neg]
   ·rintro⟨q1,q2,q3⟩
    have:=Q2i q1 q2 (show e.2.x<p.x by omega) (show e.1.x<p.x by omega)
    rw[Iw]at this;omega
   ·rintro⟨q1,q2,q3⟩
    have:=Q2i q1 q2 (show e.1.x<p.x by omega) (show e.2.x<p.x by omega)
    omega
  ·rw[if_neg (by omega),if_neg (by omega)]
def ctr (k y x:Int):P2:=⟨x*k+k / 2,y*k+k / 2⟩
noncomputable def W7 (es:List Eg) (k:Int):List Rw:=K4 λy x=>decide (0<wnd es (ctr k y x))
theorem Qln {es fs:List Eg} (h:es.Perm fs) (k:Int):W7 es k=W7 fs k:=by
 unfold W7;congr 1;funext y x;rw[Qob h]
theorem rasR_ne (es:List Eg) (k:Int):W7 (es.filter λe=>decide (e.1≠e.2)) k=W7 es k:=by
 unfold W7;congr 1;funext y x;rw[Qoc]
structure E5 where
 lo:P2
 hi:P2
 sg:Int
def Il (e:Eg):Option E5:=if e.1.y<e.2.y then some ⟨e.1,e.2,1⟩ else if e.2.y<e.1.y then some ⟨e.2,e.1,-1⟩ else none
def Qn0 (k cy:Int) (e:E5):Int:=e.lo.x*(e.hi.y-e.lo.y)+(e.hi.x-e.lo.x)*(cy-e.lo.y)-k / 2*(e.hi.y-e.lo.y)
def Q8t (k cy:Int) (e:E5):Int:=- ((- Qn0 k cy e) / (k*(e.hi.y-e.lo.y)))
def Qko (k cy:Int) (e:E5):Int × Int:=(Q8t k cy e,e.sg)
def onE (cy:Int) (e:E5):Bool:=decide (e.lo.y<=cy) && decide (cy<e.hi.y)
def Zs (l:List E5) (k cy:Int):List (Int × Int):=(l.filter (onE cy)).map (Qko k cy)
def Yz (ss:List (Int × Int)) (x:Int):Int:=((ss.filter λs=>decide (x<s.1)).map Prod.snd).sum
theorem Jk (x:Int):Yz [] x=0:=rfl
theorem W4 (s:Int × Int) (ss:List (Int × Int)) (x:Int):Yz (s::ss) x=(if x<s.1 then s.2 else 0)+Yz ss x:=by
 unfold Yz
 rw[List.filter_cons]
 by_cases h:x<s.1
 ·simp[h]
 ·simp[h]
theorem Q4r {a b:List (Int × Int)} (h:a.Perm b) (x:Int):Yz a x=Yz b x:=Q11 ((h.filter _).map _)
theorem Qt6 {k cy y x:Int} {e:E5} (hk:0<k) (hd:e.lo.y<e.hi.y) (hc:cy=y*k+k / 2):x<Q8t k cy e↔0<Y1 e.lo e.hi (ctr k y x):=by
 have hD:0<k*(e.hi.y-e.lo.y):=Int.mul_pos hk (by omega)
 unfold Q8t
 have h1:x < - ((- Qn0 k cy e) / (k*(e.hi.y-e.lo.y)))↔(- Qn0 k cy e) / (k*(e.hi.y-e.lo.y)) < -x:=by omega
 rw[h1,Int.ediv_lt_iff_lt_mul hD]
 unfold Qn0 Y1 ctr
 simp only[]
 rw[<- hc]
 generalize k / 2=q
 constructor<;>intro h<;>grind
theorem Qsr {k y x:Int} (hk:0<k) (e:Eg):K9 e (ctr k y x)=Yz (Zs (Il e).toList k (y*k+k / 2)) x:=by
 unfold Il K9
 have hcy:(ctr k y x).y=y*k+k / 2:=rfl
 by_cases h1:e.1.y<e.2.y
 ·rw[if_pos h1]
  simp only[Option.toList_some,Zs]
  have hb:=Qt6 (x:=x) (y:=y) (e:=⟨e.1,e.2,1⟩) hk h1 rfl
  simp only[]at hb
  by_cases h2:onE (y*k+k / 2) ⟨e.1,e.2,1⟩=true
  ·rw[List.filter_cons,if_pos h2]
   simp only[List.filter_nil,List.map_cons,List.map_nil,W4,Jk,Qko]
   simp only[onE,Bool.and_eq_true,decide_eq_true_eq]at h2
   by_cases h3:x<Q8t k (y*k+k / 2) ⟨e.1,e.2,1⟩
   ·rw[if_pos ⟨h2.1,h2.2,hb.1 h3⟩,if_pos h3];rfl
   ·rw[if_neg (λhh=>h3 (hb.2 hh.2.2)),if_neg (by rw[hcy];omega),if_neg h3];rfl
  ·rw[List.filter_cons,if_neg h2]
   simp only[List.filter_nil,List.map_nil,Jk]
   simp only[onE,Bool.and_eq_true,decide_eq_true_eq]at h2
   rw[if_neg (by rw[hcy];omega),if_neg (by rw[hcy];omega)]
 ·rw[if_neg h1,if_neg (by omega)]
  by_cases h4:e.2.y<e.1.y
  ·rw[if_pos h4]
   simp only[Option.toList_some,Zs]
   have hb:=Qt6 (x:=x) (y:=y) (e:=⟨e.2,e.1,-1⟩) hk h4 rfl
   simp only[]at hb
   rw[Iw]at hb
   by_cases h2:onE (y*k+k / 2) ⟨e.2,e.1,-1⟩=true
   ·rw[List.filter_cons,if_pos h2]
    simp only[List.filter_nil,List.map_cons,List.map_nil,W4,Jk,Qko]
    simp only[onE,Bool.and_eq_true,decide_eq_true_eq]at h2
    by_cases h3:x<Q8t k (y*k+k / 2) ⟨e.2,e.1,-1⟩
    ·rw[if_pos ⟨h2.1,h2.2,by have:=hb.1 h3;omega⟩,if_pos h3];rfl
    ·rw[if_neg (λhh=>h3 (hb.2 (by omega))),if_neg h3];rfl
   ·rw[List.filter_cons,if_neg h2]
    simp only[List.filter_nil,List.map_nil,Jk]
    simp only[onE,Bool.and_eq_true,decide_eq_true_eq]at h2
    rw[if_neg (by rw[hcy];omega)]
  ·rw[if_neg h4,if_neg (by omega)]
   rfl
theorem Q4q (l l':List E5) (k cy:Int):Zs (l++l') k cy=Zs l k cy++Zs l' k cy:=by simp[Zs]
theorem Ql9 (a b:List (Int × Int)) (x:Int):Yz (a++b) x=Yz a x+Yz b x:=by simp[Yz]
theorem Qdc {k:Int} (hk:0<k) (y x:Int):∀es:List Eg,wnd es (ctr k y x)=Yz (Zs (es.filterMap Il) k (y*k+k / 2)) x
 | []=>rfl
 | e::es=>by
   rw[Jr,Qdc hk y x es,Qsr hk]
   have:(e::es).filterMap Il=(Il e).toList++es.filterMap Il:=by
    rw[List.filterMap_cons];cases Il e<;>rfl
   rw[this,Q4q,Ql9]
def clM (x:Int):Int:=max (-4096) (min x 4096)
def Jv:List (Int × Int)->Int->Int->List Rn
 | [],w,r=>if 0<w/\-4096<r then [⟨-4096,r⟩] else []
 | s::ss,w,r=>(if 0<w/\clM s.1<r then [⟨clM s.1,r⟩] else [])++Jv ss (w+s.2) (clM s.1)
theorem Qgo {ss:List (Int × Int)} {x:Int} (h:∀s∈ss,s.1<=x):Yz ss x=0:=by
 induction ss with
 | nil=>rfl
 | cons s ss ih=>rw[W4,if_neg (by have:=h s (by simp);omega),ih λt ht=>h t (by simp[ht])];rfl
theorem Qex:∀(ss:List (Int × Int)) (w r x:Int),ss.Pairwise (λa b=>b.1<=a.1)->r<=4096->(∀s∈ss,clM s.1<=r) ->
  (Qj (Jv ss w r) x↔(-4096<=x/\x<r)/\0<w+Yz ss x)
 | [],w,r,x,_,hr,_=>by
   rw[Jk]
   unfold Jv
   split
   ·rw[inRns_cons];simp only[Qm,or_false];omega
   ·simp only[Qm,false_iff];omega
 | s::ss,w,r,x,hp,hr,hc=>by
   obtain⟨p1,p2⟩:=jd.1 hp
   have hs:=hc s (by simp)
   have hcl:clM s.1<=4096:=by unfold clM;omega
   have ih:=Qex ss (w+s.2) (clM s.1) x p2 hcl (λt ht=>by have:=p1 t ht;unfold clM;omega)
   unfold Jv
   rw[Jo,ih,W4]
   by_cases hx:clM s.1<=x
   ·by_cases hxr:x<r
    ·have hsx:s.1<=x:=by unfold clM at hx;omega
     rw[if_neg (show ¬ x<s.1 by omega),Qgo (λt ht=>by have:=p1 t ht;omega)]
     split
     ·rw[inRns_cons];simp only[Qm,or_false]
      have:-4096<=clM s.1:=by unfold clM;omega
      omega
     ·simp only[Qm,false_or]
      rename_i hn
      have:-4096<=clM s.1:=by unfold clM;omega
      omega
    ·constructor
     ·rintro (h | h)
      ·split at h
       ·rw[inRns_cons]at h;simp only[Qm,or_false]at h;omega
       ·exact absurd h (Qm _)
      ·omega
     ·rintro⟨h,_⟩;omega
   ·constructor
    ·rintro (h | ⟨h1,h2⟩)
     ·split at h
      ·rw[inRns_cons]at h;simp only[Qm,or_false]at h;omega
      ·exact absurd h (Qm _)
     ·have hsx:x<s.1:=by unfold clM at hx;omega
      rw[if_pos hsx];omega
    ·rintro⟨h1,h2⟩
     have hsx:x<s.1:=by unfold clM at hx;omega
     rw[if_pos hsx]at h2
     exact .inr ⟨by omega,by omega⟩
theorem Q93:∀(ss:List (Int × Int)) (w r:Int),-4096<=r->r<=4096->∀q∈Jv ss w r,(-4096<=q.a/\q.a<=4096)/\-4096<=q.b/\q.b<=4096
 | [],w,r,h0,hr,q,hq=>by
   unfold Jv at hq
   split at hq
   ·rw[qn.1 hq];simp only[];omega
   ·simp at hq
 | s::ss,w,r,h0,hr,q,hq=>by
   unfold Jv at hq
   rcases qg.1 hq with hq | hq
   ·split at hq
    ·rw[qn.1 hq];simp only[];unfold clM;omega
    ·simp at hq
   ·exact Q93 ss _ _ (by unfold clM;omega) (by unfold clM;omega) q hq
theorem Q92:∀(ss:List (Int × Int)) (w r:Int),(Jv ss w r).length<=ss.length+1
 | [],w,r=>by unfold Jv;split<;>simp
 | s::ss,w,r=>by
   unfold Jv
   have:=Q92 ss (w+s.2) (clM s.1)
   rw[j7,List.length_cons]
   split<;>simp<;>omega
theorem Qf (h l:List O) (k:Nat):(h++l)[h.length+k]?=l[k]?:=by
 rw[qf (by omega)];congr 1;omega
theorem Qi (h l:List O):(h++l)[h.length]?=l[0]?:=Qf h l 0
theorem Qo (h l:List O) (k:Nat) (o:O):(h++l).set (h.length+k) o=h++l.set k o:=by
 rw[jp _ _ (by omega)];congr 2;omega
theorem Qr (h l:List O) (o:O):(h++l).set h.length o=h++l.set 0 o:=Qo h l 0 o
theorem Qz {n:Nat} {a b:List O}:∀{h:List O},(∀o∈h,o.cl n)->WeakH n a b->WeakH n (h++a) (h++b)
 | [],_,hw=>hw
 | o::h,hc,hw=>⟨.inr ⟨rfl,hc o (by simp)⟩,Qz (λo' ho=>hc o' (by simp[ho])) hw⟩
section
variable {J:Nat->Prop} {m:List Ent} {w:World}
theorem Q48 {id:Nat} {e:Ent} (h:m[id]?=some e):id<m.length:=(q8.1 h).1
theorem Qu0 {x:V} {c:Value} (h:RL J m w x c):x.cl0 m.length=true:=by
 cases x<;>simp only[V.cl0]<;>simp only[RL]at h
 case own id g off len=>obtain⟨_,e,he,_⟩:=h;simpa using Q48 he
 case p id g el j=>obtain⟨_,e,he,_⟩:=h;simpa using Q48 he
 case mp id=>obtain⟨_,e,he,_⟩:=h;simpa using Q48 he
theorem Qu2 {x:V} {c:Value} (h:RC J m w x c):x.cl1 m.length=true:=by
 cases x
 case f fn caps =>
  obtain⟨cs,_,hp⟩:=h
  simp only[V.cl1,qj]
  intro x hx
  obtain⟨i,hi⟩:=qq hx
  have hlt:=(q8.1 hi).1
  have hl:=hp.1
  exact Qu0 (hp.2 i x cs.toList[i] hi (q9 (by omega)))
 case a cs=>exact(show RL J m w (.a cs) c from h).elim
 case t vs=>exact(show RL J m w (.t vs) c from h).elim
 all_goals
  simp only[RC]at h
  simp only[V.cl1]
  exact Qu0 h
theorem RC_cl {x:V} {c:Value} (h:RC J m w x c):x.cl m.length=true:=by
 cases x
 case a cs=>exact(show RL J m w (.a cs) c from h).elim
 case t vs=>exact(show RL J m w (.t vs) c from h).elim
 all_goals
  simp only[V.cl]
  exact Qu2 h
theorem Qkd {x:V} {c:Value} (h:RA J m w x c):x.cl m.length=true:=by
 cases x
 case a cs =>
  obtain⟨arr,_,hp⟩:=h
  simp only[V.cl,qj]
  intro x hx
  obtain⟨i,hi⟩:=qq hx
  have hlt:=(q8.1 hi).1
  have hl:=hp.1
  exact Qu2 (hp.2 i x arr.toList[i] hi (q9 (by omega)))
 case t vs=>exact(show RC J m w (.t vs) c from h).elim
 case any=>rfl
 all_goals
  simp only[RA]at h
  exact RC_cl h
theorem Qo5 {h:List O} (hr:RS J h m w):∀o∈h,o.cl h.length:=by
 intro o ho
 obtain⟨id,hid⟩:=qq ho
 have hlt:=(q8.1 hid).1
 have hl:=hr.len
 have hO:=hr.obj id m[id] o (q9 (by omega)) hid
 rw[<- hl]
 cases o with
 | dead=>trivial
 | arr g sz els =>
   obtain⟨_,_,_,hb⟩:=hO
   intro el hel x hx
   obtain⟨i,hi⟩:=qq hel
   obtain⟨j,hj⟩:=qq hx
   split at hb
   ·obtain⟨rfl,_⟩:=hb;simp at hi
   ·obtain⟨_,_,c,ty,fz,_,_,_,hc⟩:=hb
    obtain⟨cv,_,hcv⟩:=hc i el j x hi hj
    exact RC_cl hcv
 | mp es =>
   obtain⟨_,B,_,ms,_,_,hc⟩:=hO
   intro e he
   obtain⟨i,hi⟩:=qq he
   obtain⟨en,_,_,h1,h2⟩:=hc i e.1 e.2 hi
   exact⟨Qkd h1,Qkd h2⟩
 | md es =>
   obtain⟨_,B,_,ms,c,_,_,hc⟩:=hO
   intro e he
   obtain⟨i,hi⟩:=qq he
   obtain⟨en,_,h1,h2⟩:=hc i e.1 e.2 hi
   exact⟨Qkd h1,Qkd h2⟩
 | it mid since seen =>
   obtain⟨_,_,_,B,_,mb,_,hm⟩:=hO
   intro i hi
   subst hi
   obtain⟨e',he',_⟩:=hm
   exact Q48 he'
end
theorem Qfo {x:V} {n k:Nat} (hnk:n<=k) (h:x.cl0 n=true):x.cl0 k=true:=by
 cases x<;>simp only[V.cl0,decide_eq_true_eq]at h ⊢<;>omega
theorem Qfn {x:V} {n k:Nat} (hnk:n<=k) (h:x.cl1 n=true):x.cl1 k=true:=by
 cases x
 case f fn caps=>simp only[V.cl1,qj]at h ⊢;exact λy hy=>Qfo hnk (h y hy)
 all_goals
  simp only[V.cl1]at h ⊢
  exact Qfo hnk h
theorem Wf {x:V} {n k:Nat} (hnk:n<=k) (h:x.cl n=true):x.cl k=true:=by
 cases x
 case a cs=>simp only[V.cl,qj]at h ⊢;exact λy hy=>Qfn hnk (h y hy)
 case t=>simp[V.cl]at h
 all_goals
  simp only[V.cl]at h ⊢
  exact Qfn hnk h
theorem Qub {o:O} {n k:Nat} (hnk:n<=k) (h:o.cl n):o.cl k:=by
 cases o with
 | dead=>trivial
 | arr g sz els=>exact λel hel x hx=>Wf hnk (h el hel x hx)
 | mp es=>exact λe he=>⟨Wf hnk (h e he).1,Wf hnk (h e he).2⟩
 | md es=>exact λe he=>⟨Wf hnk (h e he).1,Wf hnk (h e he).2⟩
 | it mid since seen=>exact λi hi=>Nat.lt_of_lt_of_le (h i hi) hnk
theorem Q0b {P:Program} {f:FuncId} {vs:List V} {h:List O} {R:V->List O->Prop} (hc:(∀n,h.length<=n->∀o∈h,o.cl n)->ACall P f vs h R):ACall P f vs h R:=by
 intro J m w cargs hr hp
 exact hc (λn hn o ho=>Qub hn (Qo5 hr o ho)) J m w cargs hr hp
theorem Qy {P:Program} {f:FuncId} {vs:List V} {h h0:List O} {r0:V} {k:V->List O->Prop} (hc:ACall P f vs h (λr h'=>r=r0/\h'=h0)) (hk:k r0 h0):ACall P f vs h k :=
 hc.mono λr h' hh=>by rw[hh.1,hh.2];exact hk
def Rn.ints (r:Rn):List Int:=[r.a,r.b]
def Rn.cs (r:Rn):List V:=[.i .i64 r.a,.i .i64 r.b]
def Qk (l:List Rn):V:=.l 2 (l.map Rn.cs)
def Kb (out:List Rn) (r:Rn):List Rn :=
 match out.getLast? with
 | some q=>if r.a<=q.b then out.dropLast++[⟨q.a,max q.b r.b⟩] else out++[r]
 | none=>[r]
theorem Q1i (r:Rn):Kb [] r=[r]:=rfl
theorem Q1j (k:List Rn) (q r:Rn):Kb (k++[q]) r=if r.a<=q.b then k++[⟨q.a,max q.b r.b⟩] else k++[q]++[r]:=by
 unfold Kb;simp
theorem Qr4 {out:List Rn} {r:Rn} (h:RnsV out) (hr:r.a<r.b) (hb:∀q∈out,q.a<=r.a):RnsV (Kb out r)/\(∀q∈Kb out r,q.a<=r.a)/\∀x,Qj (Kb out r) x↔Qj out x∨(r.a<=x/\x<r.b):=by
 rcases Y7 out with rfl | ⟨k,q,rfl⟩
 ·rw[Q1i]
  exact⟨⟨by simpa using hr,by simp⟩,by simp,λx=>by simp[inRns_cons,Qm]⟩
 ·obtain⟨h1,h2,h3⟩:=RnsV.snoc.1 h
  have hq:=hb q (by simp)
  rw[Q1j]
  by_cases he:r.a<=q.b
  ·rw[if_pos he]
   refine⟨RnsV.snoc.2 ⟨h1,by simp only[];omega,λs hs=>h3 s hs⟩,λs hs=>?_,λx=>?_⟩
   ·rcases qg.1 hs with hs | hs
    ·exact hb s (by simp[hs])
    ·rw[qn.1 hs];exact hq
   ·simp only[Jo,inRns_cons,Qm,or_false]
    by_cases hk:Qj k x<;>simp only[hk,true_or,false_or,or_true]<;>omega
  ·rw[if_neg he]
   refine⟨RnsV.snoc.2 ⟨h,hr,λs hs=>?_⟩,λs hs=>?_,λx=>?_⟩
   ·rcases qg.1 hs with hs | hs
    ·have:=h3 s hs;omega
    ·rw[qn.1 hs];omega
   ·rcases qg.1 hs with hs | hs
    ·exact hb s hs
    ·rw[qn.1 hs];exact Int.le_refl _
   ·simp only[Jo,inRns_cons,Qm,or_false]
def Xw (l:List Rn):List Rn:=l.foldl Kb []
theorem Qet:∀(xs:List Rn) {out:List Rn},RnsV out->(∀r∈xs,r.a<r.b)->xs.Pairwise (λr s=>r.a<=s.a)->(∀q∈out,∀r∈xs,q.a<=r.a) ->
  RnsV (xs.foldl Kb out)/\∀x,Qj (xs.foldl Kb out) x↔Qj out x∨Qj xs x
 | [],out,h,_,_,_=>⟨h,λx=>by simp[Qm]⟩
 | r::xs,out,h,hab,hp,hb=>by
   obtain⟨p1,p2⟩:=jd.1 hp
   obtain⟨h1,h2,h3⟩:=Qr4 h (hab r (by simp)) (λq hq=>hb q hq r (by simp))
   obtain⟨g1,g2⟩:=Qet xs h1 (λs hs=>hab s (by simp[hs])) p2 (λq hq s hs=>by have:=h2 q hq;have:=p1 s hs;omega)
   refine⟨g1,λx=>?_⟩
   rw[List.foldl_cons,g2,h3,inRns_cons,or_assoc]
theorem Qr5 {xs:List Rn} (hab:∀r∈xs,r.a<r.b) (hp:xs.Pairwise λr s=>r.a<=s.a):RnsV (Xw xs)/\∀x,Qj (Xw xs) x↔Qj xs x:=by
 obtain⟨h1,h2⟩:=Qet xs RnsV.nil hab hp (by simp)
 exact⟨h1,λx=>by unfold Xw;rw[h2];simp[Qm]⟩
theorem Qhk (l:List Rn) (r:Rn):Xw (l++[r])=Kb (Xw l) r:=by simp[Xw]
theorem Qmm:∀(l:List Rn),(Xw l).length<=l.length:=by
 intro l
 have key:∀(xs out:List Rn),(xs.foldl Kb out).length<=out.length+xs.length:=by
  intro xs
  induction xs with
  | nil=>intro out;simp
  | cons r xs ih =>
    intro out
    have h1:(Kb out r).length<=out.length+1:=by
     rcases Y7 out with rfl | ⟨k,q,rfl⟩
     ·simp[Q1i]
     ·rw[Q1j];split<;>simp
    have:=ih (Kb out r)
    rw[List.foldl_cons,List.length_cons];omega
 simpa[Xw]using key l []
def RnB (l:List Rn):Prop:=∀r∈l,(-1048576<=r.a/\r.a<=1048576)/\-1048576<=r.b/\r.b<=1048576
def Y5 (l:List Rn):List Rn:=l.filter λr=>decide (r.a<r.b)
theorem Qrk (l:List Rn) (x:Int):Qj (Y5 l) x↔Qj l x:=by
 unfold Y5 Qj
 constructor
 ·rintro⟨r,hr,h⟩;exact⟨r,(qu.1 hr).1,h⟩
 ·rintro⟨r,hr,h⟩;exact⟨r,qu.2 ⟨hr,by simp;omega⟩,h⟩
abbrev RnS:={ r:Rn // -1048576<=r.a/\r.a<=1048576 }
instance:Inhabited RnS:=⟨⟨⟨0,0⟩,⟨by decide,by decide⟩⟩⟩
def Q9u (a b:RnS):Int:=a.1.a-b.1.a
theorem Qn8:Go.Sort.SWO (ltC Q9u) where
 irrefl x:=by unfold ltC Q9u;simp
 trans x y z:=by unfold ltC Q9u;simp only[decide_eq_true_eq];omega
 ntrans x y z:=by unfold ltC Q9u;simp only[decide_eq_false_iff_not];omega
def Qiw (P:Program) (f:FuncId):Prop:=∀l:List Rn,l.length<=100000->CallIs P f [Qk l] (Qk (Xw l))
def Qd1 (P:Program) (f:FuncId):Prop:=∀r:Rn,(-1048576<=r.a/\r.a<=1048576)/\-1048576<=r.b/\r.b<=1048576->CallIs P f [.a r.cs] (.b true)
def Qux (P:Program) (f:FuncId):Prop:=∀a b:Rn,(-1048576<=a.a/\a.a<=1048576)->(-1048576<=b.a/\b.a<=1048576)->CallIs P f [.a a.cs,.a b.cs] (.i .i64 (a.a-b.a))
def Quc (P:Program) (f:FuncId):Prop:=∀l:List Rn,l.length<=100000->RnB l->∃k,RnsV k/\(∀x,Qj k x↔Qj l x)/\CallIs P f [Qk l] (.t [Qk k,.i .i64 0])
section
variable {P:Program} (hm:P.follows .mixedOrders=true)
include hm
theorem Qat {f:FuncId} (hf:Q9 P f L27.c L27.r L27.n):Qd1 P f:=by
 rintro r ⟨⟨h1,h2⟩,h3,h4⟩
 refine PureC.is (Q6 hm hf (qh rfl) ?_) rfl
 unfold L27.c
 simp[go_sem,Rn.cs,h1,h2,h3,h4,L27.r]
theorem Q54 {f:FuncId} (hf:Q9 P f L1z.c L1z.r L1z.n):Qux P f:=by
 rintro a b ⟨h1,h2⟩ ⟨h3,h4⟩
 refine PureC.is (Q6 hm hf (qh rfl) ?_) rfl
 unfold L1z.c
 have hw:IntKind.i64.wrap (a.a-b.a)=a.a-b.a:=Q0 (by omega) (by omega)
 simp[go_sem,Rn.cs,hw,L1z.r]
theorem Qas {f:FuncId} (hf:Q9 P f L28.c L28.r L28.n):Qiw P f:=by
 intro l hl
 refine PureC.is (Q6 hm hf (qh rfl) ?_) rfl
 unfold L28.c
 simp[go_sem,Qk]
 refine Qx [.t 3 2] (α:=Nat × Nat) (λp=>p.1<=l.length)
  (λp=>⟨[(3,.own 0 (p.2+1) 0 (Xw (l.take p.1)).length),(7,Qk l),(8,.i .i64 l.length),(9,.i .i64 p.1)],[.arr (p.2+1) 2 ((Xw (l.take p.1)).map Rn.cs)]⟩)
  (λp=>l.length-p.1) (0,0) (Nat.zero_le _) ?_ ?_
 ·simp[go_sem,Qk,Xw]
 ·rintro⟨k,g⟩ hk
  simp only at hk ⊢
  by_cases hkl:k=l.length
  ·subst hkl
   rw[qi]
   have hd:∀x∈Xw l,∀y∈x.cs,y.isD=true:=λx _ y hy=>by simp[Rn.cs]at hy;rcases hy with rfl | rfl<;>rfl
   simp[go_sem,Qk,L28.r,qe]
   rw[if_pos hd];rfl
  ·have hlt:k<l.length:=by omega
   have hq:l[k]?=some l[k]:=q9 hlt
   generalize l[k]=r at hq
   obtain⟨_,hq'⟩:=q8.1 hq
   have hs:Xw (l.take (k+1))=Kb (Xw (l.take k)) r:=by rw[List.take_add_one,hq];exact Qhk _ _
   have hlen:=Qmm (l.take k)
   rw[qv]at hlen
   generalize Xw (l.take k)=out at *
   rcases Y7 out with rfl | ⟨o,q,rfl⟩
   ·rw[Q1i]at hs
    simp (disch:=omega) [go_sem,Qk,hlt,hq,hq',Rn.cs,Q0]
    exact⟨k+1,by omega,by omega,g+1,⟨⟨rfl,by rw[hs];rfl⟩,by omega⟩,rfl,by rw[hs];rfl⟩
   ·rw[Q1j]at hs
    have hol:o.length+1<=100000:=by simp at hlen;omega
    have hog:∀x:List V,(List.map Rn.cs o++[x])[o.length]?=some x:=λx=>by
     have:=qf (l₁:=List.map Rn.cs o) (l₂:=[x]) (i:=o.length) (by simp)
     rw[this];simp
    have hos:∀x y:List V,(List.map Rn.cs o++[x]).set o.length y=List.map Rn.cs o++[y]:=λx y=>by
     rw[jp _ _ (by simp)];simp
    have hot:List.take (o.length+1) (List.map Rn.cs o++[q.cs])=List.map Rn.cs o++[q.cs]:=qe (by simp)
    simp only[Rn.cs]at hot
    by_cases hle:r.a<=q.b
    ·rw[if_pos hle]at hs
     simp (disch:=omega) [go_sem,Qk,hlt,hq,hq',hle,hog,hos,hot,Rn.cs,Q0]
     have hmx:(if q.b<r.b then r.b else q.b)=max q.b r.b:=by split<;>omega
     exact⟨k+1,by omega,by omega,g,⟨⟨rfl,by rw[hs];simp⟩,by omega⟩,rfl,by rw[hs,hmx];simp[Rn.cs]⟩
    ·rw[if_neg hle]at hs
     simp (disch:=omega) [go_sem,Qk,hlt,hq,hq',hle,hog,hos,hot,Rn.cs,Q0]
     exact⟨⟨by omega,by omega⟩,k+1,by omega,by omega,g+1,⟨⟨rfl,by rw[hs];simp⟩,by omega⟩,rfl,by rw[hs];simp[Rn.cs]⟩
omit hm in
theorem I5 (l:List Rn):∀x∈l,∀y∈x.cs,y.isD=true:=λx _ y hy=>by simp[Rn.cs]at hy;rcases hy with rfl | rfl<;>rfl
omit hm in
theorem Qe7 (l:List Rn) (n:Nat):∀x∈l,∀y∈x.cs,y.cl n=true:=λx hx y hy=>Kg n (I5 l x hx y hy)
theorem Qau {f ff fs fc fj:FuncId} (hf:Q9 P f (L1y.c ff fs fc fj) L1y.r L1y.n) (hfit:Qd1 P ff) (hs:Ui P fs 2) (hc:Qux P fc) (hcal:Qv P fc=true) (hj:Qiw P fj):Quc P f:=by
 intro l hl hB
 have hfB:∀r∈Y5 l,-1048576<=r.a/\r.a<=1048576:=λr hr=>(hB r (qu.1 hr).1).1
 have hfl:(Y5 l).length<=l.length:=jc _ _
 obtain⟨ys,hperm,hup,hcall⟩:=hs (λr:RnS=>r.1.ints) (λ_=>rfl) Q9u Qn8 fc hcal (λa b=>hc a.1 b.1 a.2 b.2) ((Y5 l).pmap Subtype.mk hfB) (by rw[List.length_pmap];omega)
 have hxs:((Y5 l).pmap Subtype.mk hfB).map Subtype.val=Y5 l:=by rw[List.map_pmap];simp
 have hp2:=hperm.map Subtype.val
 rw[hxs]at hp2
 have hfull:∀r∈ys.map Subtype.val,r.a<r.b:=λr hr=>by
  have:=(qu.1 (hp2.mem_iff.1 hr)).2
  simpa using this
 have hsort:(ys.map Subtype.val).Pairwise λr s:Rn=>r.a<=s.a:=by
  rw[ji]
  refine hup.imp λ{a b} h=>?_
  unfold ltC Q9u at h
  simp only[decide_eq_false_iff_not]at h
  omega
 obtain⟨j1,j2⟩:=Qr5 hfull hsort
 have hyl:(ys.map Subtype.val).length=(Y5 l).length:=hp2.length_eq
 have hjc:=hj (ys.map Subtype.val) (by omega)
 refine⟨Xw (ys.map Subtype.val),j1,λx=>?_,?_⟩
 ·rw[j2,<- Qrk l]
  unfold Qj
  constructor
  ·rintro⟨r,hr,h⟩;exact⟨r,hp2.mem_iff.1 hr,h⟩
  ·rintro⟨r,hr,h⟩;exact⟨r,hp2.mem_iff.2 hr,h⟩
 have hyy:ys.map (λx:RnS=>x.1.ints.map (V.i .i64))=(ys.map Subtype.val).map Rn.cs:=by rw[List.map_map];rfl
 have hxx:((Y5 l).pmap Subtype.mk hfB).map (λx:RnS=>x.1.ints.map (V.i .i64))=(Y5 l).map Rn.cs:=by
  conv=>rhs;rw[<- hxs]
  rw[List.map_map];rfl
 rw[hyy,hxx]at hcall
 rw[List.length_pmap]at hcall
 generalize ys.map Subtype.val=zs at *
 clear hup hperm
 refine PureC.is (Q6 hm hf (qh rfl) ?_) rfl
 unfold L1y.c
 simp[go_sem,Qk]
 refine Qx [.t 4 2] (α:=Nat) (λk=>k<=l.length)
  (λk=>⟨[(4,.own 0 ((Y5 (l.take k)).length+1) 0 (Y5 (l.take k)).length),(7,Qk l),(8,.i .i64 l.length),(9,.i .i64 k)],[.arr ((Y5 (l.take k)).length+1) 2 ((Y5 (l.take k)).map Rn.cs)]⟩)
  (λk=>l.length-k) 0 (Nat.zero_le _) ?_ ?_
 ·simp[go_sem,Qk,Y5]
 ·intro k hk
  by_cases hkl:k=l.length
  ·subst hkl
   rw[qi]
   simp[go_sem,Qk]
   refine Qy (hcall _ 0 _ rfl) ?_
   simp[go_sem]
   refine Y8 (vs:=[Qk zs]) ?_ hjc ?_
   ·have hd:=I5 zs
    have ht:List.take (Y5 l).length (zs.map Rn.cs)=zs.map Rn.cs:=qe (by rw[List.length_map];omega)
    simp[go_sem,Y9,frz,X1,Qk,hyl,ht]
    rw[if_pos hd];rfl
   ·simp[go_sem,Qk,L1y.r]
  ·have hlt:k<l.length:=by omega
   have hq:l[k]?=some l[k]:=q9 hlt
   generalize l[k]=r at hq
   obtain⟨_,hq'⟩:=q8.1 hq
   have hrB:=hB r (qb hq)
   have hft:=hfit r hrB
   have hfs:Y5 (l.take (k+1))=Y5 (l.take k)++(if r.a<r.b then [r] else []):=by
    unfold Y5
    rw[List.take_add_one,hq]
    simp only[Option.toList_some,List.filter_append,List.filter_cons,List.filter_nil]
    split<;>simp_all
   have hfk:(Y5 (l.take k)).length<=k:=by
    have:=jc (λr:Rn=>decide (r.a<r.b)) (l.take k)
    rw[qv]at this
    unfold Y5;omega
   have htk:List.take (Y5 (l.take k)).length ((Y5 (l.take k)).map Rn.cs)=(Y5 (l.take k)).map Rn.cs:=qe (by simp)
   have hcl:=Qe7 (Y5 (l.take k))
   by_cases hab:r.a<r.b
   ·rw[if_pos hab]at hfs
    simp (disch:=omega) [go_sem,Qk,hlt,hq,hq',Rn.cs,show ¬ r.b<=r.a by omega]
    refine Q4 hft ?_
    simp (disch:=omega) [go_sem,Qk,Rn.cs,htk,Q0]
    exact⟨⟨by omega,by omega⟩,k+1,by omega,by omega,⟨by rw[hfs];simp,by omega⟩,by rw[hfs];simp,by rw[hfs];simp[Rn.cs]⟩
   ·rw[if_neg hab,List.append_nil]at hfs
    simp (disch:=omega) [go_sem,Qk,hlt,hq,hq',Rn.cs,show r.b<=r.a by omega,Q0]
    exact⟨k+1,by omega,by omega,⟨by rw[hfs],by omega⟩,by rw[hfs],by rw[hfs]⟩
end
end Go.Abs
