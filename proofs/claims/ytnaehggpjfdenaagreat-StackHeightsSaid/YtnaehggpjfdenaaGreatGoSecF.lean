/- Part of the library on which the proof stands: an abstract machine, its values and its soundness against the model; or what functions of the program do to such values. -/
import Derived.Test.YtnaehggpjfdenaaGreatGoShpD
import Derived.Test.YtnaehggpjfdenaaGreatAbsCP
import Derived.Test.YtnaehggpjfdenaaGreatGoShp
set_option linter.unusedVariables false
set_option linter.unusedSimpArgs false
set_option maxHeartbeats 8000000
set_option maxRecDepth 20000
namespace Go.Abs
abbrev Eg:=P2 × P2
def Q24 (e:Eg) (p:P2):Int :=
 if e.1.y<=p.y/\p.y<e.2.y/\0<Ji e.1 e.2 p then 1 else if e.2.y<=p.y/\p.y<e.1.y/\Ji e.1 e.2 p<0 then -1 else 0
def wnd (es:List Eg) (p:P2):Int:=(es.map (Q24 · p)).sum
theorem Q66 {a b:List Int} (h:a.Perm b):a.sum=b.sum:=by
 induction h with
 | nil=>rfl
 | cons x _ ih=>simp only[List.sum_cons,ih]
 | swap x y l=>simp only[List.sum_cons];omega
 | trans _ _ h1 h2=>rw[h1,h2]
theorem Qk9 {es fs:List Eg} (h:es.Perm fs) (p:P2):wnd es p=wnd fs p:=Q66 (h.map _)
theorem wnd_nil (p:P2):wnd [] p=0:=rfl
theorem Ez (e:Eg) (es:List Eg) (p:P2):wnd (e::es) p=Q24 e p+wnd es p:=by simp[wnd]
theorem Qj5 {e:Eg} (h:e.1=e.2) (p:P2):Q24 e p=0:=by
 unfold Q24
 rw[h,if_neg (by omega),if_neg (by omega)]
theorem Qka (p:P2):∀es:List Eg,wnd (es.filter λe=>decide (e.1≠e.2)) p=wnd es p
 | []=>rfl
 | e::es=>by
   rw[List.filter_cons,Ez,<- Qka p es]
   split
   ·rw[Ez]
   ·rename_i h
    rw[Qj5 (by simpa using h)];omega
def Ba (es:List Eg):Prop:=∀p:P2,es.countP (λe=>decide (e.1=p))=es.countP (λe=>decide (e.2=p))
theorem Qej (a b p:P2):Ji b a p=- Ji a b p:=by unfold Ji;grind
def EgB (es:List Eg) (k:Int):Prop:=∀e∈es,(-k<=e.1.x/\e.1.x<=k)/\(-k<=e.1.y/\e.1.y<=k)/\(-k<=e.2.x/\e.2.x<=k)/\(-k<=e.2.y/\e.2.y<=k)
def ctr (k y x:Int):P2:=⟨x*k+k / 2,y*k+k / 2⟩
noncomputable def Uc (es:List Eg) (k:Int):List Rw:=Jl λy x=>decide (0<wnd es (ctr k y x))
theorem Qhw {es fs:List Eg} (h:es.Perm fs) (k:Int):Uc es k=Uc fs k:=by
 unfold Uc;congr 1;funext y x;rw[Qk9 h]
theorem rasR_ne (es:List Eg) (k:Int):Uc (es.filter λe=>decide (e.1≠e.2)) k=Uc es k:=by
 unfold Uc;congr 1;funext y x;rw[Qka]
structure E5 where
 lo:P2
 hi:P2
 sg:Int
def Eh (e:Eg):Option E5:=if e.1.y<e.2.y then some ⟨e.1,e.2,1⟩ else if e.2.y<e.1.y then some ⟨e.2,e.1,-1⟩ else none
def Qj0 (k cy:Int) (e:E5):Int:=e.lo.x*(e.hi.y-e.lo.y)+(e.hi.x-e.lo.x)*(cy-e.lo.y)-k / 2*(e.hi.y-e.lo.y)
def Q5s (k cy:Int) (e:E5):Int:=- ((- Qj0 k cy e) / (k*(e.hi.y-e.lo.y)))
def Qgw (k cy:Int) (e:E5):Int × Int:=(Q5s k cy e,e.sg)
def onE (cy:Int) (e:E5):Bool:=decide (e.lo.y<=cy) && decide (cy<e.hi.y)
def Zp (l:List E5) (k cy:Int):List (Int × Int):=(l.filter (onE cy)).map (Qgw k cy)
def Yp (ss:List (Int × Int)) (x:Int):Int:=((ss.filter λs=>decide (x<s.1)).map Prod.snd).sum
theorem Xz (x:Int):Yp [] x=0:=rfl
theorem Kf (s:Int × Int) (ss:List (Int × Int)) (x:Int):Yp (s::ss) x=(if x<s.1 then s.2 else 0)+Yp ss x:=by
 unfold Yp
 rw[List.filter_cons]
 by_cases h:x<s.1
 ·simp[h]
 ·simp[h]
theorem Q2t {a b:List (Int × Int)} (h:a.Perm b) (x:Int):Yp a x=Yp b x:=Q66 ((h.filter _).map _)
theorem Qou {k cy y x:Int} {e:E5} (hk:0<k) (hd:e.lo.y<e.hi.y) (hc:cy=y*k+k / 2):x<Q5s k cy e↔0<Ji e.lo e.hi (ctr k y x):=by
 have hD:0<k*(e.hi.y-e.lo.y):=Int.mul_pos hk (by omega)
 unfold Q5s
 have h1:x < - ((- Qj0 k cy e) / (k*(e.hi.y-e.lo.y)))↔(- Qj0 k cy e) / (k*(e.hi.y-e.lo.y)) < -x:=by omega
 rw[h1,Int.ediv_lt_iff_lt_mul hD]
 unfold Qj0 Ji ctr
 simp only[]
 rw[<- hc]
 generalize k / 2=q
 constructor<;>intro h<;>grind
theorem Qok {k y x:Int} (hk:0<k) (e:Eg):Q24 e (ctr k y x)=Yp (Zp (Eh e).toList k (y*k+k / 2)) x:=by
 unfold Eh Q24
 have hcy:(ctr k y x).y=y*k+k / 2:=rfl
 by_cases h1:e.1.y<e.2.y
 ·rw[if_pos h1]
  simp only[Option.toList_some,Zp]
  have hb:=Qou (x:=x) (y:=y) (e:=⟨e.1,e.2,1⟩) hk h1 rfl
  simp only[]at hb
  by_cases h2:onE (y*k+k / 2) ⟨e.1,e.2,1⟩=true
  ·rw[List.filter_cons,if_pos h2]
   simp only[List.filter_nil,List.map_cons,List.map_nil,Kf,Xz,Qgw]
   simp only[onE,Bool.and_eq_true,decide_eq_true_eq]at h2
   by_cases h3:x<Q5s k (y*k+k / 2) ⟨e.1,e.2,1⟩
   ·rw[if_pos ⟨h2.1,h2.2,hb.1 h3⟩,if_pos h3];rfl
   ·rw[if_neg (λhh=>h3 (hb.2 hh.2.2)),if_neg (by rw[hcy];omega),if_neg h3];rfl
  ·rw[List.filter_cons,if_neg h2]
   simp only[List.filter_nil,List.map_nil,Xz]
   simp only[onE,Bool.and_eq_true,decide_eq_true_eq]at h2
   rw[if_neg (by rw[hcy];omega),if_neg (by rw[hcy];omega)]
 ·rw[if_neg h1,if_neg (by omega)]
  by_cases h4:e.2.y<e.1.y
  ·rw[if_pos h4]
   simp only[Option.toList_some,Zp]
   have hb:=Qou (x:=x) (y:=y) (e:=⟨e.2,e.1,-1⟩) hk h4 rfl
   simp only[]at hb
   rw[Qej]at hb
   by_cases h2:onE (y*k+k / 2) ⟨e.2,e.1,-1⟩=true
   ·rw[List.filter_cons,if_pos h2]
    simp only[List.filter_nil,List.map_cons,List.map_nil,Kf,Xz,Qgw]
    simp only[onE,Bool.and_eq_true,decide_eq_true_eq]at h2
    by_cases h3:x<Q5s k (y*k+k / 2) ⟨e.2,e.1,-1⟩
    ·rw[if_pos ⟨h2.1,h2.2,by have:=hb.1 h3;omega⟩,if_pos h3];rfl
    ·rw[if_neg (λhh=>h3 (hb.2 (by omega))),if_neg h3];rfl
   ·rw[List.filter_cons,if_neg h2]
    simp only[List.filter_nil,List.map_nil,Xz]
    simp only[onE,Bool.and_eq_true,decide_eq_true_eq]at h2
    rw[if_neg (by rw[hcy];omega)]
  ·rw[if_neg h4,if_neg (by omega)]
   rfl
theorem Q2r (l l':List E5) (k cy:Int):Zp (l++l') k cy=Zp l k cy++Zp l' k cy:=by simp[Zp]
theorem Qhh (a b:List (Int × Int)) (x:Int):Yp (a++b) x=Yp a x+Yp b x:=by simp[Yp]
theorem Q9t {k:Int} (hk:0<k) (y x:Int):∀es:List Eg,wnd es (ctr k y x)=Yp (Zp (es.filterMap Eh) k (y*k+k / 2)) x
 | []=>rfl
 | e::es=>by
   rw[Ez,Q9t hk y x es,Qok hk]
   have:(e::es).filterMap Eh=(Eh e).toList++es.filterMap Eh:=by
    rw[List.filterMap_cons];cases Eh e<;>rfl
   rw[this,Q2r,Qhh]
def clM (x:Int):Int:=max (-4096) (min x 4096)
def Jb:List (Int × Int)->Int->Int->List Rn
 | [],w,r=>if 0<w/\-4096<r then [⟨-4096,r⟩] else []
 | s::ss,w,r=>(if 0<w/\clM s.1<r then [⟨clM s.1,r⟩] else [])++Jb ss (w+s.2) (clM s.1)
theorem Qcy {ss:List (Int × Int)} {x:Int} (h:∀s∈ss,s.1<=x):Yp ss x=0:=by
 induction ss with
 | nil=>rfl
 | cons s ss ih=>rw[Kf,if_neg (by have:=h s (by simp);omega),ih λt ht=>h t (by simp[ht])];rfl
theorem Qbb:∀(ss:List (Int × Int)) (w r x:Int),ss.Pairwise (λa b=>b.1<=a.1)->r<=4096->(∀s∈ss,clM s.1<=r) ->
  (Qf (Jb ss w r) x↔(-4096<=x/\x<r)/\0<w+Yp ss x)
 | [],w,r,x,_,hr,_=>by
   rw[Xz]
   unfold Jb
   split
   ·rw[inRns_cons];simp only[Qk,or_false];omega
   ·simp only[Qk,false_iff];omega
 | s::ss,w,r,x,hp,hr,hc=>by
   obtain⟨p1,p2⟩:=j9.1 hp
   have hs:=hc s (by simp)
   have hcl:clM s.1<=4096:=by unfold clM;omega
   have ih:=Qbb ss (w+s.2) (clM s.1) x p2 hcl (λt ht=>by have:=p1 t ht;unfold clM;omega)
   unfold Jb
   rw[J4,ih,Kf]
   by_cases hx:clM s.1<=x
   ·by_cases hxr:x<r
    ·have hsx:s.1<=x:=by unfold clM at hx;omega
     rw[if_neg (show ¬ x<s.1 by omega),Qcy (λt ht=>by have:=p1 t ht;omega)]
     split
     ·rw[inRns_cons];simp only[Qk,or_false]
      have:-4096<=clM s.1:=by unfold clM;omega
      omega
     ·simp only[Qk,false_or]
      rename_i hn
      have:-4096<=clM s.1:=by unfold clM;omega
      omega
    ·constructor
     ·rintro (h | h)
      ·split at h
       ·rw[inRns_cons]at h;simp only[Qk,or_false]at h;omega
       ·exact absurd h (Qk _)
      ·omega
     ·rintro⟨h,_⟩;omega
   ·constructor
    ·rintro (h | ⟨h1,h2⟩)
     ·split at h
      ·rw[inRns_cons]at h;simp only[Qk,or_false]at h;omega
      ·exact absurd h (Qk _)
     ·have hsx:x<s.1:=by unfold clM at hx;omega
      rw[if_pos hsx];omega
    ·rintro⟨h1,h2⟩
     have hsx:x<s.1:=by unfold clM at hx;omega
     rw[if_pos hsx]at h2
     exact .inr ⟨by omega,by omega⟩
theorem Q63:∀(ss:List (Int × Int)) (w r:Int),-4096<=r->r<=4096->∀q∈Jb ss w r,(-4096<=q.a/\q.a<=4096)/\-4096<=q.b/\q.b<=4096
 | [],w,r,h0,hr,q,hq=>by
   unfold Jb at hq
   split at hq
   ·rw[qn.1 hq];simp only[];omega
   ·simp at hq
 | s::ss,w,r,h0,hr,q,hq=>by
   unfold Jb at hq
   rcases qg.1 hq with hq | hq
   ·split at hq
    ·rw[qn.1 hq];simp only[];unfold clM;omega
    ·simp at hq
   ·exact Q63 ss _ _ (by unfold clM;omega) (by unfold clM;omega) q hq
theorem Q62:∀(ss:List (Int × Int)) (w r:Int),(Jb ss w r).length<=ss.length+1
 | [],w,r=>by unfold Jb;split<;>simp
 | s::ss,w,r=>by
   unfold Jb
   have:=Q62 ss (w+s.2) (clM s.1)
   rw[j3,List.length_cons]
   split<;>simp<;>omega
theorem Qd (h l:List O) (k:Nat):(h++l)[h.length+k]?=l[k]?:=by
 rw[qf (by omega)];congr 1;omega
theorem Qg (h l:List O):(h++l)[h.length]?=l[0]?:=Qd h l 0
theorem Qn (h l:List O) (k:Nat) (o:O):(h++l).set (h.length+k) o=h++l.set k o:=by
 rw[ji _ _ (by omega)];congr 2;omega
theorem Qt (h l:List O) (o:O):(h++l).set h.length o=h++l.set 0 o:=Qn h l 0 o
theorem Qy {n:Nat} {a b:List O}:∀{h:List O},(∀o∈h,o.cl n)->WeakH n a b->WeakH n (h++a) (h++b)
 | [],_,hw=>hw
 | o::h,hc,hw=>⟨.inr ⟨rfl,hc o (by simp)⟩,Qy (λo' ho=>hc o' (by simp[ho])) hw⟩
section
variable {J:Nat->Prop} {m:List Ent} {w:World}
theorem Q29 {id:Nat} {e:Ent} (h:m[id]?=some e):id<m.length:=(q8.1 h).1
theorem Qpl {x:V} {c:Value} (h:RL J m w x c):x.cl0 m.length=true:=by
 cases x<;>simp only[V.cl0]<;>simp only[RL]at h
 case own id g off len=>obtain⟨_,e,he,_⟩:=h;simpa using Q29 he
 case p id g el j=>obtain⟨_,e,he,_⟩:=h;simpa using Q29 he
 case mp id=>obtain⟨_,e,he,_⟩:=h;simpa using Q29 he
theorem Qpn {x:V} {c:Value} (h:RC J m w x c):x.cl1 m.length=true:=by
 cases x
 case f fn caps =>
  obtain⟨cs,_,hp⟩:=h
  simp only[V.cl1,qj]
  intro x hx
  obtain⟨i,hi⟩:=qq hx
  have hlt:=(q8.1 hi).1
  have hl:=hp.1
  exact Qpl (hp.2 i x cs.toList[i] hi (q9 (by omega)))
 case a cs=>exact(show RL J m w (.a cs) c from h).elim
 case t vs=>exact(show RL J m w (.t vs) c from h).elim
 all_goals
  simp only[RC]at h
  simp only[V.cl1]
  exact Qpl h
theorem RC_cl {x:V} {c:Value} (h:RC J m w x c):x.cl m.length=true:=by
 cases x
 case a cs=>exact(show RL J m w (.a cs) c from h).elim
 case t vs=>exact(show RL J m w (.t vs) c from h).elim
 all_goals
  simp only[V.cl]
  exact Qpn h
theorem Qgk {x:V} {c:Value} (h:RA J m w x c):x.cl m.length=true:=by
 cases x
 case a cs =>
  obtain⟨arr,_,hp⟩:=h
  simp only[V.cl,qj]
  intro x hx
  obtain⟨i,hi⟩:=qq hx
  have hlt:=(q8.1 hi).1
  have hl:=hp.1
  exact Qpn (hp.2 i x arr.toList[i] hi (q9 (by omega)))
 case t vs=>exact(show RC J m w (.t vs) c from h).elim
 case any=>rfl
 all_goals
  simp only[RA]at h
  exact RC_cl h
theorem Qk4 {h:List O} (hr:RS J h m w):∀o∈h,o.cl h.length:=by
 intro o ho
 obtain⟨id,hid⟩:=qq ho
 have hlt:=(q8.1 hid).1
 have hl:=hr.len
 have hO:=hr.obj id m[id] o (q9 (by omega)) hid
 rw[<- hl]
 cases o with
 | dead=>trivial
 | arr g sz els =>
   obtain⟨_,_,_,hb⟩:=hO
   intro el hel x hx
   obtain⟨i,hi⟩:=qq hel
   obtain⟨j,hj⟩:=qq hx
   split at hb
   ·obtain⟨rfl,_⟩:=hb;simp at hi
   ·obtain⟨_,_,c,ty,fz,_,_,_,hc⟩:=hb
    obtain⟨cv,_,hcv⟩:=hc i el j x hi hj
    exact RC_cl hcv
 | mp es =>
   obtain⟨_,B,_,ms,_,_,hc⟩:=hO
   intro e he
   obtain⟨i,hi⟩:=qq he
   obtain⟨en,_,_,h1,h2⟩:=hc i e.1 e.2 hi
   exact⟨Qgk h1,Qgk h2⟩
 | md es =>
   obtain⟨_,B,_,ms,c,_,_,hc⟩:=hO
   intro e he
   obtain⟨i,hi⟩:=qq he
   obtain⟨en,_,h1,h2⟩:=hc i e.1 e.2 hi
   exact⟨Qgk h1,Qgk h2⟩
 | it mid since seen =>
   obtain⟨_,_,_,B,_,mb,_,hm⟩:=hO
   intro i hi
   subst hi
   obtain⟨e',he',_⟩:=hm
   exact Q29 he'
end
theorem Qbz {x:V} {n k:Nat} (hnk:n<=k) (h:x.cl0 n=true):x.cl0 k=true:=by
 cases x<;>simp only[V.cl0,decide_eq_true_eq]at h ⊢<;>omega
theorem Qby {x:V} {n k:Nat} (hnk:n<=k) (h:x.cl1 n=true):x.cl1 k=true:=by
 cases x
 case f fn caps=>simp only[V.cl1,qj]at h ⊢;exact λy hy=>Qbz hnk (h y hy)
 all_goals
  simp only[V.cl1]at h ⊢
  exact Qbz hnk h
theorem B3 {x:V} {n k:Nat} (hnk:n<=k) (h:x.cl n=true):x.cl k=true:=by
 cases x
 case a cs=>simp only[V.cl,qj]at h ⊢;exact λy hy=>Qby hnk (h y hy)
 case t=>simp[V.cl]at h
 all_goals
  simp only[V.cl]at h ⊢
  exact Qby hnk h
theorem Qpv {o:O} {n k:Nat} (hnk:n<=k) (h:o.cl n):o.cl k:=by
 cases o with
 | dead=>trivial
 | arr g sz els=>exact λel hel x hx=>B3 hnk (h el hel x hx)
 | mp es=>exact λe he=>⟨B3 hnk (h e he).1,B3 hnk (h e he).2⟩
 | md es=>exact λe he=>⟨B3 hnk (h e he).1,B3 hnk (h e he).2⟩
 | it mid since seen=>exact λi hi=>Nat.lt_of_lt_of_le (h i hi) hnk
theorem Bb {P:Program} {f:FuncId} {vs:List V} {h:List O} {R:V->List O->Prop} (hc:(∀n,h.length<=n->∀o∈h,o.cl n)->ACall P f vs h R):ACall P f vs h R:=by
 intro J m w cargs hr hp
 exact hc (λn hn o ho=>Qpv hn (Qk4 hr o ho)) J m w cargs hr hp
theorem Qr {P:Program} {f:FuncId} {vs:List V} {h h0:List O} {r0:V} {k:V->List O->Prop} (hc:ACall P f vs h (λr h'=>r=r0/\h'=h0)) (hk:k r0 h0):ACall P f vs h k :=
 hc.mono λr h' hh=>by rw[hh.1,hh.2];exact hk
def Rn.ints (r:Rn):List Int:=[r.a,r.b]
def Rn.cs (r:Rn):List V:=[.i .i64 r.a,.i .i64 r.b]
def Qj (l:List Rn):V:=.l 2 (l.map Rn.cs)
def Jr (out:List Rn) (r:Rn):List Rn :=
 match out.getLast? with
 | some q=>if r.a<=q.b then out.dropLast++[⟨q.a,max q.b r.b⟩] else out++[r]
 | none=>[r]
theorem Q09 (r:Rn):Jr [] r=[r]:=rfl
theorem Q0a (k:List Rn) (q r:Rn):Jr (k++[q]) r=if r.a<=q.b then k++[⟨q.a,max q.b r.b⟩] else k++[q]++[r]:=by
 unfold Jr;simp
theorem Qmz {out:List Rn} {r:Rn} (h:RnsV out) (hr:r.a<r.b) (hb:∀q∈out,q.a<=r.a):RnsV (Jr out r)/\(∀q∈Jr out r,q.a<=r.a)/\∀x,Qf (Jr out r) x↔Qf out x∨(r.a<=x/\x<r.b):=by
 rcases Wv out with rfl | ⟨k,q,rfl⟩
 ·rw[Q09]
  exact⟨⟨by simpa using hr,by simp⟩,by simp,λx=>by simp[inRns_cons,Qk]⟩
 ·obtain⟨h1,h2,h3⟩:=RnsV.snoc.1 h
  have hq:=hb q (by simp)
  rw[Q0a]
  by_cases he:r.a<=q.b
  ·rw[if_pos he]
   refine⟨RnsV.snoc.2 ⟨h1,by simp only[];omega,λs hs=>h3 s hs⟩,λs hs=>?_,λx=>?_⟩
   ·rcases qg.1 hs with hs | hs
    ·exact hb s (by simp[hs])
    ·rw[qn.1 hs];exact hq
   ·simp only[J4,inRns_cons,Qk,or_false]
    by_cases hk:Qf k x<;>simp only[hk,true_or,false_or,or_true]<;>omega
  ·rw[if_neg he]
   refine⟨RnsV.snoc.2 ⟨h,hr,λs hs=>?_⟩,λs hs=>?_,λx=>?_⟩
   ·rcases qg.1 hs with hs | hs
    ·have:=h3 s hs;omega
    ·rw[qn.1 hs];omega
   ·rcases qg.1 hs with hs | hs
    ·exact hb s hs
    ·rw[qn.1 hs];exact Int.le_refl _
   ·simp only[J4,inRns_cons,Qk,or_false]
def Xi (l:List Rn):List Rn:=l.foldl Jr []
theorem Qb7:∀(xs:List Rn) {out:List Rn},RnsV out->(∀r∈xs,r.a<r.b)->xs.Pairwise (λr s=>r.a<=s.a)->(∀q∈out,∀r∈xs,q.a<=r.a) ->
  RnsV (xs.foldl Jr out)/\∀x,Qf (xs.foldl Jr out) x↔Qf out x∨Qf xs x
 | [],out,h,_,_,_=>⟨h,λx=>by simp[Qk]⟩
 | r::xs,out,h,hab,hp,hb=>by
   obtain⟨p1,p2⟩:=j9.1 hp
   obtain⟨h1,h2,h3⟩:=Qmz h (hab r (by simp)) (λq hq=>hb q hq r (by simp))
   obtain⟨g1,g2⟩:=Qb7 xs h1 (λs hs=>hab s (by simp[hs])) p2 (λq hq s hs=>by have:=h2 q hq;have:=p1 s hs;omega)
   refine⟨g1,λx=>?_⟩
   rw[List.foldl_cons,g2,h3,inRns_cons,or_assoc]
theorem Qn0 {xs:List Rn} (hab:∀r∈xs,r.a<r.b) (hp:xs.Pairwise λr s=>r.a<=s.a):RnsV (Xi xs)/\∀x,Qf (Xi xs) x↔Qf xs x:=by
 obtain⟨h1,h2⟩:=Qb7 xs RnsV.nil hab hp (by simp)
 exact⟨h1,λx=>by unfold Xi;rw[h2];simp[Qk]⟩
theorem Qdy (l:List Rn) (r:Rn):Xi (l++[r])=Jr (Xi l) r:=by simp[Xi]
theorem Qio:∀(l:List Rn),(Xi l).length<=l.length:=by
 intro l
 have key:∀(xs out:List Rn),(xs.foldl Jr out).length<=out.length+xs.length:=by
  intro xs
  induction xs with
  | nil=>intro out;simp
  | cons r xs ih =>
    intro out
    have h1:(Jr out r).length<=out.length+1:=by
     rcases Wv out with rfl | ⟨k,q,rfl⟩
     ·simp[Q09]
     ·rw[Q0a];split<;>simp
    have:=ih (Jr out r)
    rw[List.foldl_cons,List.length_cons];omega
 simpa[Xi]using key l []
def RnB (l:List Rn):Prop:=∀r∈l,(-1048576<=r.a/\r.a<=1048576)/\-1048576<=r.b/\r.b<=1048576
def Y0 (l:List Rn):List Rn:=l.filter λr=>decide (r.a<r.b)
theorem Qnf (l:List Rn) (x:Int):Qf (Y0 l) x↔Qf l x:=by
 unfold Y0 Qf
 constructor
 ·rintro⟨r,hr,h⟩;exact⟨r,(qu.1 hr).1,h⟩
 ·rintro⟨r,hr,h⟩;exact⟨r,qu.2 ⟨hr,by simp;omega⟩,h⟩
abbrev RnS:={ r:Rn // -1048576<=r.a/\r.a<=1048576 }
instance:Inhabited RnS:=⟨⟨⟨0,0⟩,⟨by decide,by decide⟩⟩⟩
def Q6o (a b:RnS):Int:=a.1.a-b.1.a
theorem Qj7:Go.Sort.SWO (ltC Q6o) where
 irrefl x:=by unfold ltC Q6o;simp
 trans x y z:=by unfold ltC Q6o;simp only[decide_eq_true_eq];omega
 ntrans x y z:=by unfold ltC Q6o;simp only[decide_eq_false_iff_not];omega
def Qf8 (P:Program) (f:FuncId):Prop:=∀l:List Rn,l.length<=100000->CallIs P f [Qj l] (Qj (Xi l))
def Q9i (P:Program) (f:FuncId):Prop:=∀r:Rn,(-1048576<=r.a/\r.a<=1048576)/\-1048576<=r.b/\r.b<=1048576->CallIs P f [.a r.cs] (.b true)
def Qqh (P:Program) (f:FuncId):Prop:=∀a b:Rn,(-1048576<=a.a/\a.a<=1048576)->(-1048576<=b.a/\b.a<=1048576)->CallIs P f [.a a.cs,.a b.cs] (.i .i64 (a.a-b.a))
def Qpw (P:Program) (f:FuncId):Prop:=∀l:List Rn,l.length<=100000->RnB l->∃k,RnsV k/\(∀x,Qf k x↔Qf l x)/\CallIs P f [Qj l] (.t [Qj k,.i .i64 0])
section
variable {P:Program} (hm:P.follows .mixedOrders=true)
include hm
theorem Q7l {f:FuncId} (hf:Q9 P f L1f.c L1f.r L1f.n):Q9i P f:=by
 rintro r ⟨⟨h1,h2⟩,h3,h4⟩
 refine PureC.is (Q8 hm hf (qh rfl) ?_) rfl
 unfold L1f.c
 simp[go_sem,Rn.cs,h1,h2,h3,h4,L1f.r]
theorem Q33 {f:FuncId} (hf:Q9 P f L17.c L17.r L17.n):Qqh P f:=by
 rintro a b ⟨h1,h2⟩ ⟨h3,h4⟩
 refine PureC.is (Q8 hm hf (qh rfl) ?_) rfl
 unfold L17.c
 have hw:IntKind.i64.wrap (a.a-b.a)=a.a-b.a:=Q3 (by omega) (by omega)
 simp[go_sem,Rn.cs,hw,L17.r]
theorem Q7k {f:FuncId} (hf:Q9 P f L1g.c L1g.r L1g.n):Qf8 P f:=by
 intro l hl
 refine PureC.is (Q8 hm hf (qh rfl) ?_) rfl
 unfold L1g.c
 simp[go_sem,Qj]
 refine Qz [.t 3 2] (α:=Nat × Nat) (λp=>p.1<=l.length)
  (λp=>⟨[(3,.own 0 (p.2+1) 0 (Xi (l.take p.1)).length),(7,Qj l),(8,.i .i64 l.length),(9,.i .i64 p.1)],[.arr (p.2+1) 2 ((Xi (l.take p.1)).map Rn.cs)]⟩)
  (λp=>l.length-p.1) (0,0) (Nat.zero_le _) ?_ ?_
 ·simp[go_sem,Qj,Xi]
 ·rintro⟨k,g⟩ hk
  simp only at hk ⊢
  by_cases hkl:k=l.length
  ·subst hkl
   rw[qi]
   have hd:∀x∈Xi l,∀y∈x.cs,y.isD=true:=λx _ y hy=>by simp[Rn.cs]at hy;rcases hy with rfl | rfl<;>rfl
   simp[go_sem,Qj,L1g.r,qe]
   rw[if_pos hd];rfl
  ·have hlt:k<l.length:=by omega
   have hq:l[k]?=some l[k]:=q9 hlt
   generalize l[k]=r at hq
   obtain⟨_,hq'⟩:=q8.1 hq
   have hs:Xi (l.take (k+1))=Jr (Xi (l.take k)) r:=by rw[List.take_add_one,hq];exact Qdy _ _
   have hlen:=Qio (l.take k)
   rw[qv]at hlen
   generalize Xi (l.take k)=out at *
   rcases Wv out with rfl | ⟨o,q,rfl⟩
   ·rw[Q09]at hs
    simp (disch:=omega) [go_sem,Qj,hlt,hq,hq',Rn.cs,Q3]
    exact⟨k+1,by omega,by omega,g+1,⟨⟨rfl,by rw[hs];rfl⟩,by omega⟩,rfl,by rw[hs];rfl⟩
   ·rw[Q0a]at hs
    have hol:o.length+1<=100000:=by simp at hlen;omega
    have hog:∀x:List V,(List.map Rn.cs o++[x])[o.length]?=some x:=λx=>by
     have:=qf (l₁:=List.map Rn.cs o) (l₂:=[x]) (i:=o.length) (by simp)
     rw[this];simp
    have hos:∀x y:List V,(List.map Rn.cs o++[x]).set o.length y=List.map Rn.cs o++[y]:=λx y=>by
     rw[ji _ _ (by simp)];simp
    have hot:List.take (o.length+1) (List.map Rn.cs o++[q.cs])=List.map Rn.cs o++[q.cs]:=qe (by simp)
    simp only[Rn.cs]at hot
    by_cases hle:r.a<=q.b
    ·rw[if_pos hle]at hs
     simp (disch:=omega) [go_sem,Qj,hlt,hq,hq',hle,hog,hos,hot,Rn.cs,Q3]
     have hmx:(if q.b<r.b then r.b else q.b)=max q.b r.b:=by split<;>omega
     exact⟨k+1,by omega,by omega,g,⟨⟨rfl,by rw[hs];simp⟩,by omega⟩,rfl,by rw[hs,hmx];simp[Rn.cs]⟩
    ·rw[if_neg hle]at hs
     simp (disch:=omega) [go_sem,Qj,hlt,hq,hq',hle,hog,hos,hot,Rn.cs,Q3]
     exact⟨⟨by omega,by omega⟩,k+1,by omega,by omega,g+1,⟨⟨rfl,by rw[hs];simp⟩,by omega⟩,rfl,by rw[hs];simp[Rn.cs]⟩
omit hm in
theorem Br (l:List Rn):∀x∈l,∀y∈x.cs,y.isD=true:=λx _ y hy=>by simp[Rn.cs]at hy;rcases hy with rfl | rfl<;>rfl
omit hm in
theorem Qan (l:List Rn) (n:Nat):∀x∈l,∀y∈x.cs,y.cl n=true:=λx hx y hy=>Kk n (Br l x hx y hy)
theorem Q7m {f ff fs fc fj:FuncId} (hf:Q9 P f (L16.c ff fs fc fj) L16.r L16.n) (hfit:Q9i P ff) (hs:Wn P fs 2) (hc:Qqh P fc) (hcal:Qq P fc=true) (hj:Qf8 P fj):Qpw P f:=by
 intro l hl hB
 have hfB:∀r∈Y0 l,-1048576<=r.a/\r.a<=1048576:=λr hr=>(hB r (qu.1 hr).1).1
 have hfl:(Y0 l).length<=l.length:=j8 _ _
 obtain⟨ys,hperm,hup,hcall⟩:=hs (λr:RnS=>r.1.ints) (λ_=>rfl) Q6o Qj7 fc hcal (λa b=>hc a.1 b.1 a.2 b.2) ((Y0 l).pmap Subtype.mk hfB) (by rw[List.length_pmap];omega)
 have hxs:((Y0 l).pmap Subtype.mk hfB).map Subtype.val=Y0 l:=by rw[List.map_pmap];simp
 have hp2:=hperm.map Subtype.val
 rw[hxs]at hp2
 have hfull:∀r∈ys.map Subtype.val,r.a<r.b:=λr hr=>by
  have:=(qu.1 (hp2.mem_iff.1 hr)).2
  simpa using this
 have hsort:(ys.map Subtype.val).Pairwise λr s:Rn=>r.a<=s.a:=by
  rw[jd]
  refine hup.imp λ{a b} h=>?_
  unfold ltC Q6o at h
  simp only[decide_eq_false_iff_not]at h
  omega
 obtain⟨j1,j2⟩:=Qn0 hfull hsort
 have hyl:(ys.map Subtype.val).length=(Y0 l).length:=hp2.length_eq
 have hjc:=hj (ys.map Subtype.val) (by omega)
 refine⟨Xi (ys.map Subtype.val),j1,λx=>?_,?_⟩
 ·rw[j2,<- Qnf l]
  unfold Qf
  constructor
  ·rintro⟨r,hr,h⟩;exact⟨r,hp2.mem_iff.1 hr,h⟩
  ·rintro⟨r,hr,h⟩;exact⟨r,hp2.mem_iff.2 hr,h⟩
 have hyy:ys.map (λx:RnS=>x.1.ints.map (V.i .i64))=(ys.map Subtype.val).map Rn.cs:=by rw[List.map_map];rfl
 have hxx:((Y0 l).pmap Subtype.mk hfB).map (λx:RnS=>x.1.ints.map (V.i .i64))=(Y0 l).map Rn.cs:=by
  conv=>rhs;rw[<- hxs]
  rw[List.map_map];rfl
 rw[hyy,hxx]at hcall
 rw[List.length_pmap]at hcall
 generalize ys.map Subtype.val=zs at *
 clear hup hperm
 refine PureC.is (Q8 hm hf (qh rfl) ?_) rfl
 unfold L16.c
 simp[go_sem,Qj]
 refine Qz [.t 4 2] (α:=Nat) (λk=>k<=l.length)
  (λk=>⟨[(4,.own 0 ((Y0 (l.take k)).length+1) 0 (Y0 (l.take k)).length),(7,Qj l),(8,.i .i64 l.length),(9,.i .i64 k)],[.arr ((Y0 (l.take k)).length+1) 2 ((Y0 (l.take k)).map Rn.cs)]⟩)
  (λk=>l.length-k) 0 (Nat.zero_le _) ?_ ?_
 ·simp[go_sem,Qj,Y0]
 ·intro k hk
  by_cases hkl:k=l.length
  ·subst hkl
   rw[qi]
   simp[go_sem,Qj]
   refine Qr (hcall _ 0 _ rfl) ?_
   simp[go_sem]
   refine Ya (vs:=[Qj zs]) ?_ hjc ?_
   ·have hd:=Br zs
    have ht:List.take (Y0 l).length (zs.map Rn.cs)=zs.map Rn.cs:=qe (by rw[List.length_map];omega)
    simp[go_sem,X5,frz,X6,Qj,hyl,ht]
    rw[if_pos hd];rfl
   ·simp[go_sem,Qj,L16.r]
  ·have hlt:k<l.length:=by omega
   have hq:l[k]?=some l[k]:=q9 hlt
   generalize l[k]=r at hq
   obtain⟨_,hq'⟩:=q8.1 hq
   have hrB:=hB r (qb hq)
   have hft:=hfit r hrB
   have hfs:Y0 (l.take (k+1))=Y0 (l.take k)++(if r.a<r.b then [r] else []):=by
    unfold Y0
    rw[List.take_add_one,hq]
    simp only[Option.toList_some,List.filter_append,List.filter_cons,List.filter_nil]
    split<;>simp_all
   have hfk:(Y0 (l.take k)).length<=k:=by
    have:=j8 (λr:Rn=>decide (r.a<r.b)) (l.take k)
    rw[qv]at this
    unfold Y0;omega
   have htk:List.take (Y0 (l.take k)).length ((Y0 (l.take k)).map Rn.cs)=(Y0 (l.take k)).map Rn.cs:=qe (by simp)
   have hcl:=Qan (Y0 (l.take k))
   by_cases hab:r.a<r.b
   ·rw[if_pos hab]at hfs
    simp (disch:=omega) [go_sem,Qj,hlt,hq,hq',Rn.cs,show ¬ r.b<=r.a by omega]
    refine Q5 hft ?_
    simp (disch:=omega) [go_sem,Qj,Rn.cs,htk,Q3]
    exact⟨⟨by omega,by omega⟩,k+1,by omega,by omega,⟨by rw[hfs];simp,by omega⟩,by rw[hfs];simp,by rw[hfs];simp[Rn.cs]⟩
   ·rw[if_neg hab,List.append_nil]at hfs
    simp (disch:=omega) [go_sem,Qj,hlt,hq,hq',Rn.cs,show r.b<=r.a by omega,Q3]
    exact⟨k+1,by omega,by omega,⟨by rw[hfs],by omega⟩,by rw[hfs],by rw[hfs]⟩
end
def L1k.c (L0g:FuncId):C :=(.seq (.reg [Ac 10 0]) (.seq (.reg [Am 14 1,Am 15 0,Aj .sub 16 14 15,Am 17 4,Au 18 (.bin .mul (.c (.i .i64 2)) (.t 17)),Ad 19 18 1,Am 20 2,Au 21 (.bin .mul (.c (.i .i64 2)) (.t 20)),Aj .sub 22 19 21,Aj .mul 23 16 22,Am 24 3,Am 25 2,Aj .sub 26 24 25,Au 27 (.bin .mul (.c (.i .i64 2)) (.t 26)),Au 28 (.call L0g [.t 23,.t 27]),Am 13 28,Ax1 29 0 13,Ax1 30 1 13,Am 11 29,Am 12 30]) (.seq (.reg [Am 31 0,Am 32 11,Aj .add 33 31 32,Am 10 33]) .ret)))
def L1k.r:List Rr:=[.tmp 10]
abbrev L1k.n:Nat:=34
def L1j.c (L2f L1k:FuncId):C :=(.seq (.reg [Au 3 (.box (.t 0)),Au 4 (.box (.t 1)),Au 6 (.alloc [(.i .i64 0),(.i .i64 0)]),Ab 7 false]) (.seq (.seq (.reg [Ag 8 3 3,Au 9 (.call L2f [.t 8]),Au 10 (.un .not (.t 9)),Am 11 10,Aw 12 11 (.ld (some 3) (.t 4)),Aw 13 11 (.call L2f [.t 12]),Aw 14 11 (.un .not (.t 13)),Ao 15 11 14,Am 16 15,Aw 17 16 (.fa 2 (.t 3)),Aw 18 16 (.ld none (.t 17)),Aw 19 16 (.mv (.t 2)),Aw 20 16 (.bin .gtr (.t 18) (.t 19)),Ao 21 16 20,Am 22 21,Aw 23 22 (.mv (.t 2)),Aw 24 22 (.fa 2 (.t 4)),Aw 25 22 (.ld none (.t 24)),Aw 26 22 (.bin .geq (.t 23) (.t 25)),Ao 27 22 26]) (.ite (.t 27) (.seq
 (.reg [Au 28 (.build [(.i .i64 0),(.i .i64 0)] []),As 2 6 28,Ab 7 false]) .ret) .skip)) (.seq (.drw [Af 29 0 3,Al 30 29,Af 31 0 4,Al 32 31,Af 33 2 3,Al 34 33,Af 35 2 4,Al 36 35,Am 37 2,Au 38 (.call L1k [.t 30,.t 32,.t 34,.t 36,.t 37]),Af 39 1 3,Al 40 39,Af 41 1 4,Al 42 41,Af 43 2 3,Al 44 43,Af 45 2 4,Al 46 45,Am 47 2,Au 48 (.call L1k [.t 40,.t 42,.t 44,.t 46,.t 47]),Au 49 (.build [(.i .i64 0),(.i .i64 0)] [(0,1,(.t 38)),(1,1,(.t 48))]),As 2 6 49,Ab 7 true] [[],[],[],[],[],[],[],[],[],[],[9],[9],[9],[9],[9],[9],[9],[9],[],[],[],[],[]]) .ret)))
def L1j.r:List Rr:=[.cell 6 (some 2),.tmp 7]
abbrev L1j.n:Nat:=50
def L1l.c (L1j:FuncId):C :=(.seq (.reg [Au 2 (.box (.t 0)),Au 4 (.alloc [(.i .i64 0),(.i .i64 0),(.i .i64 0),(.i .i64 0)]),Ab 5 false]) (.seq (.reg [Au 6 (.alloc [(.i .i64 0),(.i .i64 0),(.i .i64 0),(.i .i64 0)])]) (.seq (.reg [Ab 7 false]) (.seq (.seq (.reg [Ag 15 9 2,Ac 16 0]) (.blk 0 (.loop (.seq (.reg [Ak .lss 17 16 3]) (.seq (.ite (.t 17) .skip (.exit 0)) (.seq (.blk 1 (.seq (.reg [Am 18 16,Au 19 (.ix 3 3 (some 3) (.t 15) (.t 16)),Au 9 (.alloc [(.i .i64 0),(.i .i64 0),(.i .i64 0)]),Am 8 18,As 3 9 19]) (.seq (.reg [Am 20 8,Ad 21 20 1,Ak .rem 22 21 3,Au 23 (.iaa 3 3 (.t 2) (.t 22)),Ag 24 3 23,
 Au 10 (.alloc [(.i .i64 0),(.i .i64 0),(.i .i64 0)]),As 3 10 24]) (.seq (.seq (.reg [Ag 26 3 9,Ag 27 3 10,Am 28 1,Au 29 (.call L1j [.t 26,.t 27,.t 28]),Am 25 29,Ax1 30 0 25,Ax1 31 1 25,Au 11 (.alloc [(.i .i64 0),(.i .i64 0)]),As 2 11 30,Am 12 31]) (.seq (.reg [Am 32 12]) (.ite (.t 32) (.reg [Ag 33 2 11,Af 34 2 6,As 2 34 33,Ab 7 true]) .skip))) (.seq (.reg [Ag 36 3 10,Ag 37 3 9,Am 38 1,Au 39 (.call L1j [.t 36,.t 37,.t 38]),Am 35 39,Ax1 40 0 35,Ax1 41 1 35,Au 13 (.alloc [(.i .i64 0),(.i .i64 0)]),As 2 13 40,Am 14 41]) (.seq (.reg [Am 42 14]) (.ite (.t 42) (.reg [Ag 43 2 13,Af 44 0 6,As 2 44 43])
 .skip))))))) (.reg [Ad 45 16 1,Am 16 45]))))))) (.seq (.reg [Ag 46 4 6,Am 47 7,As 4 4 46,Am 5 47]) .ret)))))
def L1l.r:List Rr:=[.cell 4 (some 4),.tmp 5]
abbrev L1l.n:Nat:=48
def L1i.c (L0c L0d L1l:FuncId):C :=(.seq (.reg [Au 2 (.box (.t 0)),Az 4,Ac 5 0]) (.seq (.seq (.reg [Ag 15 2 2,Au 16 (.call L0c [.t 15]),Am 6 16]) (.seq (.reg [Am 17 6,Ak .neq 18 17 0]) (.ite (.t 18) (.seq (.reg [Am 19 6,Az 4,Am 5 19]) .ret) .skip))) (.seq (.seq (.reg [Am 20 1,Ak .lss 21 20 (-65536),Am 22 21,Aw 23 22 (.mv (.t 1)),Aw 24 22 (.bin .gtr (.t 23) (.c (.i .i64 65536))),Ao 25 22 24]) (.ite (.t 25) (.seq (.reg [Az 4,Ac 5 8]) .ret) .skip)) (.seq (.reg [Az 7]) (.seq (.seq (.reg [Af 26 1 2,Al 27 26,An 28 0 27,Ac 29 0]) (.blk 0 (.loop (.seq (.reg [Aj .lss 30 29 28]) (.seq (.ite (.t 30) .skip
 (.exit 0)) (.seq (.blk 1 (.seq (.reg [Am 31 29,Am 8 31]) (.seq (.reg [Ag 33 2 2,Am 34 8,Au 35 (.call L0d [.t 33,.t 34]),Am 32 35,Ax1 36 0 32,Ax1 37 1 32,Ax1 38 2 32,Ax1 39 3 32,Au 9 (.alloc [(.i .i64 0),(.i .i64 0),(.i .i64 0)]),Au 10 (.alloc [(.i .i64 0),(.i .i64 0),(.i .i64 0)]),Au 11 (.alloc [(.i .i64 0),(.i .i64 0),(.i .i64 0)]),As 3 9 36,As 3 10 37,As 3 11 38,Am 12 39]) (.seq (.reg [Ag 41 3 9,Ag 42 3 10,Ag 43 3 11,Au 44 (.build [(.i .i64 0),(.i .i64 0),(.i .i64 0),(.i .i64 0),(.i .i64 0),(.i .i64 0),(.i .i64 0),(.i .i64 0),(.i .i64 0)] [(0,3,(.t 41)),(3,3,(.t 42)),(6,3,(.t 43))]),Am 45 1,
 Au 46 (.call L1l [.t 44,.t 45]),Am 40 46,Ax1 47 0 40,Ax1 48 1 40,Au 13 (.alloc [(.i .i64 0),(.i .i64 0),(.i .i64 0),(.i .i64 0)]),As 4 13 47,Am 14 48]) (.seq (.reg [Am 49 14]) (.ite (.t 49) (.reg [Am 50 7,Ag 51 4 13,Au 52 (.bsi 4 1 [(.i .i64 0),(.i .i64 0),(.i .i64 0),(.i .i64 0)] [(0,(.t 51))]),Au 53 (.app 4 32 (.t 50) (.t 52)),Am 7 53]) .skip)))))) (.reg [Ad 54 29 1,Am 29 54]))))))) (.seq (.reg [Am 55 7,Am 4 55,Ac 5 0]) .ret))))))
def L1i.r:List Rr:=[.tmp 4,.tmp 5]
abbrev L1i.n:Nat:=56
theorem Qdo {x y A B:Int} (h1:-A<=x) (h2:x<=A) (h3:-B<=y) (h4:y<=B):-(A*B)<=x*y/\x*y<=A*B:=by
 have hA:0<=A:=by omega
 have hB:0<=B:=by omega
 have h5:=Nat.mul_le_mul (show x.natAbs<=A.natAbs by omega) (show y.natAbs<=B.natAbs by omega)
 rw[<- Int.natAbs_mul,<- Int.natAbs_mul]at h5
 have h6:0<=A*B:=Int.mul_nonneg hA hB
 omega
def Q5r (c0 c1 z0 z1 z:Int):Int:=c0+rnd ((c1-c0)*(2*z+1-2*z0)) (2*(z1-z0))
def Qqf (P:Program) (f:FuncId):Prop:=∀c0 c1 z0 z1 z:Int,-65536<=c0->c0<=65536->-65536<=c1->c1<=65536->-65536<=z0->z1<=65536->z0<=z->z<z1 ->
 CallIs P f [.i .i64 c0,.i .i64 c1,.i .i64 z0,.i .i64 z1,.i .i64 z] (.i .i64 (Q5r c0 c1 z0 z1 z))
def point (a b:V3) (z:Int):Option (Int × Int) :=
 if a.valid=true/\b.valid=true/\a.z<=z/\z<b.z then some (Q5r a.x b.x a.z b.z z,Q5r a.y b.y a.z b.z z) else none
def ptR:Option (Int × Int)->V
 | none=>.t [.a [.i .i64 0,.i .i64 0],.b false]
 | some p=>.t [.a [.i .i64 p.1,.i .i64 p.2],.b true]
def Qf5 (P:Program) (f:FuncId):Prop:=∀(a b:V3) (z:Int),CallIs P f [a.enc,b.enc,.i .i64 z] (ptR (point a b z))
theorem crs_rnd {a b:Int} (h1:-34359738368<=a) (h2:a<=34359738368) (h3:0<b):-34359738369<=rnd a b/\rnd a b<=34359738369:=by
 unfold rnd
 have h4:=Int.mul_ediv_add_emod (2*a+b) (2*b)
 have h5:=Int.emod_nonneg (2*a+b) (show 2*b≠0 by omega)
 have h6:=Int.emod_lt_of_pos (2*a+b) (show 0<2*b by omega)
 generalize (2*a+b) / (2*b)=q at h4 ⊢
 generalize (2*a+b) % (2*b)=r at *
 have h7:2*b*q=2*(b*q):=Int.mul_assoc 2 b q
 constructor
 ·refine j7 λhh=>?_
  have:=jf (show q<=-34359738370 by omega) (show 0<=b by omega)
  omega
 ·refine j7 λhh=>?_
  have:=jf (show 34359738370<=q by omega) (show 0<=b by omega)
  omega
section
variable {P:Program} (hm:P.follows .mixedOrders=true)
include hm
theorem Bm {f fr:FuncId} (hf:Q9 P f (L1k.c fr) L1k.r L1k.n) (hr:Qf3 P fr):Qqf P f:=by
 intro c0 c1 z0 z1 z h1 h2 h3 h4 h5 h6 h7 h8
 refine PureC.is (Q8 hm hf (qh rfl) ?_) rfl
 unfold L1k.c
 have hp:=Qdo (x:=c1-c0) (y:=2*z+1-2*z0) (A:=131072) (B:=262144) (by omega) (by omega) (by omega) (by omega)
 have hb:=crs_rnd (a:=(c1-c0)*(2*z+1-2*z0)) (b:=2*(z1-z0)) (by omega) (by omega) (by omega)
 simp (disch:=omega) [go_sem,Q3]
 refine Q5 (hr _ _ (by omega) (by omega) (by omega) (by omega)) ?_
 simp (disch:=omega) [go_sem,Q3,L1k.r,Q5r]
theorem Bn {f fv fc:FuncId} (hf:Q9 P f (L1j.c fv fc) L1j.r L1j.n) (hv:Ew P fv) (hc:Qqf P fc):Qf5 P f:=by
 intro a b z
 refine PureC.is (Q8 hm hf (qh rfl) ?_) rfl
 unfold L1j.c
 simp[go_sem,V3.enc,vcs]
 refine Q5 (hv a) ?_
 simp +contextual -implicitDefEqProofs [go_sem]
 refine Gq_is' (r:=.b b.valid) (λhh=>?_) ?_
 ·have hh':a.valid=true:=by simpa using hh
  simp[go_sem,hh']
  exact hv b
 by_cases h:a.valid=true/\b.valid=true/\a.z<=z/\z<b.z
 ·obtain⟨h1,h2,h3,h4⟩:=h
  have g1:=V3.valid_iff.1 h1
  have g2:=V3.valid_iff.1 h2
  simp[go_sem,h1,h2,show ¬ z<a.z by omega,show ¬ b.z<=z by omega]
  refine Qo (hc _ _ _ _ _ (by omega) (by omega) (by omega) (by omega) (by omega) (by omega) (by omega) (by omega)) ?_
  simp[go_sem]
  refine Qo (hc _ _ _ _ _ (by omega) (by omega) (by omega) (by omega) (by omega) (by omega) (by omega) (by omega)) ?_
  simp[go_sem,L1j.r,point,h1,h2,h3,h4,ptR]
 ·have hn:point a b z=none:=by simp only[point,h,if_false]
  rw[hn]
  cases h1:a.valid
  ·simp[go_sem,L1j.r,ptR]
  ·cases h2:b.valid
   ·simp[go_sem,L1j.r,ptR]
   ·simp +contextual -implicitDefEqProofs [go_sem,L1j.r,ptR]
    exact λh3 h4=>absurd ⟨h1,h2,h3,h4⟩ h
end
structure Sg4 where
 a:Int × Int
 b:Int × Int
 found:Bool
def Sg4.init:Sg4:=⟨(0,0),(0,0),false⟩
def Sg4.step (z:Int) (s:Sg4) (u v:V3):Sg4 :=
 let s1:Sg4:=match point u v z with | some p=>⟨s.a,p,true⟩ | none=>s
 match point v u z with | some p=>⟨p,s1.b,s1.found⟩ | none=>s1
def Sg4.cs (s:Sg4):List V:=[.i .i64 s.a.1,.i .i64 s.a.2,.i .i64 s.b.1,.i .i64 s.b.2]
def Jh (z:Int) (a b c:V3):Nat->Sg4
 | 0=>.init
 | 1=>Sg4.init.step z a b
 | 2=>(Sg4.init.step z a b).step z b c
 | _=>((Sg4.init.step z a b).step z b c).step z c a
def Q5q (z:Int) (a b c:V3):Sg4:=Jh z a b c 3
def CutC (P:Program) (f:FuncId):Prop:=∀(a b c:V3) (z:Int),CallIs P f [.a (a.cs++b.cs++c.cs),.i .i64 z] (.t [.a (Q5q z a b c).cs,.b (Q5q z a b c).found])
section
variable {P:Program} (hm:P.follows .mixedOrders=true)
include hm
theorem Q2z {f fp:FuncId} (hf:Q9 P f (L1l.c fp) L1l.r L1l.n) (hp:Qf5 P fp):CutC P f:=by
 intro a b c z
 refine PureC.is (Q8 hm hf (qh rfl) ?_) rfl
 unfold L1l.c
 simp[go_sem,vcs]
 refine Qh (α:=Nat) (λk=>k<=3)
  (λk=>⟨[(1,.i .i64 z),(2,.p 0 1 0 0),(4,.p 1 1 0 0),(6,.p 2 1 0 0),(7,.b (Jh z a b c k).found),(15,.a (a.cs++b.cs++c.cs)),(16,.i .i64 k)],
   [.arr 1 9 [a.cs++b.cs++c.cs],.arr 1 4 [[.i .i64 0,.i .i64 0,.i .i64 0,.i .i64 0]],.arr 1 4 [(Jh z a b c k).cs]]⟩)
  (λk=>3-k) 0 (Nat.zero_le _) ?_ ?_
 ·simp[go_sem,vcs,Jh,Sg4.init,Sg4.cs]
 ·intro k hk
  obtain rfl | rfl | rfl | rfl:k=0∨k=1∨k=2∨k=3:=by omega
  ·have hs:Jh z a b c 1=(Jh z a b c 0).step z a b:=Rfl rfl
   generalize Jh z a b c 0=s at hs ⊢
   simp (disch:=omega) [go_sem,vcs,Sg4.cs,Q3]
   refine Q5 (hp a b z) ?_
   cases h1:point a b z<;>simp[go_sem,ptR]<;>refine Q5 (hp b a z) ?_<;>cases h2:point b a z<;>simp[go_sem,ptR] <;>
    simp (disch:=omega) [go_sem,Q3]<;>refine⟨1,by omega,by omega,?_⟩<;>rw[hs]<;>simp[go_sem,vcs,Sg4.cs,Sg4.step,h1,h2]
  ·have hs:Jh z a b c 2=(Jh z a b c 1).step z b c:=Rfl rfl
   generalize Jh z a b c 1=s at hs ⊢
   simp (disch:=omega) [go_sem,vcs,Sg4.cs,Q3]
   refine Q5 (hp b c z) ?_
   cases h1:point b c z<;>simp[go_sem,ptR]<;>refine Q5 (hp c b z) ?_<;>cases h2:point c b z<;>simp[go_sem,ptR] <;>
    simp (disch:=omega) [go_sem,Q3]<;>refine⟨2,by omega,by omega,?_⟩<;>rw[hs]<;>simp[go_sem,vcs,Sg4.cs,Sg4.step,h1,h2]
  ·have hs:Jh z a b c 3=(Jh z a b c 2).step z c a:=Rfl rfl
   generalize Jh z a b c 2=s at hs ⊢
   simp (disch:=omega) [go_sem,vcs,Sg4.cs,Q3]
   refine Q5 (hp c a z) ?_
   cases h1:point c a z<;>simp[go_sem,ptR]<;>refine Q5 (hp a c z) ?_<;>cases h2:point a c z<;>simp[go_sem,ptR] <;>
    simp (disch:=omega) [go_sem,Q3]<;>refine⟨3,by omega,by omega,?_⟩<;>rw[hs]<;>simp[go_sem,vcs,Sg4.cs,Sg4.step,h1,h2]
  ·simp[go_sem,vcs,Sg4.cs,L1l.r,Q5q]
end
instance:Inhabited V3:=⟨⟨0,0,0⟩⟩
def Mesh.v (m:Mesh) (i:Int):V3:=m.verts[i.toNat]?.getD ⟨0,0,0⟩
theorem Mesh.v_get {m:Mesh} {i:Int} (h1:i<m.verts.length) (h:i.toNat<m.verts.length):m.verts[i.toNat]=m.v i:=by simp[Mesh.v,h]
def zV3:V:=.a [.i .i64 0,.i .i64 0,.i .i64 0]
def Mesh.corners (m:Mesh) (i:Int):V :=
 if 0<=i/\i<m.tris.length/\m.check=0 then match m.tris[i.toNat]? with
  | some t=>.t [(m.v t.a).enc,(m.v t.b).enc,(m.v t.c).enc,.b true]
  | none=>.any
 else .t [zV3,zV3,zV3,.b false]
def B9 (P:Program) (f:FuncId):Prop:=∀(m:Mesh) (i:Int),CallIs P f [m.enc,.i .i64 i] (m.corners i)
def apS (t:Nat) (e:List (Nat × V)) (pre:List O) (d sz:Nat) (els:List (List V)):St :=
 if els=[] then ⟨(t,.nil)::e,pre⟩ else ⟨(t,.own (pre.length+d) els.length 0 els.length)::e,pre++List.replicate d .dead++[.arr els.length sz els]⟩
section
variable {P:Program} (hm:P.follows .mixedOrders=true)
include hm
theorem Q23 {f fc:FuncId} (hf:Q9 P f (L0d.c fc) L0d.r L0d.n) (hc:Jo P fc):B9 P f:=by
 intro m i
 refine PureC.is (Q8 hm hf (qh rfl) ?_) rfl
 unfold L0d.c
 by_cases h:0<=i/\i<m.tris.length
 ·obtain⟨h0,h1⟩:=h
  have hlt:i.toNat<m.tris.length:=by omega
  simp[go_sem,Mesh.enc,Mesh.cs,vsV,tsV,show ¬ i<0 by omega,show ¬ (m.tris.length:Int)<=i by omega]
  refine Q5 (hc m) ?_
  by_cases hz:m.check=0
  ·obtain⟨z1,z2,z3,z4⟩:=Mesh.check_zero.1 hz
   obtain⟨t,hp⟩:∃t,m.tris[i.toNat]?=some t:=⟨_,q9 hlt⟩
   obtain⟨hlt',hp'⟩:=q8.1 hp
   obtain⟨t1,t2,t3,t4,t5,t6⟩:=T3.ok_iff.1 (Q2m z4 hp)
   have ga:=Mesh.v_get t2 (by omega)
   have gb:=Mesh.v_get t4 (by omega)
   have gc:=Mesh.v_get t6 (by omega)
   have hr:m.corners i=.t [(m.v t.a).enc,(m.v t.b).enc,(m.v t.c).enc,.b true]:=by
    simp only[Mesh.corners,h0,h1,hz,and_self,if_true,hp]
   rw[hr]
   simp[go_sem,hz,h0,h1,hlt,hp',tcs,vcs,t1,t2,t3,t4,t5,t6,show t.a.toNat<m.verts.length by omega,show t.b.toNat<m.verts.length by omega,show t.c.toNat<m.verts.length by omega,ga,gb,gc,L0d.r,V3.enc]
  ·simp[go_sem,hz,L0d.r,Mesh.corners,zV3]
 ·have:i<0∨(m.tris.length:Int)<=i:=by omega
  have hr:m.corners i=.t [zV3,zV3,zV3,.b false]:=by
   unfold Mesh.corners;rw[if_neg (by omega)]
  rw[hr]
  by_cases h0:i<0
  ·simp[go_sem,Mesh.enc,Mesh.cs,vsV,tsV,h0,L0d.r,zV3]
  ·simp[go_sem,Mesh.enc,Mesh.cs,vsV,tsV,h0,show (m.tris.length:Int)<=i by omega,L0d.r,zV3]
end
def Jt (m:Mesh) (z:Int) (t:T3):Sg4:=Q5q z (m.v t.a) (m.v t.b) (m.v t.c)
def Zv (m:Mesh) (z:Int) (ts:List T3):List Sg4:=(ts.map (Jt m z)).filter (·.found)
def Yq (m:Mesh) (z:Int) (ts:List T3):List (List V):=(Zv m z ts).map Sg4.cs
def Zr (m:Mesh) (z:Int):List Sg4 × Int:=if m.check=0 then (if z < -65536∨65536<z then ([],8) else (Zv m z m.tris,0)) else ([],m.check)
def secV (r:List Sg4 × Int):V:=.t [apV 4 (r.1.map Sg4.cs),.i .i64 r.2]
def secL (r:List Sg4 × Int):V:=.t [.l 4 (r.1.map Sg4.cs),.i .i64 r.2]
theorem secV_le (r:List Sg4 × Int):Le (secV r) (secL r):=.inr ⟨_,_,rfl,rfl,.inl (apV_le 4 _),Le1.refl _,trivial⟩
def SecC (P:Program) (f:FuncId):Prop:=∀(m:Mesh) (z:Int),CallIs P f [m.enc,.i .i64 z] (secL (Zr m z))
theorem Qaj {m:Mesh} {z:Int} {ts:List T3} {k:Nat} {t:T3} (h:ts[k]?=some t) :
  Yq m z (ts.take (k+1))=Yq m z (ts.take k)++(if (Jt m z t).found=true then [(Jt m z t).cs] else []):=by
 simp only[Yq,Zv,List.take_add_one,h,Option.toList_some,qw,List.map_cons,List.map_nil,List.filter_append,List.filter_cons,List.filter_nil]
 split<;>simp
theorem Qd5 (m:Mesh) (z:Int) (ts:List T3):(Yq m z ts).length<=ts.length:=by
 simp only[Yq,Zv,List.length_map]
 exact Nat.le_trans (j8 _ _) (by simp)
theorem Qd6 (m:Mesh) (z:Int) (ts:List T3):(∀x∈Yq m z ts,∀y∈x,y.isD=true)=True:=by
 simp[Yq,Sg4.cs,V.isD]
theorem Qhq (m:Mesh) (z:Int) (ts:List T3) (n:Nat):(∀x∈Yq m z ts,∀y∈x,y.cl n=true)=True:=by
 simp[Yq,Sg4.cs,V.cl,V.cl1,V.cl0]
section
variable {P:Program} (hm:P.follows .mixedOrders=true)
include hm
theorem Q30 {f fc fk ft:FuncId} (hf:Q9 P f (L1i.c fc fk ft) L1i.r L1i.n) (hc:Jo P fc) (hk:B9 P fk) (ht:CutC P ft):SecC P f:=by
 intro m z
 refine CallIs.res ?_ (secV_le _)
 refine PureC.is (Q8 hm hf (qh rfl) ?_) rfl
 unfold L1i.c
 simp[go_sem,Mesh.enc,Mesh.cs,vsV,tsV]
 refine Q5 (hc m) ?_
 by_cases hz:m.check=0
 ·obtain⟨z1,z2,z3,z4⟩:=Mesh.check_zero.1 hz
  by_cases hr:z < -65536∨65536<z
  ·have hres:Zr m z=([],8):=by simp only[Zr,hz,hr,if_true]
   rw[hres]
   simp +contextual -implicitDefEqProofs [go_sem,hz,L1i.r,secV,apV]
   intro h1 h2
   omega
  ·have hres:secV (Zr m z)=.t [apV 4 (Yq m z m.tris),.i .i64 0]:=by simp only[Zr,hz,hr,if_true,if_false];rfl
   rw[hres]
   simp[go_sem,hz,show ¬ z < -65536 by omega,show ¬ 65536<z by omega]
   refine Qh (α:=Nat) (λk=>k<=m.tris.length)
    (λk=>apS 7 [(1,.i .i64 z),(2,.p 0 1 0 0),(28,.i .i64 m.tris.length),(29,.i .i64 k)] [.arr 1 2 [m.cs]] 4 4 (Yq m z (m.tris.take k)))
    (λk=>m.tris.length-k) 0 (Nat.zero_le _) ?_ ?_
   ·simp[go_sem,apS,Yq,Zv,Mesh.cs,vsV,tsV]
   ·intro k hk'
    have hlen:=Qd5 m z (m.tris.take k)
    have hlen2:(m.tris.take k).length<=k:=by simp;omega
    cases hp:m.tris[k]? with
    | none =>
      have:¬ k<m.tris.length:=by simpa using hp
      obtain rfl:k=m.tris.length:=by omega
      rw[qi]
      have hd:=of_eq_true (Qd6 m z m.tris)
      generalize hels:Yq m z m.tris=els at *
      by_cases he:els=[]
      ·simp[go_sem,apS,he,L1i.r,apV]
      ·simp[go_sem,apS,he,L1i.r,apV,qe]
       rw[if_pos hd]
       rfl
    | some t =>
      obtain⟨hlt,hp'⟩:=q8.1 hp
      have hsucc:=Qaj (m:=m) (z:=z) hp
      have hcor:m.corners k=.t [(m.v t.a).enc,(m.v t.b).enc,(m.v t.c).enc,.b true]:=by
       simp only[Mesh.corners,hz,Int.toNat_natCast,hp,show (0:Int)<=k by omega,show (k:Int)<m.tris.length by omega,and_self,if_true]
      have hcut:CallIs P ft [.a ((m.v t.a).cs++(m.v t.b).cs++(m.v t.c).cs),.i .i64 z] (.t [.a (Jt m z t).cs,.b (Jt m z t).found]):=ht _ _ _ z
      have hcl:=of_eq_true (Qhq m z (m.tris.take k) 6)
      generalize hels:Yq m z (m.tris.take k)=els at *
      by_cases he:els=[]
      ·subst he
       simp[go_sem,apS,hlt,Mesh.cs,vsV,tsV]
       refine Q5 (hk m k) ?_
       rw[hcor]
       simp[go_sem,V3.enc,vcs]
       simp only[vcs,List.cons_append,List.nil_append]at hcut
       refine Q5 hcut ?_
       cases hfo:(Jt m z t).found
       ·simp[go_sem,Sg4.cs]
        simp (disch:=omega) [go_sem,Q3]
        refine⟨k+1,by omega,by omega,?_⟩
        rw[hsucc]
        simp[go_sem,hfo,Mesh.cs,vsV,tsV]
       ·simp[go_sem,Sg4.cs]
        simp (disch:=omega) [go_sem,Q3]
        refine⟨k+1,by omega,by omega,?_⟩
        rw[hsucc]
        simp[go_sem,hfo,Mesh.cs,vsV,tsV,Sg4.cs]
      ·simp[go_sem,apS,hlt,Mesh.cs,vsV,tsV,he]
       refine Q5 (hk m k) ?_
       rw[hcor]
       simp[go_sem,V3.enc,vcs]
       simp only[vcs,List.cons_append,List.nil_append]at hcut
       refine Q5 hcut ?_
       cases hfo:(Jt m z t).found
       ·simp[go_sem,Sg4.cs]
        simp (disch:=omega) [go_sem,Q3]
        refine⟨k+1,by omega,by omega,?_⟩
        rw[hsucc]
        simp[go_sem,hfo,Mesh.cs,vsV,tsV,he]
        exact hcl
       ·simp[go_sem,Sg4.cs]
        simp (disch:=omega) [go_sem,Q3]
        refine⟨⟨by omega,by omega⟩,k+1,by omega,by omega,?_⟩
        rw[hsucc]
        simp[go_sem,hfo,Mesh.cs,vsV,tsV,he,Sg4.cs]
        rintro el (he | rfl) x hx
        ·exact hcl el he x hx
        ·simp at hx;rcases hx with rfl | rfl | rfl | rfl<;>rfl
 ·have hres:Zr m z=([],m.check):=by simp only[Zr,hz,if_false]
  rw[hres]
  simp[go_sem,hz,L1i.r,secV,apV]
end
end Go.Abs
