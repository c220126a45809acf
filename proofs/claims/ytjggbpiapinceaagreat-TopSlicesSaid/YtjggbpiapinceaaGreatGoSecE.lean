/- Part of the library on which the proof stands: an abstract machine, its values and its soundness against the model; or what functions of the program do to such values. -/
import Derived.Test.YtjggbpiapinceaaGreatAbsSS
import Derived.Test.YtjggbpiapinceaaGreatGoStB
import Derived.Test.YtjggbpiapinceaaGreatGoRw
import Derived.Test.YtjggbpiapinceaaGreatGoRevC
set_option linter.unusedVariables false
set_option linter.unusedSimpArgs false
set_option maxHeartbeats 8000000
set_option maxRecDepth 20000
namespace Go.Abs
theorem Q9 (h l:List O) (k:Nat):(h++l)[h.length+k]?=l[k]?:=by
 rw[qf (by omega)];congr 1;omega
theorem Qb (h l:List O):(h++l)[h.length]?=l[0]?:=Q9 h l 0
theorem Qk (h l:List O) (k:Nat) (o:O):(h++l).set (h.length+k) o=h++l.set k o:=by
 rw[jl _ _ (by omega)];congr 2;omega
theorem Ql (h l:List O) (o:O):(h++l).set h.length o=h++l.set 0 o:=Qk h l 0 o
theorem Qs {n:Nat} {a b:List O}:∀{h:List O},(∀o∈h,o.cl n)->WeakH n a b->WeakH n (h++a) (h++b)
 | [],_,hw=>hw
 | o::h,hc,hw=>⟨.inr ⟨rfl,hc o (by simp)⟩,Qs (λo' ho=>hc o' (by simp[ho])) hw⟩
section
variable {J:Nat->Prop} {m:List Ent} {w:World}
theorem Q42 {id:Nat} {e:Ent} (h:m[id]?=some e):id<m.length:=(q8.1 h).1
theorem Qt7 {x:V} {c:Value} (h:RL J m w x c):x.cl0 m.length=true:=by
 cases x<;>simp only[V.cl0]<;>simp only[RL]at h
 case own id g off len=>obtain⟨_,e,he,_⟩:=h;simpa using Q42 he
 case p id g el j=>obtain⟨_,e,he,_⟩:=h;simpa using Q42 he
 case mp id=>obtain⟨_,e,he,_⟩:=h;simpa using Q42 he
theorem Qt9 {x:V} {c:Value} (h:RC J m w x c):x.cl1 m.length=true:=by
 cases x
 case f fn caps =>
  obtain⟨cs,_,hp⟩:=h
  simp only[V.cl1,qj]
  intro x hx
  obtain⟨i,hi⟩:=qr hx
  have hlt:=(q8.1 hi).1
  have hl:=hp.1
  exact Qt7 (hp.2 i x cs.toList[i] hi (q9 (by omega)))
 case a cs=>exact(show RL J m w (.a cs) c from h).elim
 case t vs=>exact(show RL J m w (.t vs) c from h).elim
 all_goals
  simp only[RC]at h
  simp only[V.cl1]
  exact Qt7 h
theorem RC_cl {x:V} {c:Value} (h:RC J m w x c):x.cl m.length=true:=by
 cases x
 case a cs=>exact(show RL J m w (.a cs) c from h).elim
 case t vs=>exact(show RL J m w (.t vs) c from h).elim
 all_goals
  simp only[V.cl]
  exact Qt9 h
theorem Qju {x:V} {c:Value} (h:RA J m w x c):x.cl m.length=true:=by
 cases x
 case a cs =>
  obtain⟨arr,_,hp⟩:=h
  simp only[V.cl,qj]
  intro x hx
  obtain⟨i,hi⟩:=qr hx
  have hlt:=(q8.1 hi).1
  have hl:=hp.1
  exact Qt9 (hp.2 i x arr.toList[i] hi (q9 (by omega)))
 case t vs=>exact(show RC J m w (.t vs) c from h).elim
 case any=>rfl
 all_goals
  simp only[RA]at h
  exact RC_cl h
theorem Qno {h:List O} (hr:RS J h m w):∀o∈h,o.cl h.length:=by
 intro o ho
 obtain⟨id,hid⟩:=qr ho
 have hlt:=(q8.1 hid).1
 have hl:=hr.len
 have hO:=hr.obj id m[id] o (q9 (by omega)) hid
 rw[<- hl]
 cases o with
 | dead=>trivial
 | arr g sz els =>
   obtain⟨_,_,_,hb⟩:=hO
   intro el hel x hx
   obtain⟨i,hi⟩:=qr hel
   obtain⟨j,hj⟩:=qr hx
   split at hb
   ·obtain⟨rfl,_⟩:=hb;simp at hi
   ·obtain⟨_,_,c,ty,fz,_,_,_,hc⟩:=hb
    obtain⟨cv,_,hcv⟩:=hc i el j x hi hj
    exact RC_cl hcv
 | mp es =>
   obtain⟨_,B,_,ms,_,_,hc⟩:=hO
   intro e he
   obtain⟨i,hi⟩:=qr he
   obtain⟨en,_,_,h1,h2⟩:=hc i e.1 e.2 hi
   exact⟨Qju h1,Qju h2⟩
 | md es =>
   obtain⟨_,B,_,ms,c,_,_,hc⟩:=hO
   intro e he
   obtain⟨i,hi⟩:=qr he
   obtain⟨en,_,h1,h2⟩:=hc i e.1 e.2 hi
   exact⟨Qju h1,Qju h2⟩
 | it mid since seen =>
   obtain⟨_,_,_,B,_,mb,_,hm⟩:=hO
   intro i hi
   subst hi
   obtain⟨e',he',_⟩:=hm
   exact Q42 he'
end
theorem Qet {x:V} {n k:Nat} (hnk:n<=k) (h:x.cl0 n=true):x.cl0 k=true:=by
 cases x<;>simp only[V.cl0,decide_eq_true_eq]at h ⊢<;>omega
theorem Qes {x:V} {n k:Nat} (hnk:n<=k) (h:x.cl1 n=true):x.cl1 k=true:=by
 cases x
 case f fn caps=>simp only[V.cl1,qj]at h ⊢;exact λy hy=>Qet hnk (h y hy)
 all_goals
  simp only[V.cl1]at h ⊢
  exact Qet hnk h
theorem Q0w {x:V} {n k:Nat} (hnk:n<=k) (h:x.cl n=true):x.cl k=true:=by
 cases x
 case a cs=>simp only[V.cl,qj]at h ⊢;exact λy hy=>Qes hnk (h y hy)
 case t=>simp[V.cl]at h
 all_goals
  simp only[V.cl]at h ⊢
  exact Qes hnk h
theorem Qtg {o:O} {n k:Nat} (hnk:n<=k) (h:o.cl n):o.cl k:=by
 cases o with
 | dead=>trivial
 | arr g sz els=>exact λel hel x hx=>Q0w hnk (h el hel x hx)
 | mp es=>exact λe he=>⟨Q0w hnk (h e he).1,Q0w hnk (h e he).2⟩
 | md es=>exact λe he=>⟨Q0w hnk (h e he).1,Q0w hnk (h e he).2⟩
 | it mid since seen=>exact λi hi=>Nat.lt_of_lt_of_le (h i hi) hnk
theorem Yb {P:Program} {f:FuncId} {vs:List V} {h:List O} {R:V->List O->Prop} (hc:(∀n,h.length<=n->∀o∈h,o.cl n)->ACall P f vs h R):ACall P f vs h R:=by
 intro J m w cargs hr hp
 exact hc (λn hn o ho=>Qtg hn (Qno hr o ho)) J m w cargs hr hp
theorem Yh {P:Program} {f:FuncId} {vs:List V} {h h0:List O} {r0:V} {k:V->List O->Prop} (hc:ACall P f vs h (λr h'=>r=r0/\h'=h0)) (hk:k r0 h0):ACall P f vs h k :=
 hc.mono λr h' hh=>by rw[hh.1,hh.2];exact hk
def Rn.ints (r:Rn):List Int:=[r.a,r.b]
def Rn.cs (r:Rn):List V:=[.i .i64 r.a,.i .i64 r.b]
def Zj (l:List Rn):V:=.l 2 (l.map Rn.cs)
def Ki (out:List Rn) (r:Rn):List Rn :=
 match out.getLast? with
 | some q=>if r.a<=q.b then out.dropLast++[⟨q.a,max q.b r.b⟩] else out++[r]
 | none=>[r]
theorem Q25 (r:Rn):Ki [] r=[r]:=rfl
theorem Q26 (k:List Rn) (q r:Rn):Ki (k++[q]) r=if r.a<=q.b then k++[⟨q.a,max q.b r.b⟩] else k++[q]++[r]:=by
 unfold Ki;simp
theorem Qqm {out:List Rn} {r:Rn} (h:RnsV out) (hr:r.a<r.b) (hb:∀q∈out,q.a<=r.a):RnsV (Ki out r)/\(∀q∈Ki out r,q.a<=r.a)/\∀x,Qz (Ki out r) x↔Qz out x∨(r.a<=x/\x<r.b):=by
 rcases El out with rfl | ⟨k,q,rfl⟩
 ·rw[Q25]
  exact⟨⟨by simpa using hr,by simp⟩,by simp,λx=>by simp[inRns_cons,Qt]⟩
 ·obtain⟨h1,h2,h3⟩:=RnsV.snoc.1 h
  have hq:=hb q (by simp)
  rw[Q26]
  by_cases he:r.a<=q.b
  ·rw[if_pos he]
   refine⟨RnsV.snoc.2 ⟨h1,by simp only[];omega,λs hs=>h3 s hs⟩,λs hs=>?_,λx=>?_⟩
   ·rcases qg.1 hs with hs | hs
    ·exact hb s (by simp[hs])
    ·rw[qo.1 hs];exact hq
   ·simp only[W6,inRns_cons,Qt,or_false]
    by_cases hk:Qz k x<;>simp only[hk,true_or,false_or,or_true]<;>omega
  ·rw[if_neg he]
   refine⟨RnsV.snoc.2 ⟨h,hr,λs hs=>?_⟩,λs hs=>?_,λx=>?_⟩
   ·rcases qg.1 hs with hs | hs
    ·have:=h3 s hs;omega
    ·rw[qo.1 hs];omega
   ·rcases qg.1 hs with hs | hs
    ·exact hb s hs
    ·rw[qo.1 hs];exact Int.le_refl _
   ·simp only[W6,inRns_cons,Qt,or_false]
def Jc (l:List Rn):List Rn:=l.foldl Ki []
theorem Qds:∀(xs:List Rn) {out:List Rn},RnsV out->(∀r∈xs,r.a<r.b)->xs.Pairwise (λr s=>r.a<=s.a)->(∀q∈out,∀r∈xs,q.a<=r.a) ->
  RnsV (xs.foldl Ki out)/\∀x,Qz (xs.foldl Ki out) x↔Qz out x∨Qz xs x
 | [],out,h,_,_,_=>⟨h,λx=>by simp[Qt]⟩
 | r::xs,out,h,hab,hp,hb=>by
   obtain⟨p1,p2⟩:=ja.1 hp
   obtain⟨h1,h2,h3⟩:=Qqm h (hab r (by simp)) (λq hq=>hb q hq r (by simp))
   obtain⟨g1,g2⟩:=Qds xs h1 (λs hs=>hab s (by simp[hs])) p2 (λq hq s hs=>by have:=h2 q hq;have:=p1 s hs;omega)
   refine⟨g1,λx=>?_⟩
   rw[List.foldl_cons,g2,h3,inRns_cons,or_assoc]
theorem Qqn {xs:List Rn} (hab:∀r∈xs,r.a<r.b) (hp:xs.Pairwise λr s=>r.a<=s.a):RnsV (Jc xs)/\∀x,Qz (Jc xs) x↔Qz xs x:=by
 obtain⟨h1,h2⟩:=Qds xs RnsV.nil hab hp (by simp)
 exact⟨h1,λx=>by unfold Jc;rw[h2];simp[Qt]⟩
theorem Qgu (l:List Rn) (r:Rn):Jc (l++[r])=Ki (Jc l) r:=by simp[Jc]
theorem Qm0:∀(l:List Rn),(Jc l).length<=l.length:=by
 intro l
 have key:∀(xs out:List Rn),(xs.foldl Ki out).length<=out.length+xs.length:=by
  intro xs
  induction xs with
  | nil=>intro out;simp
  | cons r xs ih =>
    intro out
    have h1:(Ki out r).length<=out.length+1:=by
     rcases El out with rfl | ⟨k,q,rfl⟩
     ·simp[Q25]
     ·rw[Q26];split<;>simp
    have:=ih (Ki out r)
    rw[List.foldl_cons,List.length_cons];omega
 simpa[Jc]using key l []
def RnB (l:List Rn):Prop:=∀r∈l,(-1048576<=r.a/\r.a<=1048576)/\-1048576<=r.b/\r.b<=1048576
def Yf (l:List Rn):List Rn:=l.filter λr=>decide (r.a<r.b)
theorem Qr2 (l:List Rn) (x:Int):Qz (Yf l) x↔Qz l x:=by
 unfold Yf Qz
 constructor
 ·rintro⟨r,hr,h⟩;exact⟨r,(qv.1 hr).1,h⟩
 ·rintro⟨r,hr,h⟩;exact⟨r,qv.2 ⟨hr,by simp;omega⟩,h⟩
abbrev RnS:={ r:Rn // -1048576<=r.a/\r.a<=1048576 }
instance:Inhabited RnS:=⟨⟨⟨0,0⟩,⟨by decide,by decide⟩⟩⟩
def Q9d (a b:RnS):Int:=a.1.a-b.1.a
theorem Qmo:Go.Sort.SWO (ltC Q9d) where
 irrefl x:=by unfold ltC Q9d;simp
 trans x y z:=by unfold ltC Q9d;simp only[decide_eq_true_eq];omega
 ntrans x y z:=by unfold ltC Q9d;simp only[decide_eq_false_iff_not];omega
def Qi8 (P:Program) (f:FuncId):Prop:=∀l:List Rn,l.length<=100000->CallIs P f [Zj l] (Zj (Jc l))
def Qia (P:Program) (f:FuncId):Prop:=∀r:Rn,(-1048576<=r.a/\r.a<=1048576)/\-1048576<=r.b/\r.b<=1048576->CallIs P f [.a r.cs] (.b true)
def Qu7 (P:Program) (f:FuncId):Prop:=∀a b:Rn,(-1048576<=a.a/\a.a<=1048576)->(-1048576<=b.a/\b.a<=1048576)->CallIs P f [.a a.cs,.a b.cs] (.i .i64 (a.a-b.a))
def Qth (P:Program) (f:FuncId):Prop:=∀l:List Rn,l.length<=100000->RnB l->∃k,RnsV k/\(∀x,Qz k x↔Qz l x)/\CallIs P f [Zj l] (.t [Zj k,.i .i64 0])
section
variable {P:Program} (hm:P.follows .mixedOrders=true)
include hm
theorem Qa3 {f:FuncId} (hf:Qa P f L1i.c L1i.r L1i.n):Qia P f:=by
 rintro r ⟨⟨h1,h2⟩,h3,h4⟩
 refine PureC.is (Q8 hm hf (qh rfl) ?_) rfl
 unfold L1i.c
 simp[go_sem,Rn.cs,h1,h2,h3,h4,L1i.r]
theorem Q4z {f:FuncId} (hf:Qa P f L1h.c L1h.r L1h.n):Qu7 P f:=by
 rintro a b ⟨h1,h2⟩ ⟨h3,h4⟩
 refine PureC.is (Q8 hm hf (qh rfl) ?_) rfl
 unfold L1h.c
 have hw:IntKind.i64.wrap (a.a-b.a)=a.a-b.a:=Q3 (by omega) (by omega)
 simp[go_sem,Rn.cs,hw,L1h.r]
theorem Qa2 {f:FuncId} (hf:Qa P f L1j.c L1j.r L1j.n):Qi8 P f:=by
 intro l hl
 refine PureC.is (Q8 hm hf (qh rfl) ?_) rfl
 unfold L1j.c
 simp[go_sem,Zj]
 refine Z5 [.t 3 2] (α:=Nat × Nat) (λp=>p.1<=l.length)
  (λp=>⟨[(3,.own 0 (p.2+1) 0 (Jc (l.take p.1)).length),(7,Zj l),(8,.i .i64 l.length),(9,.i .i64 p.1)],[.arr (p.2+1) 2 ((Jc (l.take p.1)).map Rn.cs)]⟩)
  (λp=>l.length-p.1) (0,0) (Nat.zero_le _) ?_ ?_
 ·simp[go_sem,Zj,Jc]
 ·rintro⟨k,g⟩ hk
  simp only at hk ⊢
  by_cases hkl:k=l.length
  ·subst hkl
   rw[qi]
   have hd:∀x∈Jc l,∀y∈x.cs,y.isD=true:=λx _ y hy=>by simp[Rn.cs]at hy;rcases hy with rfl | rfl<;>rfl
   simp[go_sem,Zj,L1j.r,qe]
   rw[if_pos hd];rfl
  ·have hlt:k<l.length:=by omega
   have hq:l[k]?=some l[k]:=q9 hlt
   generalize l[k]=r at hq
   obtain⟨_,hq'⟩:=q8.1 hq
   have hs:Jc (l.take (k+1))=Ki (Jc (l.take k)) r:=by rw[List.take_add_one,hq];exact Qgu _ _
   have hlen:=Qm0 (l.take k)
   rw[qw]at hlen
   generalize Jc (l.take k)=out at *
   rcases El out with rfl | ⟨o,q,rfl⟩
   ·rw[Q25]at hs
    simp (disch:=omega) [go_sem,Zj,hlt,hq,hq',Rn.cs,Q3]
    exact⟨k+1,by omega,by omega,g+1,⟨⟨rfl,by rw[hs];rfl⟩,by omega⟩,rfl,by rw[hs];rfl⟩
   ·rw[Q26]at hs
    have hol:o.length+1<=100000:=by simp at hlen;omega
    have hog:∀x:List V,(List.map Rn.cs o++[x])[o.length]?=some x:=λx=>by
     have:=qf (l₁:=List.map Rn.cs o) (l₂:=[x]) (i:=o.length) (by simp)
     rw[this];simp
    have hos:∀x y:List V,(List.map Rn.cs o++[x]).set o.length y=List.map Rn.cs o++[y]:=λx y=>by
     rw[jl _ _ (by simp)];simp
    have hot:List.take (o.length+1) (List.map Rn.cs o++[q.cs])=List.map Rn.cs o++[q.cs]:=qe (by simp)
    simp only[Rn.cs]at hot
    by_cases hle:r.a<=q.b
    ·rw[if_pos hle]at hs
     simp (disch:=omega) [go_sem,Zj,hlt,hq,hq',hle,hog,hos,hot,Rn.cs,Q3]
     have hmx:(if q.b<r.b then r.b else q.b)=max q.b r.b:=by split<;>omega
     exact⟨k+1,by omega,by omega,g,⟨⟨rfl,by rw[hs];simp⟩,by omega⟩,rfl,by rw[hs,hmx];simp[Rn.cs]⟩
    ·rw[if_neg hle]at hs
     simp (disch:=omega) [go_sem,Zj,hlt,hq,hq',hle,hog,hos,hot,Rn.cs,Q3]
     exact⟨⟨by omega,by omega⟩,k+1,by omega,by omega,g+1,⟨⟨rfl,by rw[hs];simp⟩,by omega⟩,rfl,by rw[hs];simp[Rn.cs]⟩
omit hm in
theorem Qa5 (l:List Rn):∀x∈l,∀y∈x.cs,y.isD=true:=λx _ y hy=>by simp[Rn.cs]at hy;rcases hy with rfl | rfl<;>rfl
omit hm in
theorem rn_cl (l:List Rn) (n:Nat):∀x∈l,∀y∈x.cs,y.cl n=true:=λx hx y hy=>Wt n (Qa5 l x hx y hy)
theorem Qa4 {f ff fs fc fj:FuncId} (hf:Qa P f (L1g.c ff fs fc fj) L1g.r L1g.n) (hfit:Qia P ff) (hs:Wc P fs 2) (hc:Qu7 P fc) (hcal:Z3 P fc=true) (hj:Qi8 P fj):Qth P f:=by
 intro l hl hB
 have hfB:∀r∈Yf l,-1048576<=r.a/\r.a<=1048576:=λr hr=>(hB r (qv.1 hr).1).1
 have hfl:(Yf l).length<=l.length:=j9 _ _
 obtain⟨ys,hperm,hup,hcall⟩:=hs (λr:RnS=>r.1.ints) (λ_=>rfl) Q9d Qmo fc hcal (λa b=>hc a.1 b.1 a.2 b.2) ((Yf l).pmap Subtype.mk hfB) (by rw[List.length_pmap];omega)
 have hxs:((Yf l).pmap Subtype.mk hfB).map Subtype.val=Yf l:=by rw[List.map_pmap];simp
 have hp2:=hperm.map Subtype.val
 rw[hxs]at hp2
 have hfull:∀r∈ys.map Subtype.val,r.a<r.b:=λr hr=>by
  have:=(qv.1 (hp2.mem_iff.1 hr)).2
  simpa using this
 have hsort:(ys.map Subtype.val).Pairwise λr s:Rn=>r.a<=s.a:=by
  rw[je]
  refine hup.imp λ{a b} h=>?_
  unfold ltC Q9d at h
  simp only[decide_eq_false_iff_not]at h
  omega
 obtain⟨j1,j2⟩:=Qqn hfull hsort
 have hyl:(ys.map Subtype.val).length=(Yf l).length:=hp2.length_eq
 have hjc:=hj (ys.map Subtype.val) (by omega)
 refine⟨Jc (ys.map Subtype.val),j1,λx=>?_,?_⟩
 ·rw[j2,<- Qr2 l]
  unfold Qz
  constructor
  ·rintro⟨r,hr,h⟩;exact⟨r,hp2.mem_iff.1 hr,h⟩
  ·rintro⟨r,hr,h⟩;exact⟨r,hp2.mem_iff.2 hr,h⟩
 have hyy:ys.map (λx:RnS=>x.1.ints.map (V.i .i64))=(ys.map Subtype.val).map Rn.cs:=by rw[List.map_map];rfl
 have hxx:((Yf l).pmap Subtype.mk hfB).map (λx:RnS=>x.1.ints.map (V.i .i64))=(Yf l).map Rn.cs:=by
  conv=>rhs;rw[<- hxs]
  rw[List.map_map];rfl
 rw[hyy,hxx]at hcall
 rw[List.length_pmap]at hcall
 generalize ys.map Subtype.val=zs at *
 clear hup hperm
 refine PureC.is (Q8 hm hf (qh rfl) ?_) rfl
 unfold L1g.c
 simp[go_sem,Zj]
 refine Z5 [.t 4 2] (α:=Nat) (λk=>k<=l.length)
  (λk=>⟨[(4,.own 0 ((Yf (l.take k)).length+1) 0 (Yf (l.take k)).length),(7,Zj l),(8,.i .i64 l.length),(9,.i .i64 k)],[.arr ((Yf (l.take k)).length+1) 2 ((Yf (l.take k)).map Rn.cs)]⟩)
  (λk=>l.length-k) 0 (Nat.zero_le _) ?_ ?_
 ·simp[go_sem,Zj,Yf]
 ·intro k hk
  by_cases hkl:k=l.length
  ·subst hkl
   rw[qi]
   simp[go_sem,Zj]
   refine Yh (hcall _ 0 _ rfl) ?_
   simp[go_sem]
   refine Jv (vs:=[Zj zs]) ?_ hjc ?_
   ·have hd:=Qa5 zs
    have ht:List.take (Yf l).length (zs.map Rn.cs)=zs.map Rn.cs:=qe (by rw[List.length_map];omega)
    simp[go_sem,X8,frz,Ji,Zj,hyl,ht]
    rw[if_pos hd];rfl
   ·simp[go_sem,Zj,L1g.r]
  ·have hlt:k<l.length:=by omega
   have hq:l[k]?=some l[k]:=q9 hlt
   generalize l[k]=r at hq
   obtain⟨_,hq'⟩:=q8.1 hq
   have hrB:=hB r (qb hq)
   have hft:=hfit r hrB
   have hfs:Yf (l.take (k+1))=Yf (l.take k)++(if r.a<r.b then [r] else []):=by
    unfold Yf
    rw[List.take_add_one,hq]
    simp only[Option.toList_some,List.filter_append,List.filter_cons,List.filter_nil]
    split<;>simp_all
   have hfk:(Yf (l.take k)).length<=k:=by
    have:=j9 (λr:Rn=>decide (r.a<r.b)) (l.take k)
    rw[qw]at this
    unfold Yf;omega
   have htk:List.take (Yf (l.take k)).length ((Yf (l.take k)).map Rn.cs)=(Yf (l.take k)).map Rn.cs:=qe (by simp)
   have hcl:=rn_cl (Yf (l.take k))
   by_cases hab:r.a<r.b
   ·rw[if_pos hab]at hfs
    simp (disch:=omega) [go_sem,Zj,hlt,hq,hq',Rn.cs,show ¬ r.b<=r.a by omega]
    refine Q4 hft ?_
    simp (disch:=omega) [go_sem,Zj,Rn.cs,htk,Q3]
    exact⟨⟨by omega,by omega⟩,k+1,by omega,by omega,⟨by rw[hfs];simp,by omega⟩,by rw[hfs];simp,by rw[hfs];simp[Rn.cs]⟩
   ·rw[if_neg hab,List.append_nil]at hfs
    simp (disch:=omega) [go_sem,Zj,hlt,hq,hq',Rn.cs,show r.b<=r.a by omega,Q3]
    exact⟨k+1,by omega,by omega,⟨by rw[hfs],by omega⟩,by rw[hfs],by rw[hfs]⟩
end
def L1m.c (L0k:FuncId):C :=(.seq (.reg [Ac 10 0]) (.seq (.reg [Am 14 1,Am 15 0,Aj .sub 16 14 15,Am 17 4,Au 18 (.bin .mul (.c (.i .i64 2)) (.t 17)),Ad 19 18 1,Am 20 2,Au 21 (.bin .mul (.c (.i .i64 2)) (.t 20)),Aj .sub 22 19 21,Aj .mul 23 16 22,Am 24 3,Am 25 2,Aj .sub 26 24 25,Au 27 (.bin .mul (.c (.i .i64 2)) (.t 26)),Au 28 (.call L0k [.t 23,.t 27]),Am 13 28,Ax1 29 0 13,Ax1 30 1 13,Am 11 29,Am 12 30]) (.seq (.reg [Am 31 0,Am 32 11,Aj .add 33 31 32,Am 10 33]) .ret)))
def L1m.r:List Rr:=[.tmp 10]
abbrev L1m.n:Nat:=34
def L1l.c (L2g L1m:FuncId):C :=(.seq (.reg [Au 3 (.box (.t 0)),Au 4 (.box (.t 1)),Au 6 (.alloc [(.i .i64 0),(.i .i64 0)]),Ab 7 false]) (.seq (.seq (.reg [Ag 8 3 3,Au 9 (.call L2g [.t 8]),Au 10 (.un .not (.t 9)),Am 11 10,Aw 12 11 (.ld (some 3) (.t 4)),Aw 13 11 (.call L2g [.t 12]),Aw 14 11 (.un .not (.t 13)),Ao 15 11 14,Am 16 15,Aw 17 16 (.fa 2 (.t 3)),Aw 18 16 (.ld none (.t 17)),Aw 19 16 (.mv (.t 2)),Aw 20 16 (.bin .gtr (.t 18) (.t 19)),Ao 21 16 20,Am 22 21,Aw 23 22 (.mv (.t 2)),Aw 24 22 (.fa 2 (.t 4)),Aw 25 22 (.ld none (.t 24)),Aw 26 22 (.bin .geq (.t 23) (.t 25)),Ao 27 22 26]) (.ite (.t 27) (.seq
 (.reg [Au 28 (.build [(.i .i64 0),(.i .i64 0)] []),As 2 6 28,Ab 7 false]) .ret) .skip)) (.seq (.drw [Af 29 0 3,Al 30 29,Af 31 0 4,Al 32 31,Af 33 2 3,Al 34 33,Af 35 2 4,Al 36 35,Am 37 2,Au 38 (.call L1m [.t 30,.t 32,.t 34,.t 36,.t 37]),Af 39 1 3,Al 40 39,Af 41 1 4,Al 42 41,Af 43 2 3,Al 44 43,Af 45 2 4,Al 46 45,Am 47 2,Au 48 (.call L1m [.t 40,.t 42,.t 44,.t 46,.t 47]),Au 49 (.build [(.i .i64 0),(.i .i64 0)] [(0,1,(.t 38)),(1,1,(.t 48))]),As 2 6 49,Ab 7 true] [[],[],[],[],[],[],[],[],[],[],[9],[9],[9],[9],[9],[9],[9],[9],[],[],[],[],[]]) .ret)))
def L1l.r:List Rr:=[.cell 6 (some 2),.tmp 7]
abbrev L1l.n:Nat:=50
def L1n.c (L1l:FuncId):C :=(.seq (.reg [Au 2 (.box (.t 0)),Au 4 (.alloc [(.i .i64 0),(.i .i64 0),(.i .i64 0),(.i .i64 0)]),Ab 5 false]) (.seq (.reg [Au 6 (.alloc [(.i .i64 0),(.i .i64 0),(.i .i64 0),(.i .i64 0)])]) (.seq (.reg [Ab 7 false]) (.seq (.seq (.reg [Ag 15 9 2,Ac 16 0]) (.blk 0 (.loop (.seq (.reg [Ak .lss 17 16 3]) (.seq (.ite (.t 17) .skip (.exit 0)) (.seq (.blk 1 (.seq (.reg [Am 18 16,Au 19 (.ix 3 3 (some 3) (.t 15) (.t 16)),Au 9 (.alloc [(.i .i64 0),(.i .i64 0),(.i .i64 0)]),Am 8 18,As 3 9 19]) (.seq (.reg [Am 20 8,Ad 21 20 1,Ak .rem 22 21 3,Au 23 (.iaa 3 3 (.t 2) (.t 22)),Ag 24 3 23,
 Au 10 (.alloc [(.i .i64 0),(.i .i64 0),(.i .i64 0)]),As 3 10 24]) (.seq (.seq (.reg [Ag 26 3 9,Ag 27 3 10,Am 28 1,Au 29 (.call L1l [.t 26,.t 27,.t 28]),Am 25 29,Ax1 30 0 25,Ax1 31 1 25,Au 11 (.alloc [(.i .i64 0),(.i .i64 0)]),As 2 11 30,Am 12 31]) (.seq (.reg [Am 32 12]) (.ite (.t 32) (.reg [Ag 33 2 11,Af 34 2 6,As 2 34 33,Ab 7 true]) .skip))) (.seq (.reg [Ag 36 3 10,Ag 37 3 9,Am 38 1,Au 39 (.call L1l [.t 36,.t 37,.t 38]),Am 35 39,Ax1 40 0 35,Ax1 41 1 35,Au 13 (.alloc [(.i .i64 0),(.i .i64 0)]),As 2 13 40,Am 14 41]) (.seq (.reg [Am 42 14]) (.ite (.t 42) (.reg [Ag 43 2 13,Af 44 0 6,As 2 44 43])
 .skip))))))) (.reg [Ad 45 16 1,Am 16 45]))))))) (.seq (.reg [Ag 46 4 6,Am 47 7,As 4 4 46,Am 5 47]) .ret)))))
def L1n.r:List Rr:=[.cell 4 (some 4),.tmp 5]
abbrev L1n.n:Nat:=48
def L1k.c (L0g L0h L1n:FuncId):C :=(.seq (.reg [Au 2 (.box (.t 0)),Az 4,Ac 5 0]) (.seq (.seq (.reg [Ag 15 2 2,Au 16 (.call L0g [.t 15]),Am 6 16]) (.seq (.reg [Am 17 6,Ak .neq 18 17 0]) (.ite (.t 18) (.seq (.reg [Am 19 6,Az 4,Am 5 19]) .ret) .skip))) (.seq (.seq (.reg [Am 20 1,Ak .lss 21 20 (-65536),Am 22 21,Aw 23 22 (.mv (.t 1)),Aw 24 22 (.bin .gtr (.t 23) (.c (.i .i64 65536))),Ao 25 22 24]) (.ite (.t 25) (.seq (.reg [Az 4,Ac 5 8]) .ret) .skip)) (.seq (.reg [Az 7]) (.seq (.seq (.reg [Af 26 1 2,Al 27 26,An 28 0 27,Ac 29 0]) (.blk 0 (.loop (.seq (.reg [Aj .lss 30 29 28]) (.seq (.ite (.t 30) .skip
 (.exit 0)) (.seq (.blk 1 (.seq (.reg [Am 31 29,Am 8 31]) (.seq (.reg [Ag 33 2 2,Am 34 8,Au 35 (.call L0h [.t 33,.t 34]),Am 32 35,Ax1 36 0 32,Ax1 37 1 32,Ax1 38 2 32,Ax1 39 3 32,Au 9 (.alloc [(.i .i64 0),(.i .i64 0),(.i .i64 0)]),Au 10 (.alloc [(.i .i64 0),(.i .i64 0),(.i .i64 0)]),Au 11 (.alloc [(.i .i64 0),(.i .i64 0),(.i .i64 0)]),As 3 9 36,As 3 10 37,As 3 11 38,Am 12 39]) (.seq (.reg [Ag 41 3 9,Ag 42 3 10,Ag 43 3 11,Au 44 (.build [(.i .i64 0),(.i .i64 0),(.i .i64 0),(.i .i64 0),(.i .i64 0),(.i .i64 0),(.i .i64 0),(.i .i64 0),(.i .i64 0)] [(0,3,(.t 41)),(3,3,(.t 42)),(6,3,(.t 43))]),Am 45 1,
 Au 46 (.call L1n [.t 44,.t 45]),Am 40 46,Ax1 47 0 40,Ax1 48 1 40,Au 13 (.alloc [(.i .i64 0),(.i .i64 0),(.i .i64 0),(.i .i64 0)]),As 4 13 47,Am 14 48]) (.seq (.reg [Am 49 14]) (.ite (.t 49) (.reg [Am 50 7,Ag 51 4 13,Au 52 (.bsi 4 1 [(.i .i64 0),(.i .i64 0),(.i .i64 0),(.i .i64 0)] [(0,(.t 51))]),Au 53 (.app 4 32 (.t 50) (.t 52)),Am 7 53]) .skip)))))) (.reg [Ad 54 29 1,Am 29 54]))))))) (.seq (.reg [Am 55 7,Am 4 55,Ac 5 0]) .ret))))))
def L1k.r:List Rr:=[.tmp 4,.tmp 5]
abbrev L1k.n:Nat:=56
theorem Qgk {x y A B:Int} (h1:-A<=x) (h2:x<=A) (h3:-B<=y) (h4:y<=B):-(A*B)<=x*y/\x*y<=A*B:=by
 have hA:0<=A:=by omega
 have hB:0<=B:=by omega
 have h5:=Nat.mul_le_mul (show x.natAbs<=A.natAbs by omega) (show y.natAbs<=B.natAbs by omega)
 rw[<- Int.natAbs_mul,<- Int.natAbs_mul]at h5
 have h6:0<=A*B:=Int.mul_nonneg hA hB
 omega
def Q81 (c0 c1 z0 z1 z:Int):Int:=c0+rnd ((c1-c0)*(2*z+1-2*z0)) (2*(z1-z0))
def Qu4 (P:Program) (f:FuncId):Prop:=∀c0 c1 z0 z1 z:Int,-65536<=c0->c0<=65536->-65536<=c1->c1<=65536->-65536<=z0->z1<=65536->z0<=z->z<z1 ->
 CallIs P f [.i .i64 c0,.i .i64 c1,.i .i64 z0,.i .i64 z1,.i .i64 z] (.i .i64 (Q81 c0 c1 z0 z1 z))
def point (a b:V3) (z:Int):Option (Int × Int) :=
 if a.valid=true/\b.valid=true/\a.z<=z/\z<b.z then some (Q81 a.x b.x a.z b.z z,Q81 a.y b.y a.z b.z z) else none
def ptR:Option (Int × Int)->V
 | none=>.t [.a [.i .i64 0,.i .i64 0],.b false]
 | some p=>.t [.a [.i .i64 p.1,.i .i64 p.2],.b true]
def Qi5 (P:Program) (f:FuncId):Prop:=∀(a b:V3) (z:Int),CallIs P f [a.enc,b.enc,.i .i64 z] (ptR (point a b z))
theorem crs_rnd {a b:Int} (h1:-34359738368<=a) (h2:a<=34359738368) (h3:0<b):-34359738369<=rnd a b/\rnd a b<=34359738369:=by
 unfold rnd
 have h4:=Int.mul_ediv_add_emod (2*a+b) (2*b)
 have h5:=Int.emod_nonneg (2*a+b) (show 2*b≠0 by omega)
 have h6:=Int.emod_lt_of_pos (2*a+b) (show 0<2*b by omega)
 generalize (2*a+b) / (2*b)=q at h4 ⊢
 generalize (2*a+b) % (2*b)=r at *
 have h7:2*b*q=2*(b*q):=Int.mul_assoc 2 b q
 constructor
 ·refine j8 λhh=>?_
  have:=jg (show q<=-34359738370 by omega) (show 0<=b by omega)
  omega
 ·refine j8 λhh=>?_
  have:=jg (show 34359738370<=q by omega) (show 0<=b by omega)
  omega
section
variable {P:Program} (hm:P.follows .mixedOrders=true)
include hm
theorem Q1j {f fr:FuncId} (hf:Qa P f (L1m.c fr) L1m.r L1m.n) (hr:Qi3 P fr):Qu4 P f:=by
 intro c0 c1 z0 z1 z h1 h2 h3 h4 h5 h6 h7 h8
 refine PureC.is (Q8 hm hf (qh rfl) ?_) rfl
 unfold L1m.c
 have hp:=Qgk (x:=c1-c0) (y:=2*z+1-2*z0) (A:=131072) (B:=262144) (by omega) (by omega) (by omega) (by omega)
 have hb:=crs_rnd (a:=(c1-c0)*(2*z+1-2*z0)) (b:=2*(z1-z0)) (by omega) (by omega) (by omega)
 simp (disch:=omega) [go_sem,Q3]
 refine Q4 (hr _ _ (by omega) (by omega) (by omega) (by omega)) ?_
 simp (disch:=omega) [go_sem,Q3,L1m.r,Q81]
theorem Q1k {f fv fc:FuncId} (hf:Qa P f (L1l.c fv fc) L1l.r L1l.n) (hv:Bu P fv) (hc:Qu4 P fc):Qi5 P f:=by
 intro a b z
 refine PureC.is (Q8 hm hf (qh rfl) ?_) rfl
 unfold L1l.c
 simp[go_sem,V3.enc,vcs]
 refine Q4 (hv a) ?_
 simp +contextual -implicitDefEqProofs [go_sem]
 refine Gq_is' (r:=.b b.valid) (λhh=>?_) ?_
 ·have hh':a.valid=true:=by simpa using hh
  simp[go_sem,hh']
  exact hv b
 by_cases h:a.valid=true/\b.valid=true/\a.z<=z/\z<b.z
 ·obtain⟨h1,h2,h3,h4⟩:=h
  have g1:=V3.valid_iff.1 h1
  have g2:=V3.valid_iff.1 h2
  simp[go_sem,h1,h2,show ¬ z<a.z by omega,show ¬ b.z<=z by omega]
  refine Qp (hc _ _ _ _ _ (by omega) (by omega) (by omega) (by omega) (by omega) (by omega) (by omega) (by omega)) ?_
  simp[go_sem]
  refine Qp (hc _ _ _ _ _ (by omega) (by omega) (by omega) (by omega) (by omega) (by omega) (by omega) (by omega)) ?_
  simp[go_sem,L1l.r,point,h1,h2,h3,h4,ptR]
 ·have hn:point a b z=none:=by simp only[point,h,if_false]
  rw[hn]
  cases h1:a.valid
  ·simp[go_sem,L1l.r,ptR]
  ·cases h2:b.valid
   ·simp[go_sem,L1l.r,ptR]
   ·simp +contextual -implicitDefEqProofs [go_sem,L1l.r,ptR]
    exact λh3 h4=>absurd ⟨h1,h2,h3,h4⟩ h
end
structure Sg4 where
 a:Int × Int
 b:Int × Int
 found:Bool
def Sg4.init:Sg4:=⟨(0,0),(0,0),false⟩
def Sg4.step (z:Int) (s:Sg4) (u v:V3):Sg4 :=
 let s1:Sg4:=match point u v z with | some p=>⟨s.a,p,true⟩ | none=>s
 match point v u z with | some p=>⟨p,s1.b,s1.found⟩ | none=>s1
def Sg4.cs (s:Sg4):List V:=[.i .i64 s.a.1,.i .i64 s.a.2,.i .i64 s.b.1,.i .i64 s.b.2]
def Jl (z:Int) (a b c:V3):Nat->Sg4
 | 0=>.init
 | 1=>Sg4.init.step z a b
 | 2=>(Sg4.init.step z a b).step z b c
 | _=>((Sg4.init.step z a b).step z b c).step z c a
def Q6l (z:Int) (a b c:V3):Sg4:=Jl z a b c 3
def CutC (P:Program) (f:FuncId):Prop:=∀(a b c:V3) (z:Int),CallIs P f [.a (a.cs++b.cs++c.cs),.i .i64 z] (.t [.a (Q6l z a b c).cs,.b (Q6l z a b c).found])
section
variable {P:Program} (hm:P.follows .mixedOrders=true)
include hm
theorem Q4x {f fp:FuncId} (hf:Qa P f (L1n.c fp) L1n.r L1n.n) (hp:Qi5 P fp):CutC P f:=by
 intro a b c z
 refine PureC.is (Q8 hm hf (qh rfl) ?_) rfl
 unfold L1n.c
 simp[go_sem,vcs]
 refine Qf (α:=Nat) (λk=>k<=3)
  (λk=>⟨[(1,.i .i64 z),(2,.p 0 1 0 0),(4,.p 1 1 0 0),(6,.p 2 1 0 0),(7,.b (Jl z a b c k).found),(15,.a (a.cs++b.cs++c.cs)),(16,.i .i64 k)],
   [.arr 1 9 [a.cs++b.cs++c.cs],.arr 1 4 [[.i .i64 0,.i .i64 0,.i .i64 0,.i .i64 0]],.arr 1 4 [(Jl z a b c k).cs]]⟩)
  (λk=>3-k) 0 (Nat.zero_le _) ?_ ?_
 ·simp[go_sem,vcs,Jl,Sg4.init,Sg4.cs]
 ·intro k hk
  obtain rfl | rfl | rfl | rfl:k=0∨k=1∨k=2∨k=3:=by omega
  ·have hs:Jl z a b c 1=(Jl z a b c 0).step z a b:=Rfl rfl
   generalize Jl z a b c 0=s at hs ⊢
   simp (disch:=omega) [go_sem,vcs,Sg4.cs,Q3]
   refine Q4 (hp a b z) ?_
   cases h1:point a b z<;>simp[go_sem,ptR]<;>refine Q4 (hp b a z) ?_<;>cases h2:point b a z<;>simp[go_sem,ptR] <;>
    simp (disch:=omega) [go_sem,Q3]<;>refine⟨1,by omega,by omega,?_⟩<;>rw[hs]<;>simp[go_sem,vcs,Sg4.cs,Sg4.step,h1,h2]
  ·have hs:Jl z a b c 2=(Jl z a b c 1).step z b c:=Rfl rfl
   generalize Jl z a b c 1=s at hs ⊢
   simp (disch:=omega) [go_sem,vcs,Sg4.cs,Q3]
   refine Q4 (hp b c z) ?_
   cases h1:point b c z<;>simp[go_sem,ptR]<;>refine Q4 (hp c b z) ?_<;>cases h2:point c b z<;>simp[go_sem,ptR] <;>
    simp (disch:=omega) [go_sem,Q3]<;>refine⟨2,by omega,by omega,?_⟩<;>rw[hs]<;>simp[go_sem,vcs,Sg4.cs,Sg4.step,h1,h2]
  ·have hs:Jl z a b c 3=(Jl z a b c 2).step z c a:=Rfl rfl
   generalize Jl z a b c 2=s at hs ⊢
   simp (disch:=omega) [go_sem,vcs,Sg4.cs,Q3]
   refine Q4 (hp c a z) ?_
   cases h1:point c a z<;>simp[go_sem,ptR]<;>refine Q4 (hp a c z) ?_<;>cases h2:point a c z<;>simp[go_sem,ptR] <;>
    simp (disch:=omega) [go_sem,Q3]<;>refine⟨3,by omega,by omega,?_⟩<;>rw[hs]<;>simp[go_sem,vcs,Sg4.cs,Sg4.step,h1,h2]
  ·simp[go_sem,vcs,Sg4.cs,L1n.r,Q6l]
end
instance:Inhabited V3:=⟨⟨0,0,0⟩⟩
def Mesh.v (m:Mesh) (i:Int):V3:=m.verts[i.toNat]?.getD ⟨0,0,0⟩
theorem Mesh.v_get {m:Mesh} {i:Int} (h1:i<m.verts.length) (h:i.toNat<m.verts.length):m.verts[i.toNat]=m.v i:=by simp[Mesh.v,h]
def zV3:V:=.a [.i .i64 0,.i .i64 0,.i .i64 0]
def Mesh.corners (m:Mesh) (i:Int):V :=
 if 0<=i/\i<m.tris.length/\m.check=0 then match m.tris[i.toNat]? with
  | some t=>.t [(m.v t.a).enc,(m.v t.b).enc,(m.v t.c).enc,.b true]
  | none=>.any
 else .t [zV3,zV3,zV3,.b false]
def Q18 (P:Program) (f:FuncId):Prop:=∀(m:Mesh) (i:Int),CallIs P f [m.enc,.i .i64 i] (m.corners i)
def apS (t:Nat) (e:List (Nat × V)) (pre:List O) (d sz:Nat) (els:List (List V)):St :=
 if els=[] then ⟨(t,.nil)::e,pre⟩ else ⟨(t,.own (pre.length+d) els.length 0 els.length)::e,pre++List.replicate d .dead++[.arr els.length sz els]⟩
section
variable {P:Program} (hm:P.follows .mixedOrders=true)
include hm
theorem Q3r {f fc:FuncId} (hf:Qa P f (L0h.c fc) L0h.r L0h.n) (hc:Ys P fc):Q18 P f:=by
 intro m i
 refine PureC.is (Q8 hm hf (qh rfl) ?_) rfl
 unfold L0h.c
 by_cases h:0<=i/\i<m.tris.length
 ·obtain⟨h0,h1⟩:=h
  have hlt:i.toNat<m.tris.length:=by omega
  simp[go_sem,Mesh.enc,Mesh.cs,vsV,tsV,show ¬ i<0 by omega,show ¬ (m.tris.length:Int)<=i by omega]
  refine Q4 (hc m) ?_
  by_cases hz:m.check=0
  ·obtain⟨z1,z2,z3,z4⟩:=Mesh.check_zero.1 hz
   obtain⟨t,hp⟩:∃t,m.tris[i.toNat]?=some t:=⟨_,q9 hlt⟩
   obtain⟨hlt',hp'⟩:=q8.1 hp
   obtain⟨t1,t2,t3,t4,t5,t6⟩:=T3.ok_iff.1 (Bx z4 hp)
   have ga:=Mesh.v_get t2 (by omega)
   have gb:=Mesh.v_get t4 (by omega)
   have gc:=Mesh.v_get t6 (by omega)
   have hr:m.corners i=.t [(m.v t.a).enc,(m.v t.b).enc,(m.v t.c).enc,.b true]:=by
    simp only[Mesh.corners,h0,h1,hz,and_self,if_true,hp]
   rw[hr]
   simp[go_sem,hz,h0,h1,hlt,hp',tcs,vcs,t1,t2,t3,t4,t5,t6,show t.a.toNat<m.verts.length by omega,show t.b.toNat<m.verts.length by omega,show t.c.toNat<m.verts.length by omega,ga,gb,gc,L0h.r,V3.enc]
  ·simp[go_sem,hz,L0h.r,Mesh.corners,zV3]
 ·have:i<0∨(m.tris.length:Int)<=i:=by omega
  have hr:m.corners i=.t [zV3,zV3,zV3,.b false]:=by
   unfold Mesh.corners;rw[if_neg (by omega)]
  rw[hr]
  by_cases h0:i<0
  ·simp[go_sem,Mesh.enc,Mesh.cs,vsV,tsV,h0,L0h.r,zV3]
  ·simp[go_sem,Mesh.enc,Mesh.cs,vsV,tsV,h0,show (m.tris.length:Int)<=i by omega,L0h.r,zV3]
end
end Go.Abs
