/- Part of the library on which the proof stands: an abstract machine, its values and its soundness against the model; or what functions of the program do to such values. -/
import Derived.Test.YtnaehggpjfdenaaGreatAbsSS
import Derived.Test.YtnaehggpjfdenaaGreatGoStB
import Derived.Test.YtnaehggpjfdenaaGreatGoRw
import Derived.Test.YtnaehggpjfdenaaGreatGoRevC
set_option linter.unusedVariables false
set_option linter.unusedSimpArgs false
set_option maxHeartbeats 8000000
set_option maxRecDepth 20000
namespace Go.Abs
theorem Qd (h l:List O) (k:Nat):(h++l)[h.length+k]?=l[k]?:=by
 rw[qh (by omega)];congr 1;omega
theorem Qg (h l:List O):(h++l)[h.length]?=l[0]?:=Qd h l 0
theorem Qo (h l:List O) (k:Nat) (o:O):(h++l).set (h.length+k) o=h++l.set k o:=by
 rw[jl _ _ (by omega)];congr 2;omega
theorem Qt (h l:List O) (o:O):(h++l).set h.length o=h++l.set 0 o:=Qo h l 0 o
theorem Qy {n:Nat} {a b:List O}:∀{h:List O},(∀o∈h,o.cl n)->WeakH n a b->WeakH n (h++a) (h++b)
 | [],_,hw=>hw
 | o::h,hc,hw=>⟨.inr ⟨rfl,hc o (by simp)⟩,Qy (λo' ho=>hc o' (by simp[ho])) hw⟩
section
variable {J:Nat->Prop} {m:List Ent} {w:World}
theorem Q2c {id:Nat} {e:Ent} (h:m[id]?=some e):id<m.length:=(qa.1 h).1
theorem Qpl {x:V} {c:Value} (h:RL J m w x c):x.cl0 m.length=true:=by
 cases x<;>simp only[V.cl0]<;>simp only[RL]at h
 case own id g off len=>obtain⟨_,e,he,_⟩:=h;simpa using Q2c he
 case p id g el j=>obtain⟨_,e,he,_⟩:=h;simpa using Q2c he
 case mp id=>obtain⟨_,e,he,_⟩:=h;simpa using Q2c he
theorem Qpn {x:V} {c:Value} (h:RC J m w x c):x.cl1 m.length=true:=by
 cases x
 case f fn caps =>
  obtain⟨cs,_,hp⟩:=h
  simp only[V.cl1,ql]
  intro x hx
  obtain⟨i,hi⟩:=qt hx
  have hlt:=(qa.1 hi).1
  have hl:=hp.1
  exact Qpl (hp.2 i x cs.toList[i] hi (qb (by omega)))
 case a cs=>exact(show RL J m w (.a cs) c from h).elim
 case t vs=>exact(show RL J m w (.t vs) c from h).elim
 all_goals
  simp only[RC]at h
  simp only[V.cl1]
  exact Qpl h
theorem RC_cl {x:V} {c:Value} (h:RC J m w x c):x.cl m.length=true:=by
 cases x
 case a cs=>exact(show RL J m w (.a cs) c from h).elim
 case t vs=>exact(show RL J m w (.t vs) c from h).elim
 all_goals
  simp only[V.cl]
  exact Qpn h
theorem Qgo {x:V} {c:Value} (h:RA J m w x c):x.cl m.length=true:=by
 cases x
 case a cs =>
  obtain⟨arr,_,hp⟩:=h
  simp only[V.cl,ql]
  intro x hx
  obtain⟨i,hi⟩:=qt hx
  have hlt:=(qa.1 hi).1
  have hl:=hp.1
  exact Qpn (hp.2 i x arr.toList[i] hi (qb (by omega)))
 case t vs=>exact(show RC J m w (.t vs) c from h).elim
 case any=>rfl
 all_goals
  simp only[RA]at h
  exact RC_cl h
theorem Qk8 {h:List O} (hr:RS J h m w):∀o∈h,o.cl h.length:=by
 intro o ho
 obtain⟨id,hid⟩:=qt ho
 have hlt:=(qa.1 hid).1
 have hl:=hr.len
 have hO:=hr.obj id m[id] o (qb (by omega)) hid
 rw[<- hl]
 cases o with
 | dead=>trivial
 | arr g sz els =>
   obtain⟨_,_,_,hb⟩:=hO
   intro el hel x hx
   obtain⟨i,hi⟩:=qt hel
   obtain⟨j,hj⟩:=qt hx
   split at hb
   ·obtain⟨rfl,_⟩:=hb;simp at hi
   ·obtain⟨_,_,c,ty,fz,_,_,_,hc⟩:=hb
    obtain⟨cv,_,hcv⟩:=hc i el j x hi hj
    exact RC_cl hcv
 | mp es =>
   obtain⟨_,B,_,ms,_,_,hc⟩:=hO
   intro e he
   obtain⟨i,hi⟩:=qt he
   obtain⟨en,_,_,h1,h2⟩:=hc i e.1 e.2 hi
   exact⟨Qgo h1,Qgo h2⟩
 | md es =>
   obtain⟨_,B,_,ms,c,_,_,hc⟩:=hO
   intro e he
   obtain⟨i,hi⟩:=qt he
   obtain⟨en,_,h1,h2⟩:=hc i e.1 e.2 hi
   exact⟨Qgo h1,Qgo h2⟩
 | it mid since seen =>
   obtain⟨_,_,_,B,_,mb,_,hm⟩:=hO
   intro i hi
   subst hi
   obtain⟨e',he',_⟩:=hm
   exact Q2c he'
end
theorem Qc3 {x:V} {n k:Nat} (hnk:n<=k) (h:x.cl0 n=true):x.cl0 k=true:=by
 cases x<;>simp only[V.cl0,decide_eq_true_eq]at h ⊢<;>omega
theorem Qc2 {x:V} {n k:Nat} (hnk:n<=k) (h:x.cl1 n=true):x.cl1 k=true:=by
 cases x
 case f fn caps=>simp only[V.cl1,ql]at h ⊢;exact λy hy=>Qc3 hnk (h y hy)
 all_goals
  simp only[V.cl1]at h ⊢
  exact Qc3 hnk h
theorem B6 {x:V} {n k:Nat} (hnk:n<=k) (h:x.cl n=true):x.cl k=true:=by
 cases x
 case a cs=>simp only[V.cl,ql]at h ⊢;exact λy hy=>Qc2 hnk (h y hy)
 case t=>simp[V.cl]at h
 all_goals
  simp only[V.cl]at h ⊢
  exact Qc2 hnk h
theorem Qpv {o:O} {n k:Nat} (hnk:n<=k) (h:o.cl n):o.cl k:=by
 cases o with
 | dead=>trivial
 | arr g sz els=>exact λel hel x hx=>B6 hnk (h el hel x hx)
 | mp es=>exact λe he=>⟨B6 hnk (h e he).1,B6 hnk (h e he).2⟩
 | md es=>exact λe he=>⟨B6 hnk (h e he).1,B6 hnk (h e he).2⟩
 | it mid since seen=>exact λi hi=>Nat.lt_of_lt_of_le (h i hi) hnk
theorem Bf {P:Program} {f:FuncId} {vs:List V} {h:List O} {R:V->List O->Prop} (hc:(∀n,h.length<=n->∀o∈h,o.cl n)->ACall P f vs h R):ACall P f vs h R:=by
 intro J m w cargs hr hp
 exact hc (λn hn o ho=>Qpv hn (Qk8 hr o ho)) J m w cargs hr hp
theorem Qr {P:Program} {f:FuncId} {vs:List V} {h h0:List O} {r0:V} {k:V->List O->Prop} (hc:ACall P f vs h (λr h'=>r=r0/\h'=h0)) (hk:k r0 h0):ACall P f vs h k :=
 hc.mono λr h' hh=>by rw[hh.1,hh.2];exact hk
def Rn.ints (r:Rn):List Int:=[r.a,r.b]
def Rn.cs (r:Rn):List V:=[.i .i64 r.a,.i .i64 r.b]
def Qj (l:List Rn):V:=.l 2 (l.map Rn.cs)
def Jv (out:List Rn) (r:Rn):List Rn :=
 match out.getLast? with
 | some q=>if r.a<=q.b then out.dropLast++[⟨q.a,max q.b r.b⟩] else out++[r]
 | none=>[r]
theorem Q0a (r:Rn):Jv [] r=[r]:=rfl
theorem Q0b (k:List Rn) (q r:Rn):Jv (k++[q]) r=if r.a<=q.b then k++[⟨q.a,max q.b r.b⟩] else k++[q]++[r]:=by
 unfold Jv;simp
theorem Qn0 {out:List Rn} {r:Rn} (h:RnsV out) (hr:r.a<r.b) (hb:∀q∈out,q.a<=r.a):RnsV (Jv out r)/\(∀q∈Jv out r,q.a<=r.a)/\∀x,Qf (Jv out r) x↔Qf out x∨(r.a<=x/\x<r.b):=by
 rcases U1 out with rfl | ⟨k,q,rfl⟩
 ·rw[Q0a]
  exact⟨⟨by simpa using hr,by simp⟩,by simp,λx=>by simp[inRns_cons,Qk]⟩
 ·obtain⟨h1,h2,h3⟩:=RnsV.snoc.1 h
  have hq:=hb q (by simp)
  rw[Q0b]
  by_cases he:r.a<=q.b
  ·rw[if_pos he]
   refine⟨RnsV.snoc.2 ⟨h1,by simp only[];omega,λs hs=>h3 s hs⟩,λs hs=>?_,λx=>?_⟩
   ·rcases qi.1 hs with hs | hs
    ·exact hb s (by simp[hs])
    ·rw[qp.1 hs];exact hq
   ·simp only[J7,inRns_cons,Qk,or_false]
    by_cases hk:Qf k x<;>simp only[hk,true_or,false_or,or_true]<;>omega
  ·rw[if_neg he]
   refine⟨RnsV.snoc.2 ⟨h,hr,λs hs=>?_⟩,λs hs=>?_,λx=>?_⟩
   ·rcases qi.1 hs with hs | hs
    ·have:=h3 s hs;omega
    ·rw[qp.1 hs];omega
   ·rcases qi.1 hs with hs | hs
    ·exact hb s hs
    ·rw[qp.1 hs];exact Int.le_refl _
   ·simp only[J7,inRns_cons,Qk,or_false]
def Xn (l:List Rn):List Rn:=l.foldl Jv []
theorem Qb9:∀(xs:List Rn) {out:List Rn},RnsV out->(∀r∈xs,r.a<r.b)->xs.Pairwise (λr s=>r.a<=s.a)->(∀q∈out,∀r∈xs,q.a<=r.a) ->
  RnsV (xs.foldl Jv out)/\∀x,Qf (xs.foldl Jv out) x↔Qf out x∨Qf xs x
 | [],out,h,_,_,_=>⟨h,λx=>by simp[Qk]⟩
 | r::xs,out,h,hab,hp,hb=>by
   obtain⟨p1,p2⟩:=jb.1 hp
   obtain⟨h1,h2,h3⟩:=Qn0 h (hab r (by simp)) (λq hq=>hb q hq r (by simp))
   obtain⟨g1,g2⟩:=Qb9 xs h1 (λs hs=>hab s (by simp[hs])) p2 (λq hq s hs=>by have:=h2 q hq;have:=p1 s hs;omega)
   refine⟨g1,λx=>?_⟩
   rw[List.foldl_cons,g2,h3,inRns_cons,or_assoc]
theorem Qn1 {xs:List Rn} (hab:∀r∈xs,r.a<r.b) (hp:xs.Pairwise λr s=>r.a<=s.a):RnsV (Xn xs)/\∀x,Qf (Xn xs) x↔Qf xs x:=by
 obtain⟨h1,h2⟩:=Qb9 xs RnsV.nil hab hp (by simp)
 exact⟨h1,λx=>by unfold Xn;rw[h2];simp[Qk]⟩
theorem Qe2 (l:List Rn) (r:Rn):Xn (l++[r])=Jv (Xn l) r:=by simp[Xn]
theorem Qis:∀(l:List Rn),(Xn l).length<=l.length:=by
 intro l
 have key:∀(xs out:List Rn),(xs.foldl Jv out).length<=out.length+xs.length:=by
  intro xs
  induction xs with
  | nil=>intro out;simp
  | cons r xs ih =>
    intro out
    have h1:(Jv out r).length<=out.length+1:=by
     rcases U1 out with rfl | ⟨k,q,rfl⟩
     ·simp[Q0a]
     ·rw[Q0b];split<;>simp
    have:=ih (Jv out r)
    rw[List.foldl_cons,List.length_cons];omega
 simpa[Xn]using key l []
def RnB (l:List Rn):Prop:=∀r∈l,(-1048576<=r.a/\r.a<=1048576)/\-1048576<=r.b/\r.b<=1048576
def Y1 (l:List Rn):List Rn:=l.filter λr=>decide (r.a<r.b)
theorem Qng (l:List Rn) (x:Int):Qf (Y1 l) x↔Qf l x:=by
 unfold Y1 Qf
 constructor
 ·rintro⟨r,hr,h⟩;exact⟨r,(qw.1 hr).1,h⟩
 ·rintro⟨r,hr,h⟩;exact⟨r,qw.2 ⟨hr,by simp;omega⟩,h⟩
abbrev RnS:={ r:Rn // -1048576<=r.a/\r.a<=1048576 }
instance:Inhabited RnS:=⟨⟨⟨0,0⟩,⟨by decide,by decide⟩⟩⟩
def Q6t (a b:RnS):Int:=a.1.a-b.1.a
theorem Qjb:Go.Sort.SWO (ltC Q6t) where
 irrefl x:=by unfold ltC Q6t;simp
 trans x y z:=by unfold ltC Q6t;simp only[decide_eq_true_eq];omega
 ntrans x y z:=by unfold ltC Q6t;simp only[decide_eq_false_iff_not];omega
def Qfa (P:Program) (f:FuncId):Prop:=∀l:List Rn,l.length<=100000->CallIs P f [Qj l] (Qj (Xn l))
def Q9k (P:Program) (f:FuncId):Prop:=∀r:Rn,(-1048576<=r.a/\r.a<=1048576)/\-1048576<=r.b/\r.b<=1048576->CallIs P f [.a r.cs] (.b true)
def Qqh (P:Program) (f:FuncId):Prop:=∀a b:Rn,(-1048576<=a.a/\a.a<=1048576)->(-1048576<=b.a/\b.a<=1048576)->CallIs P f [.a a.cs,.a b.cs] (.i .i64 (a.a-b.a))
def Qpw (P:Program) (f:FuncId):Prop:=∀l:List Rn,l.length<=100000->RnB l->∃k,RnsV k/\(∀x,Qf k x↔Qf l x)/\CallIs P f [Qj l] (.t [Qj k,.i .i64 0])
section
variable {P:Program} (hm:P.follows .mixedOrders=true)
include hm
theorem Q7q {f:FuncId} (hf:Q9 P f L1d.c L1d.r L1d.n):Q9k P f:=by
 rintro r ⟨⟨h1,h2⟩,h3,h4⟩
 refine PureC.is (Q8 hm hf (qj rfl) ?_) rfl
 unfold L1d.c
 simp[go_sem,Rn.cs,h1,h2,h3,h4,L1d.r]
theorem Q36 {f:FuncId} (hf:Q9 P f L15.c L15.r L15.n):Qqh P f:=by
 rintro a b ⟨h1,h2⟩ ⟨h3,h4⟩
 refine PureC.is (Q8 hm hf (qj rfl) ?_) rfl
 unfold L15.c
 have hw:IntKind.i64.wrap (a.a-b.a)=a.a-b.a:=Q3 (by omega) (by omega)
 simp[go_sem,Rn.cs,hw,L15.r]
theorem Q7p {f:FuncId} (hf:Q9 P f L1e.c L1e.r L1e.n):Qfa P f:=by
 intro l hl
 refine PureC.is (Q8 hm hf (qj rfl) ?_) rfl
 unfold L1e.c
 simp[go_sem,Qj]
 refine Z0 [.t 3 2] (α:=Nat × Nat) (λp=>p.1<=l.length)
  (λp=>⟨[(3,.own 0 (p.2+1) 0 (Xn (l.take p.1)).length),(7,Qj l),(8,.i .i64 l.length),(9,.i .i64 p.1)],[.arr (p.2+1) 2 ((Xn (l.take p.1)).map Rn.cs)]⟩)
  (λp=>l.length-p.1) (0,0) (Nat.zero_le _) ?_ ?_
 ·simp[go_sem,Qj,Xn]
 ·rintro⟨k,g⟩ hk
  simp only at hk ⊢
  by_cases hkl:k=l.length
  ·subst hkl
   rw[qk]
   have hd:∀x∈Xn l,∀y∈x.cs,y.isD=true:=λx _ y hy=>by simp[Rn.cs]at hy;rcases hy with rfl | rfl<;>rfl
   simp[go_sem,Qj,L1e.r,qg]
   rw[if_pos hd];rfl
  ·have hlt:k<l.length:=by omega
   have hq:l[k]?=some l[k]:=qb hlt
   generalize l[k]=r at hq
   obtain⟨_,hq'⟩:=qa.1 hq
   have hs:Xn (l.take (k+1))=Jv (Xn (l.take k)) r:=by rw[List.take_add_one,hq];exact Qe2 _ _
   have hlen:=Qis (l.take k)
   rw[qx]at hlen
   generalize Xn (l.take k)=out at *
   rcases U1 out with rfl | ⟨o,q,rfl⟩
   ·rw[Q0a]at hs
    simp (disch:=omega) [go_sem,Qj,hlt,hq,hq',Rn.cs,Q3]
    exact⟨k+1,by omega,by omega,g+1,⟨⟨rfl,by rw[hs];rfl⟩,by omega⟩,rfl,by rw[hs];rfl⟩
   ·rw[Q0b]at hs
    have hol:o.length+1<=100000:=by simp at hlen;omega
    have hog:∀x:List V,(List.map Rn.cs o++[x])[o.length]?=some x:=λx=>by
     have:=qh (l₁:=List.map Rn.cs o) (l₂:=[x]) (i:=o.length) (by simp)
     rw[this];simp
    have hos:∀x y:List V,(List.map Rn.cs o++[x]).set o.length y=List.map Rn.cs o++[y]:=λx y=>by
     rw[jl _ _ (by simp)];simp
    have hot:List.take (o.length+1) (List.map Rn.cs o++[q.cs])=List.map Rn.cs o++[q.cs]:=qg (by simp)
    simp only[Rn.cs]at hot
    by_cases hle:r.a<=q.b
    ·rw[if_pos hle]at hs
     simp (disch:=omega) [go_sem,Qj,hlt,hq,hq',hle,hog,hos,hot,Rn.cs,Q3]
     have hmx:(if q.b<r.b then r.b else q.b)=max q.b r.b:=by split<;>omega
     exact⟨k+1,by omega,by omega,g,⟨⟨rfl,by rw[hs];simp⟩,by omega⟩,rfl,by rw[hs,hmx];simp[Rn.cs]⟩
    ·rw[if_neg hle]at hs
     simp (disch:=omega) [go_sem,Qj,hlt,hq,hq',hle,hog,hos,hot,Rn.cs,Q3]
     exact⟨⟨by omega,by omega⟩,k+1,by omega,by omega,g+1,⟨⟨rfl,by rw[hs];simp⟩,by omega⟩,rfl,by rw[hs];simp[Rn.cs]⟩
omit hm in
theorem Bv (l:List Rn):∀x∈l,∀y∈x.cs,y.isD=true:=λx _ y hy=>by simp[Rn.cs]at hy;rcases hy with rfl | rfl<;>rfl
omit hm in
theorem Qap (l:List Rn) (n:Nat):∀x∈l,∀y∈x.cs,y.cl n=true:=λx hx y hy=>K1 n (Bv l x hx y hy)
theorem Q7r {f ff fs fc fj:FuncId} (hf:Q9 P f (L14.c ff fs fc fj) L14.r L14.n) (hfit:Q9k P ff) (hs:Wt P fs 2) (hc:Qqh P fc) (hcal:Qq P fc=true) (hj:Qfa P fj):Qpw P f:=by
 intro l hl hB
 have hfB:∀r∈Y1 l,-1048576<=r.a/\r.a<=1048576:=λr hr=>(hB r (qw.1 hr).1).1
 have hfl:(Y1 l).length<=l.length:=ja _ _
 obtain⟨ys,hperm,hup,hcall⟩:=hs (λr:RnS=>r.1.ints) (λ_=>rfl) Q6t Qjb fc hcal (λa b=>hc a.1 b.1 a.2 b.2) ((Y1 l).pmap Subtype.mk hfB) (by rw[List.length_pmap];omega)
 have hxs:((Y1 l).pmap Subtype.mk hfB).map Subtype.val=Y1 l:=by rw[List.map_pmap];simp
 have hp2:=hperm.map Subtype.val
 rw[hxs]at hp2
 have hfull:∀r∈ys.map Subtype.val,r.a<r.b:=λr hr=>by
  have:=(qw.1 (hp2.mem_iff.1 hr)).2
  simpa using this
 have hsort:(ys.map Subtype.val).Pairwise λr s:Rn=>r.a<=s.a:=by
  rw[jf]
  refine hup.imp λ{a b} h=>?_
  unfold ltC Q6t at h
  simp only[decide_eq_false_iff_not]at h
  omega
 obtain⟨j1,j2⟩:=Qn1 hfull hsort
 have hyl:(ys.map Subtype.val).length=(Y1 l).length:=hp2.length_eq
 have hjc:=hj (ys.map Subtype.val) (by omega)
 refine⟨Xn (ys.map Subtype.val),j1,λx=>?_,?_⟩
 ·rw[j2,<- Qng l]
  unfold Qf
  constructor
  ·rintro⟨r,hr,h⟩;exact⟨r,hp2.mem_iff.1 hr,h⟩
  ·rintro⟨r,hr,h⟩;exact⟨r,hp2.mem_iff.2 hr,h⟩
 have hyy:ys.map (λx:RnS=>x.1.ints.map (V.i .i64))=(ys.map Subtype.val).map Rn.cs:=by rw[List.map_map];rfl
 have hxx:((Y1 l).pmap Subtype.mk hfB).map (λx:RnS=>x.1.ints.map (V.i .i64))=(Y1 l).map Rn.cs:=by
  conv=>rhs;rw[<- hxs]
  rw[List.map_map];rfl
 rw[hyy,hxx]at hcall
 rw[List.length_pmap]at hcall
 generalize ys.map Subtype.val=zs at *
 clear hup hperm
 refine PureC.is (Q8 hm hf (qj rfl) ?_) rfl
 unfold L14.c
 simp[go_sem,Qj]
 refine Z0 [.t 4 2] (α:=Nat) (λk=>k<=l.length)
  (λk=>⟨[(4,.own 0 ((Y1 (l.take k)).length+1) 0 (Y1 (l.take k)).length),(7,Qj l),(8,.i .i64 l.length),(9,.i .i64 k)],[.arr ((Y1 (l.take k)).length+1) 2 ((Y1 (l.take k)).map Rn.cs)]⟩)
  (λk=>l.length-k) 0 (Nat.zero_le _) ?_ ?_
 ·simp[go_sem,Qj,Y1]
 ·intro k hk
  by_cases hkl:k=l.length
  ·subst hkl
   rw[qk]
   simp[go_sem,Qj]
   refine Qr (hcall _ 0 _ rfl) ?_
   simp[go_sem]
   refine Y3 (vs:=[Qj zs]) ?_ hjc ?_
   ·have hd:=Bv zs
    have ht:List.take (Y1 l).length (zs.map Rn.cs)=zs.map Rn.cs:=qg (by rw[List.length_map];omega)
    simp[go_sem,Yr,frz,Yx,Qj,hyl,ht]
    rw[if_pos hd];rfl
   ·simp[go_sem,Qj,L14.r]
  ·have hlt:k<l.length:=by omega
   have hq:l[k]?=some l[k]:=qb hlt
   generalize l[k]=r at hq
   obtain⟨_,hq'⟩:=qa.1 hq
   have hrB:=hB r (qe hq)
   have hft:=hfit r hrB
   have hfs:Y1 (l.take (k+1))=Y1 (l.take k)++(if r.a<r.b then [r] else []):=by
    unfold Y1
    rw[List.take_add_one,hq]
    simp only[Option.toList_some,List.filter_append,List.filter_cons,List.filter_nil]
    split<;>simp_all
   have hfk:(Y1 (l.take k)).length<=k:=by
    have:=ja (λr:Rn=>decide (r.a<r.b)) (l.take k)
    rw[qx]at this
    unfold Y1;omega
   have htk:List.take (Y1 (l.take k)).length ((Y1 (l.take k)).map Rn.cs)=(Y1 (l.take k)).map Rn.cs:=qg (by simp)
   have hcl:=Qap (Y1 (l.take k))
   by_cases hab:r.a<r.b
   ·rw[if_pos hab]at hfs
    simp (disch:=omega) [go_sem,Qj,hlt,hq,hq',Rn.cs,show ¬ r.b<=r.a by omega]
    refine Q5 hft ?_
    simp (disch:=omega) [go_sem,Qj,Rn.cs,htk,Q3]
    exact⟨⟨by omega,by omega⟩,k+1,by omega,by omega,⟨by rw[hfs];simp,by omega⟩,by rw[hfs];simp,by rw[hfs];simp[Rn.cs]⟩
   ·rw[if_neg hab,List.append_nil]at hfs
    simp (disch:=omega) [go_sem,Qj,hlt,hq,hq',Rn.cs,show r.b<=r.a by omega,Q3]
    exact⟨k+1,by omega,by omega,⟨by rw[hfs],by omega⟩,by rw[hfs],by rw[hfs]⟩
end
def L1i.c (L0g:FuncId):C :=(.seq (.reg [Ac 10 0]) (.seq (.reg [Am 14 1,Am 15 0,Aj .sub 16 14 15,Am 17 4,Au 18 (.bin .mul (.c (.i .i64 2)) (.t 17)),Ad 19 18 1,Am 20 2,Au 21 (.bin .mul (.c (.i .i64 2)) (.t 20)),Aj .sub 22 19 21,Aj .mul 23 16 22,Am 24 3,Am 25 2,Aj .sub 26 24 25,Au 27 (.bin .mul (.c (.i .i64 2)) (.t 26)),Au 28 (.call L0g [.t 23,.t 27]),Am 13 28,Ax1 29 0 13,Ax1 30 1 13,Am 11 29,Am 12 30]) (.seq (.reg [Am 31 0,Am 32 11,Aj .add 33 31 32,Am 10 33]) .ret)))
def L1i.r:List Rr:=[.tmp 10]
abbrev L1i.n:Nat:=34
def L1h.c (L2d L1i:FuncId):C :=(.seq (.reg [Au 3 (.box (.t 0)),Au 4 (.box (.t 1)),Au 6 (.alloc [(.i .i64 0),(.i .i64 0)]),Ab 7 false]) (.seq (.seq (.reg [Ag 8 3 3,Au 9 (.call L2d [.t 8]),Au 10 (.un .not (.t 9)),Am 11 10,Aw 12 11 (.ld (some 3) (.t 4)),Aw 13 11 (.call L2d [.t 12]),Aw 14 11 (.un .not (.t 13)),Ao 15 11 14,Am 16 15,Aw 17 16 (.fa 2 (.t 3)),Aw 18 16 (.ld none (.t 17)),Aw 19 16 (.mv (.t 2)),Aw 20 16 (.bin .gtr (.t 18) (.t 19)),Ao 21 16 20,Am 22 21,Aw 23 22 (.mv (.t 2)),Aw 24 22 (.fa 2 (.t 4)),Aw 25 22 (.ld none (.t 24)),Aw 26 22 (.bin .geq (.t 23) (.t 25)),Ao 27 22 26]) (.ite (.t 27) (.seq
 (.reg [Au 28 (.build [(.i .i64 0),(.i .i64 0)] []),As 2 6 28,Ab 7 false]) .ret) .skip)) (.seq (.drw [Af 29 0 3,Al 30 29,Af 31 0 4,Al 32 31,Af 33 2 3,Al 34 33,Af 35 2 4,Al 36 35,Am 37 2,Au 38 (.call L1i [.t 30,.t 32,.t 34,.t 36,.t 37]),Af 39 1 3,Al 40 39,Af 41 1 4,Al 42 41,Af 43 2 3,Al 44 43,Af 45 2 4,Al 46 45,Am 47 2,Au 48 (.call L1i [.t 40,.t 42,.t 44,.t 46,.t 47]),Au 49 (.build [(.i .i64 0),(.i .i64 0)] [(0,1,(.t 38)),(1,1,(.t 48))]),As 2 6 49,Ab 7 true] [[],[],[],[],[],[],[],[],[],[],[9],[9],[9],[9],[9],[9],[9],[9],[],[],[],[],[]]) .ret)))
def L1h.r:List Rr:=[.cell 6 (some 2),.tmp 7]
abbrev L1h.n:Nat:=50
def L1j.c (L1h:FuncId):C :=(.seq (.reg [Au 2 (.box (.t 0)),Au 4 (.alloc [(.i .i64 0),(.i .i64 0),(.i .i64 0),(.i .i64 0)]),Ab 5 false]) (.seq (.reg [Au 6 (.alloc [(.i .i64 0),(.i .i64 0),(.i .i64 0),(.i .i64 0)])]) (.seq (.reg [Ab 7 false]) (.seq (.seq (.reg [Ag 15 9 2,Ac 16 0]) (.blk 0 (.loop (.seq (.reg [Ak .lss 17 16 3]) (.seq (.ite (.t 17) .skip (.exit 0)) (.seq (.blk 1 (.seq (.reg [Am 18 16,Au 19 (.ix 3 3 (some 3) (.t 15) (.t 16)),Au 9 (.alloc [(.i .i64 0),(.i .i64 0),(.i .i64 0)]),Am 8 18,As 3 9 19]) (.seq (.reg [Am 20 8,Ad 21 20 1,Ak .rem 22 21 3,Au 23 (.iaa 3 3 (.t 2) (.t 22)),Ag 24 3 23,
 Au 10 (.alloc [(.i .i64 0),(.i .i64 0),(.i .i64 0)]),As 3 10 24]) (.seq (.seq (.reg [Ag 26 3 9,Ag 27 3 10,Am 28 1,Au 29 (.call L1h [.t 26,.t 27,.t 28]),Am 25 29,Ax1 30 0 25,Ax1 31 1 25,Au 11 (.alloc [(.i .i64 0),(.i .i64 0)]),As 2 11 30,Am 12 31]) (.seq (.reg [Am 32 12]) (.ite (.t 32) (.reg [Ag 33 2 11,Af 34 2 6,As 2 34 33,Ab 7 true]) .skip))) (.seq (.reg [Ag 36 3 10,Ag 37 3 9,Am 38 1,Au 39 (.call L1h [.t 36,.t 37,.t 38]),Am 35 39,Ax1 40 0 35,Ax1 41 1 35,Au 13 (.alloc [(.i .i64 0),(.i .i64 0)]),As 2 13 40,Am 14 41]) (.seq (.reg [Am 42 14]) (.ite (.t 42) (.reg [Ag 43 2 13,Af 44 0 6,As 2 44 43])
 .skip))))))) (.reg [Ad 45 16 1,Am 16 45]))))))) (.seq (.reg [Ag 46 4 6,Am 47 7,As 4 4 46,Am 5 47]) .ret)))))
def L1j.r:List Rr:=[.cell 4 (some 4),.tmp 5]
abbrev L1j.n:Nat:=48
def L1g.c (L0c L0d L1j:FuncId):C :=(.seq (.reg [Au 2 (.box (.t 0)),Az 4,Ac 5 0]) (.seq (.seq (.reg [Ag 15 2 2,Au 16 (.call L0c [.t 15]),Am 6 16]) (.seq (.reg [Am 17 6,Ak .neq 18 17 0]) (.ite (.t 18) (.seq (.reg [Am 19 6,Az 4,Am 5 19]) .ret) .skip))) (.seq (.seq (.reg [Am 20 1,Ak .lss 21 20 (-65536),Am 22 21,Aw 23 22 (.mv (.t 1)),Aw 24 22 (.bin .gtr (.t 23) (.c (.i .i64 65536))),Ao 25 22 24]) (.ite (.t 25) (.seq (.reg [Az 4,Ac 5 8]) .ret) .skip)) (.seq (.reg [Az 7]) (.seq (.seq (.reg [Af 26 1 2,Al 27 26,An 28 0 27,Ac 29 0]) (.blk 0 (.loop (.seq (.reg [Aj .lss 30 29 28]) (.seq (.ite (.t 30) .skip
 (.exit 0)) (.seq (.blk 1 (.seq (.reg [Am 31 29,Am 8 31]) (.seq (.reg [Ag 33 2 2,Am 34 8,Au 35 (.call L0d [.t 33,.t 34]),Am 32 35,Ax1 36 0 32,Ax1 37 1 32,Ax1 38 2 32,Ax1 39 3 32,Au 9 (.alloc [(.i .i64 0),(.i .i64 0),(.i .i64 0)]),Au 10 (.alloc [(.i .i64 0),(.i .i64 0),(.i .i64 0)]),Au 11 (.alloc [(.i .i64 0),(.i .i64 0),(.i .i64 0)]),As 3 9 36,As 3 10 37,As 3 11 38,Am 12 39]) (.seq (.reg [Ag 41 3 9,Ag 42 3 10,Ag 43 3 11,Au 44 (.build [(.i .i64 0),(.i .i64 0),(.i .i64 0),(.i .i64 0),(.i .i64 0),(.i .i64 0),(.i .i64 0),(.i .i64 0),(.i .i64 0)] [(0,3,(.t 41)),(3,3,(.t 42)),(6,3,(.t 43))]),Am 45 1,
 Au 46 (.call L1j [.t 44,.t 45]),Am 40 46,Ax1 47 0 40,Ax1 48 1 40,Au 13 (.alloc [(.i .i64 0),(.i .i64 0),(.i .i64 0),(.i .i64 0)]),As 4 13 47,Am 14 48]) (.seq (.reg [Am 49 14]) (.ite (.t 49) (.reg [Am 50 7,Ag 51 4 13,Au 52 (.bsi 4 1 [(.i .i64 0),(.i .i64 0),(.i .i64 0),(.i .i64 0)] [(0,(.t 51))]),Au 53 (.app 4 32 (.t 50) (.t 52)),Am 7 53]) .skip)))))) (.reg [Ad 54 29 1,Am 29 54]))))))) (.seq (.reg [Am 55 7,Am 4 55,Ac 5 0]) .ret))))))
def L1g.r:List Rr:=[.tmp 4,.tmp 5]
abbrev L1g.n:Nat:=56
theorem Qds {x y A B:Int} (h1:-A<=x) (h2:x<=A) (h3:-B<=y) (h4:y<=B):-(A*B)<=x*y/\x*y<=A*B:=by
 have hA:0<=A:=by omega
 have hB:0<=B:=by omega
 have h5:=Nat.mul_le_mul (show x.natAbs<=A.natAbs by omega) (show y.natAbs<=B.natAbs by omega)
 rw[<- Int.natAbs_mul,<- Int.natAbs_mul]at h5
 have h6:0<=A*B:=Int.mul_nonneg hA hB
 omega
def Q5u (c0 c1 z0 z1 z:Int):Int:=c0+rnd ((c1-c0)*(2*z+1-2*z0)) (2*(z1-z0))
def Qqf (P:Program) (f:FuncId):Prop:=∀c0 c1 z0 z1 z:Int,-65536<=c0->c0<=65536->-65536<=c1->c1<=65536->-65536<=z0->z1<=65536->z0<=z->z<z1 ->
 CallIs P f [.i .i64 c0,.i .i64 c1,.i .i64 z0,.i .i64 z1,.i .i64 z] (.i .i64 (Q5u c0 c1 z0 z1 z))
def point (a b:V3) (z:Int):Option (Int × Int) :=
 if a.valid=true/\b.valid=true/\a.z<=z/\z<b.z then some (Q5u a.x b.x a.z b.z z,Q5u a.y b.y a.z b.z z) else none
def ptR:Option (Int × Int)->V
 | none=>.t [.a [.i .i64 0,.i .i64 0],.b false]
 | some p=>.t [.a [.i .i64 p.1,.i .i64 p.2],.b true]
def Qf7 (P:Program) (f:FuncId):Prop:=∀(a b:V3) (z:Int),CallIs P f [a.enc,b.enc,.i .i64 z] (ptR (point a b z))
theorem crs_rnd {a b:Int} (h1:-34359738368<=a) (h2:a<=34359738368) (h3:0<b):-34359738369<=rnd a b/\rnd a b<=34359738369:=by
 unfold rnd
 have h4:=Int.mul_ediv_add_emod (2*a+b) (2*b)
 have h5:=Int.emod_nonneg (2*a+b) (show 2*b≠0 by omega)
 have h6:=Int.emod_lt_of_pos (2*a+b) (show 0<2*b by omega)
 generalize (2*a+b) / (2*b)=q at h4 ⊢
 generalize (2*a+b) % (2*b)=r at *
 have h7:2*b*q=2*(b*q):=Int.mul_assoc 2 b q
 constructor
 ·refine j9 λhh=>?_
  have:=jh (show q<=-34359738370 by omega) (show 0<=b by omega)
  omega
 ·refine j9 λhh=>?_
  have:=jh (show 34359738370<=q by omega) (show 0<=b by omega)
  omega
section
variable {P:Program} (hm:P.follows .mixedOrders=true)
include hm
theorem Bq {f fr:FuncId} (hf:Q9 P f (L1i.c fr) L1i.r L1i.n) (hr:Qf5 P fr):Qqf P f:=by
 intro c0 c1 z0 z1 z h1 h2 h3 h4 h5 h6 h7 h8
 refine PureC.is (Q8 hm hf (qj rfl) ?_) rfl
 unfold L1i.c
 have hp:=Qds (x:=c1-c0) (y:=2*z+1-2*z0) (A:=131072) (B:=262144) (by omega) (by omega) (by omega) (by omega)
 have hb:=crs_rnd (a:=(c1-c0)*(2*z+1-2*z0)) (b:=2*(z1-z0)) (by omega) (by omega) (by omega)
 simp (disch:=omega) [go_sem,Q3]
 refine Q5 (hr _ _ (by omega) (by omega) (by omega) (by omega)) ?_
 simp (disch:=omega) [go_sem,Q3,L1i.r,Q5u]
theorem Br {f fv fc:FuncId} (hf:Q9 P f (L1h.c fv fc) L1h.r L1h.n) (hv:I0 P fv) (hc:Qqf P fc):Qf7 P f:=by
 intro a b z
 refine PureC.is (Q8 hm hf (qj rfl) ?_) rfl
 unfold L1h.c
 simp[go_sem,V3.enc,vcs]
 refine Q5 (hv a) ?_
 simp +contextual -implicitDefEqProofs [go_sem]
 refine Gq_is' (r:=.b b.valid) (λhh=>?_) ?_
 ·have hh':a.valid=true:=by simpa using hh
  simp[go_sem,hh']
  exact hv b
 by_cases h:a.valid=true/\b.valid=true/\a.z<=z/\z<b.z
 ·obtain⟨h1,h2,h3,h4⟩:=h
  have g1:=V3.valid_iff.1 h1
  have g2:=V3.valid_iff.1 h2
  simp[go_sem,h1,h2,show ¬ z<a.z by omega,show ¬ b.z<=z by omega]
  refine Qn (hc _ _ _ _ _ (by omega) (by omega) (by omega) (by omega) (by omega) (by omega) (by omega) (by omega)) ?_
  simp[go_sem]
  refine Qn (hc _ _ _ _ _ (by omega) (by omega) (by omega) (by omega) (by omega) (by omega) (by omega) (by omega)) ?_
  simp[go_sem,L1h.r,point,h1,h2,h3,h4,ptR]
 ·have hn:point a b z=none:=by simp only[point,h,if_false]
  rw[hn]
  cases h1:a.valid
  ·simp[go_sem,L1h.r,ptR]
  ·cases h2:b.valid
   ·simp[go_sem,L1h.r,ptR]
   ·simp +contextual -implicitDefEqProofs [go_sem,L1h.r,ptR]
    exact λh3 h4=>absurd ⟨h1,h2,h3,h4⟩ h
end
structure Sg4 where
 a:Int × Int
 b:Int × Int
 found:Bool
def Sg4.init:Sg4:=⟨(0,0),(0,0),false⟩
def Sg4.step (z:Int) (s:Sg4) (u v:V3):Sg4 :=
 let s1:Sg4:=match point u v z with | some p=>⟨s.a,p,true⟩ | none=>s
 match point v u z with | some p=>⟨p,s1.b,s1.found⟩ | none=>s1
def Sg4.cs (s:Sg4):List V:=[.i .i64 s.a.1,.i .i64 s.a.2,.i .i64 s.b.1,.i .i64 s.b.2]
def Jl (z:Int) (a b c:V3):Nat->Sg4
 | 0=>.init
 | 1=>Sg4.init.step z a b
 | 2=>(Sg4.init.step z a b).step z b c
 | _=>((Sg4.init.step z a b).step z b c).step z c a
def Q5t (z:Int) (a b c:V3):Sg4:=Jl z a b c 3
def CutC (P:Program) (f:FuncId):Prop:=∀(a b c:V3) (z:Int),CallIs P f [.a (a.cs++b.cs++c.cs),.i .i64 z] (.t [.a (Q5t z a b c).cs,.b (Q5t z a b c).found])
section
variable {P:Program} (hm:P.follows .mixedOrders=true)
include hm
theorem Q32 {f fp:FuncId} (hf:Q9 P f (L1j.c fp) L1j.r L1j.n) (hp:Qf7 P fp):CutC P f:=by
 intro a b c z
 refine PureC.is (Q8 hm hf (qj rfl) ?_) rfl
 unfold L1j.c
 simp[go_sem,vcs]
 refine Qi (α:=Nat) (λk=>k<=3)
  (λk=>⟨[(1,.i .i64 z),(2,.p 0 1 0 0),(4,.p 1 1 0 0),(6,.p 2 1 0 0),(7,.b (Jl z a b c k).found),(15,.a (a.cs++b.cs++c.cs)),(16,.i .i64 k)],
   [.arr 1 9 [a.cs++b.cs++c.cs],.arr 1 4 [[.i .i64 0,.i .i64 0,.i .i64 0,.i .i64 0]],.arr 1 4 [(Jl z a b c k).cs]]⟩)
  (λk=>3-k) 0 (Nat.zero_le _) ?_ ?_
 ·simp[go_sem,vcs,Jl,Sg4.init,Sg4.cs]
 ·intro k hk
  obtain rfl | rfl | rfl | rfl:k=0∨k=1∨k=2∨k=3:=by omega
  ·have hs:Jl z a b c 1=(Jl z a b c 0).step z a b:=Rfl rfl
   generalize Jl z a b c 0=s at hs ⊢
   simp (disch:=omega) [go_sem,vcs,Sg4.cs,Q3]
   refine Q5 (hp a b z) ?_
   cases h1:point a b z<;>simp[go_sem,ptR]<;>refine Q5 (hp b a z) ?_<;>cases h2:point b a z<;>simp[go_sem,ptR] <;>
    simp (disch:=omega) [go_sem,Q3]<;>refine⟨1,by omega,by omega,?_⟩<;>rw[hs]<;>simp[go_sem,vcs,Sg4.cs,Sg4.step,h1,h2]
  ·have hs:Jl z a b c 2=(Jl z a b c 1).step z b c:=Rfl rfl
   generalize Jl z a b c 1=s at hs ⊢
   simp (disch:=omega) [go_sem,vcs,Sg4.cs,Q3]
   refine Q5 (hp b c z) ?_
   cases h1:point b c z<;>simp[go_sem,ptR]<;>refine Q5 (hp c b z) ?_<;>cases h2:point c b z<;>simp[go_sem,ptR] <;>
    simp (disch:=omega) [go_sem,Q3]<;>refine⟨2,by omega,by omega,?_⟩<;>rw[hs]<;>simp[go_sem,vcs,Sg4.cs,Sg4.step,h1,h2]
  ·have hs:Jl z a b c 3=(Jl z a b c 2).step z c a:=Rfl rfl
   generalize Jl z a b c 2=s at hs ⊢
   simp (disch:=omega) [go_sem,vcs,Sg4.cs,Q3]
   refine Q5 (hp c a z) ?_
   cases h1:point c a z<;>simp[go_sem,ptR]<;>refine Q5 (hp a c z) ?_<;>cases h2:point a c z<;>simp[go_sem,ptR] <;>
    simp (disch:=omega) [go_sem,Q3]<;>refine⟨3,by omega,by omega,?_⟩<;>rw[hs]<;>simp[go_sem,vcs,Sg4.cs,Sg4.step,h1,h2]
  ·simp[go_sem,vcs,Sg4.cs,L1j.r,Q5t]
end
end Go.Abs
