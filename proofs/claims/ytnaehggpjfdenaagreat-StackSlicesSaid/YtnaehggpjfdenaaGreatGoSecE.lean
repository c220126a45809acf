/- Part of the library on which the proof stands: an abstract machine, its values and its soundness against the model; or what functions of the program do to such values. -/
import Derived.Test.YtnaehggpjfdenaaGreatGoStB
import Derived.Test.YtnaehggpjfdenaaGreatGoHeap
import Derived.Test.YtnaehggpjfdenaaGreatAbsCP
import Derived.Test.YtnaehggpjfdenaaGreatGoRevC
set_option linter.unusedVariables false
set_option linter.unusedSimpArgs false
set_option maxHeartbeats 8000000
set_option maxRecDepth 20000
namespace Go.Abs
def Rn.ints (r:Rn):List Int:=[r.a,r.b]
def Rn.cs (r:Rn):List V:=[.i .i64 r.a,.i .i64 r.b]
def Q9 (l:List Rn):V:=.l 2 (l.map Rn.cs)
def Wi (out:List Rn) (r:Rn):List Rn :=
 match out.getLast? with
 | some q=>if r.a<=q.b then out.dropLast++[⟨q.a,max q.b r.b⟩] else out++[r]
 | none=>[r]
theorem Q4e (r:Rn):Wi [] r=[r]:=rfl
theorem Q4f (k:List Rn) (q r:Rn):Wi (k++[q]) r=if r.a<=q.b then k++[⟨q.a,max q.b r.b⟩] else k++[q]++[r]:=by
 unfold Wi;simp
theorem Qxf {out:List Rn} {r:Rn} (h:RnsV out) (hr:r.a<r.b) (hb:∀q∈out,q.a<=r.a):RnsV (Wi out r)/\(∀q∈Wi out r,q.a<=r.a)/\∀x,Qb (Wi out r) x↔Qb out x∨(r.a<=x/\x<r.b):=by
 rcases Zu out with rfl | ⟨k,q,rfl⟩
 ·rw[Q4e];exact⟨⟨by simpa using hr,by simp⟩,by simp,λx=>by simp[inRns_cons,Qj]⟩
 ·obtain⟨h1,h2,h3⟩:=RnsV.snoc.1 h;have hq:=hb q (by simp);rw[Q4f];by_cases he:r.a<=q.b
  ·rw[if_pos he];refine⟨RnsV.snoc.2 ⟨h1,by simp only[];omega,λs hs=>h3 s hs⟩,λs hs=>?_,λx=>?_⟩
   ·rcases qg.1 hs with hs | hs
    ·exact hb s (by simp[hs])
    ·rw[qn.1 hs];exact hq
   ·simp only[Yz,inRns_cons,Qj,or_false];by_cases hk:Qb k x<;>simp only[hk,true_or,false_or,or_true]<;>omega
  ·rw[if_neg he];refine⟨RnsV.snoc.2 ⟨h,hr,λs hs=>?_⟩,λs hs=>?_,λx=>?_⟩
   ·rcases qg.1 hs with hs | hs
    ·have:=h3 s hs;omega
    ·rw[qn.1 hs];omega
   ·rcases qg.1 hs with hs | hs
    ·exact hb s hs
    ·rw[qn.1 hs];exact Int.le_refl _
   ·simp only[Yz,inRns_cons,Qj,or_false]
def Js (l:List Rn):List Rn:=l.foldl Wi []
theorem Qjy:∀(xs:List Rn) {out:List Rn},RnsV out->(∀r∈xs,r.a<r.b)->xs.Pairwise (λr s=>r.a<=s.a)->(∀q∈out,∀r∈xs,q.a<=r.a) ->
  RnsV (xs.foldl Wi out)/\∀x,Qb (xs.foldl Wi out) x↔Qb out x∨Qb xs x
 | [],out,h,_,_,_=>⟨h,λx=>by simp[Qj]⟩
 | r::xs,out,h,hab,hp,hb=>by
   obtain⟨p1,p2⟩:=jd.1 hp;obtain⟨h1,h2,h3⟩:=Qxf h (hab r (by simp)) (λq hq=>hb q hq r (by simp));obtain⟨g1,g2⟩:=Qjy xs h1 (λs hs=>hab s (by simp[hs])) p2 (λq hq s hs=>by have:=h2 q hq;have:=p1 s hs;omega);refine⟨g1,λx=>?_⟩;rw[List.foldl_cons,g2,h3,inRns_cons,or_assoc]
theorem Qxg {xs:List Rn} (hab:∀r∈xs,r.a<r.b) (hp:xs.Pairwise λr s=>r.a<=s.a):RnsV (Js xs)/\∀x,Qb (Js xs) x↔Qb xs x:=by
 obtain⟨h1,h2⟩:=Qjy xs RnsV.nil hab hp (by simp);exact⟨h1,λx=>by unfold Js;rw[h2];simp[Qj]⟩
theorem Qmt (l:List Rn) (r:Rn):Js (l++[r])=Wi (Js l) r:=by simp[Js]
theorem Qs8:∀(l:List Rn),(Js l).length<=l.length:=by
 intro l;have key:∀(xs out:List Rn),(xs.foldl Wi out).length<=out.length+xs.length:=by
  intro xs
  induction xs with
  | nil=>intro out;simp
  | cons r xs ih =>
    intro out;have h1:(Wi out r).length<=out.length+1:=by
     rcases Zu out with rfl | ⟨k,q,rfl⟩
     ·simp[Q4e]
     ·rw[Q4f];split<;>simp
    have:=ih (Wi out r);rw[List.foldl_cons,List.length_cons];omega
 simpa[Js]using key l []
def RnB (l:List Rn):Prop:=∀r∈l,(-1048576<=r.a/\r.a<=1048576)/\-1048576<=r.b/\r.b<=1048576
def Yk (l:List Rn):List Rn:=l.filter λr=>decide (r.a<r.b)
theorem Qxx (l:List Rn) (x:Int):Qb (Yk l) x↔Qb l x:=by
 unfold Yk Qb;constructor
 ·rintro⟨r,hr,h⟩;exact⟨r,(qu.1 hr).1,h⟩
 ·rintro⟨r,hr,h⟩;exact⟨r,qu.2 ⟨hr,by simp;omega⟩,h⟩
abbrev RnS:={ r:Rn // -1048576<=r.a/\r.a<=1048576 }
instance:Inhabited RnS:=⟨⟨⟨0,0⟩,⟨by decide,by decide⟩⟩⟩
def Qeo (a b:RnS):Int:=a.1.a-b.1.a
theorem Qsv:Go.Sort.SWO (ltC Qeo) where
 irrefl x:=by unfold ltC Qeo;simp
 trans x y z:=by unfold ltC Qeo;simp only[decide_eq_true_eq];omega
 ntrans x y z:=by unfold ltC Qeo;simp only[decide_eq_false_iff_not];omega
def Qo8 (P:Program) (f:FuncId):Prop:=∀l:List Rn,l.length<=100000->CallIs P f [Q9 l] (Q9 (Js l))
def Qi7 (P:Program) (f:FuncId):Prop:=∀r:Rn,(-1048576<=r.a/\r.a<=1048576)/\-1048576<=r.b/\r.b<=1048576->CallIs P f [.a r.cs] (.b true)
def Z1b (P:Program) (f:FuncId):Prop:=∀a b:Rn,(-1048576<=a.a/\a.a<=1048576)->(-1048576<=b.a/\b.a<=1048576)->CallIs P f [.a a.cs,.a b.cs] (.i .i64 (a.a-b.a))
def Z0p (P:Program) (f:FuncId):Prop:=∀l:List Rn,l.length<=100000->RnB l->∃k,RnsV k/\(∀x,Qb k x↔Qb l x)/\CallIs P f [Q9 l] (.t [Q9 k,.i .i64 0])
section
variable {P:Program} (hm:P.follows .mixedOrders=true)
include hm
theorem Qfp {f:FuncId} (hf:Q5 P f L3d.c L3d.r L3d.n):Qi7 P f:=by
 rintro r ⟨⟨h1,h2⟩,h3,h4⟩;refine PI hm hf ?_;unfold L3d.c;simp[go_sem,Rn.cs,h1,h2,h3,h4,L3d.r]
theorem Q8y {f:FuncId} (hf:Q5 P f L35.c L35.r L35.n):Z1b P f:=by
 rintro a b ⟨h1,h2⟩ ⟨h3,h4⟩;refine PI hm hf ?_;unfold L35.c;have hw:IntKind.i64.wrap (a.a-b.a)=a.a-b.a:=Q0 (by omega) (by omega);simp[go_sem,Rn.cs,hw,L35.r]
theorem Qfo {f:FuncId} (hf:Q5 P f L3e.c L3e.r L3e.n):Qo8 P f:=by
 intro l hl;refine PI hm hf ?_;unfold L3e.c;simp[go_sem,Q9];refine Qi [.t 3 2] (α:=Nat × Nat) (λp=>p.1<=l.length)
  (λp=>⟨[(3,.own 0 (p.2+1) 0 (Js (l.take p.1)).length),(7,Q9 l),(8,.i .i64 l.length),(9,.i .i64 p.1)],[.arr (p.2+1) 2 ((Js (l.take p.1)).map Rn.cs)]⟩)
  (λp=>l.length-p.1) (0,0) (Nat.zero_le _) ?_ ?_
 ·simp[go_sem,Q9,Js]
 ·rintro⟨k,g⟩ hk;simp only at hk ⊢;by_cases hkl:k=l.length
  ·subst hkl;rw[qi];have hd:∀x∈Js l,∀y∈x.cs,y.isD=true:=λx _ y hy=>by simp[Rn.cs]at hy;rcases hy with rfl | rfl<;>rfl
   simp[go_sem,Q9,L3e.r,qe];rw[if_pos hd];rfl
  ·have hlt:k<l.length:=by omega
   have hq:l[k]?=some l[k]:=q9 hlt;generalize l[k]=r at hq;obtain⟨_,hq'⟩:=q8.1 hq;have hs:Js (l.take (k+1))=Wi (Js (l.take k)) r:=by rw[List.take_add_one,hq];exact Qmt _ _
   have hlen:=Qs8 (l.take k);rw[qv]at hlen
   generalize Js (l.take k)=out at *
   rcases Zu out with rfl | ⟨o,q,rfl⟩
   ·rw[Q4e]at hs
    simp (disch:=omega) [go_sem,Q9,hlt,hq,hq',Rn.cs,Q0];exact⟨k+1,by omega,by omega,g+1,⟨⟨rfl,by rw[hs];rfl⟩,by omega⟩,rfl,by rw[hs];rfl⟩
   ·rw[Q4f]at hs
    have hol:o.length+1<=100000:=by simp at hlen;omega
    have hog:∀x:List V,(List.map Rn.cs o++[x])[o.length]?=some x:=λx=>by
     have:=qf (l₁:=List.map Rn.cs o) (l₂:=[x]) (i:=o.length) (by simp);rw[this];simp
    have hos:∀x y:List V,(List.map Rn.cs o++[x]).set o.length y=List.map Rn.cs o++[y]:=λx y=>by
     rw[jq _ _ (by simp)];simp
    have hot:List.take (o.length+1) (List.map Rn.cs o++[q.cs])=List.map Rn.cs o++[q.cs]:=qe (by simp);simp only[Rn.cs]at hot;by_cases hle:r.a<=q.b
    ·rw[if_pos hle]at hs
     simp (disch:=omega) [go_sem,Q9,hlt,hq,hq',hle,hog,hos,hot,Rn.cs,Q0];have hmx:(if q.b<r.b then r.b else q.b)=max q.b r.b:=by split<;>omega
     exact⟨k+1,by omega,by omega,g,⟨⟨rfl,by rw[hs];simp⟩,by omega⟩,rfl,by rw[hs,hmx];simp[Rn.cs]⟩
    ·rw[if_neg hle]at hs
     simp (disch:=omega) [go_sem,Q9,hlt,hq,hq',hle,hog,hos,hot,Rn.cs,Q0];exact⟨⟨by omega,by omega⟩,k+1,by omega,by omega,g+1,⟨⟨rfl,by rw[hs];simp⟩,by omega⟩,rfl,by rw[hs];simp[Rn.cs]⟩
omit hm in
theorem Ep (l:List Rn):∀x∈l,∀y∈x.cs,y.isD=true:=λx _ y hy=>by simp[Rn.cs]at hy;rcases hy with rfl | rfl<;>rfl
omit hm in
theorem Q59 (l:List Rn) (n:Nat):∀x∈l,∀y∈x.cs,y.cl n=true:=λx hx y hy=>K4 n (Ep l x hx y hy)
theorem Qfq {f ff fs fc fj:FuncId} (hf:Q5 P f (L34.c ff fs fc fj) L34.r L34.n) (hfit:Qi7 P ff) (hs:Ic P fs 2) (hc:Z1b P fc) (hcal:Qx P fc=true) (hj:Qo8 P fj):Z0p P f:=by
 intro l hl hB;have hfB:∀r∈Yk l,-1048576<=r.a/\r.a<=1048576:=λr hr=>(hB r (qu.1 hr).1).1
 have hfl:(Yk l).length<=l.length:=jc _ _;obtain⟨ys,hperm,hup,hcall⟩:=hs (λr:RnS=>r.1.ints) (λ_=>rfl) Qeo Qsv fc hcal (λa b=>hc a.1 b.1 a.2 b.2) ((Yk l).pmap Subtype.mk hfB) (by rw[List.length_pmap];omega);have hxs:((Yk l).pmap Subtype.mk hfB).map Subtype.val=Yk l:=by rw[List.map_pmap];simp
 have hp2:=hperm.map Subtype.val;rw[hxs]at hp2
 have hfull:∀r∈ys.map Subtype.val,r.a<r.b:=λr hr=>by
  have:=(qu.1 (hp2.mem_iff.1 hr)).2;simpa using this
 have hsort:(ys.map Subtype.val).Pairwise λr s:Rn=>r.a<=s.a:=by
  rw[ji];refine hup.imp λ{a b} h=>?_
  unfold ltC Qeo at h;simp only[decide_eq_false_iff_not]at h;omega
 obtain⟨j1,j2⟩:=Qxg hfull hsort;have hyl:(ys.map Subtype.val).length=(Yk l).length:=hp2.length_eq;have hjc:=hj (ys.map Subtype.val) (by omega);refine⟨Js (ys.map Subtype.val),j1,λx=>?_,?_⟩
 ·rw[j2,<- Qxx l];unfold Qb;constructor
  ·rintro⟨r,hr,h⟩;exact⟨r,hp2.mem_iff.1 hr,h⟩
  ·rintro⟨r,hr,h⟩;exact⟨r,hp2.mem_iff.2 hr,h⟩
 have hyy:ys.map (λx:RnS=>x.1.ints.map (V.i .i64))=(ys.map Subtype.val).map Rn.cs:=by rw[List.map_map];rfl
 have hxx:((Yk l).pmap Subtype.mk hfB).map (λx:RnS=>x.1.ints.map (V.i .i64))=(Yk l).map Rn.cs:=by
  conv=>rhs;rw[<- hxs]
  rw[List.map_map];rfl
 rw[hyy,hxx]at hcall
 rw[List.length_pmap]at hcall
 generalize ys.map Subtype.val=zs at *
 clear hup hperm;refine PI hm hf ?_;unfold L34.c;simp[go_sem,Q9];refine Qi [.t 4 2] (α:=Nat) (λk=>k<=l.length)
  (λk=>⟨[(4,.own 0 ((Yk (l.take k)).length+1) 0 (Yk (l.take k)).length),(7,Q9 l),(8,.i .i64 l.length),(9,.i .i64 k)],[.arr ((Yk (l.take k)).length+1) 2 ((Yk (l.take k)).map Rn.cs)]⟩)
  (λk=>l.length-k) 0 (Nat.zero_le _) ?_ ?_
 ·simp[go_sem,Q9,Yk]
 ·intro k hk;by_cases hkl:k=l.length
  ·subst hkl;rw[qi];simp[go_sem,Q9];refine Qt (hcall _ 0 _ rfl) ?_;simp[go_sem];refine Y8 (vs:=[Q9 zs]) ?_ hjc ?_
   ·have hd:=Ep zs;have ht:List.take (Yk l).length (zs.map Rn.cs)=zs.map Rn.cs:=qe (by rw[List.length_map];omega);simp[go_sem,Zh,frz,Ys,Q9,hyl,ht];rw[if_pos hd];rfl
   ·simp[go_sem,Q9,L34.r]
  ·have hlt:k<l.length:=by omega
   have hq:l[k]?=some l[k]:=q9 hlt;generalize l[k]=r at hq;obtain⟨_,hq'⟩:=q8.1 hq;have hrB:=hB r (qb hq);have hft:=hfit r hrB;have hfs:Yk (l.take (k+1))=Yk (l.take k)++(if r.a<r.b then [r] else []):=by
    unfold Yk;rw[List.take_add_one,hq];simp only[Option.toList_some,List.filter_append,List.filter_cons,List.filter_nil];split<;>simp_all
   have hfk:(Yk (l.take k)).length<=k:=by
    have:=jc (λr:Rn=>decide (r.a<r.b)) (l.take k);rw[qv]at this
    unfold Yk;omega
   have htk:List.take (Yk (l.take k)).length ((Yk (l.take k)).map Rn.cs)=(Yk (l.take k)).map Rn.cs:=qe (by simp);have hcl:=Q59 (Yk (l.take k));by_cases hab:r.a<r.b
   ·rw[if_pos hab]at hfs
    simp (disch:=omega) [go_sem,Q9,hlt,hq,hq',Rn.cs,show ¬ r.b<=r.a by omega];refine Q2 hft ?_;simp (disch:=omega) [go_sem,Q9,Rn.cs,htk,Q0];exact⟨⟨by omega,by omega⟩,k+1,by omega,by omega,⟨by rw[hfs];simp,by omega⟩,by rw[hfs];simp,by rw[hfs];simp[Rn.cs]⟩
   ·rw[if_neg hab,List.append_nil]at hfs
    simp (disch:=omega) [go_sem,Q9,hlt,hq,hq',Rn.cs,show r.b<=r.a by omega,Q0];exact⟨k+1,by omega,by omega,⟨by rw[hfs],by omega⟩,by rw[hfs],by rw[hfs]⟩
end
def L3i.c (L0i:FuncId):C :=(Bs [Ac 10 0] (Bs [Am 14 1,Am 15 0,Aj .sub 16 14 15,Am 17 4,Au 18 (.bin .mul (.c (.i .i64 2)) (.t 17)),Ad 19 18 1,Am 20 2,Au 21 (.bin .mul (.c (.i .i64 2)) (.t 20)),Aj .sub 22 19 21,Aj .mul 23 16 22,Am 24 3,Am 25 2,Aj .sub 26 24 25,Au 27 (.bin .mul (.c (.i .i64 2)) (.t 26)),Au 28 (.call L0i [.t 23,.t 27]),Am 13 28,Ax1 29 0 13,Ax1 30 1 13,Am 11 29,Am 12 30] (Bs [Am 31 0,Am 32 11,Aj .add 33 31 32,Am 10 33] .ret)))
def L3i.r:List Rr:=[.tmp 10]
abbrev L3i.n:Nat:=34
def L3h.c (L4d L3i:FuncId):C :=(Bs [Au 3 (.box (.t 0)),Au 4 (.box (.t 1)),Au 6 (.alloc [(.i .i64 0),(.i .i64 0)]),Ab 7 false] (.seq (Bs [Ag 8 3 3,Au 9 (.call L4d [.t 8]),Au 10 (.un .not (.t 9)),Am 11 10,Aw 12 11 (.ld (some 3) (.t 4)),Aw 13 11 (.call L4d [.t 12]),Aw 14 11 (.un .not (.t 13)),Ao 15 11 14,Am 16 15,Aw 17 16 (.fa 2 (.t 3)),Aw 18 16 (.ld none (.t 17)),Aw 19 16 (.mv (.t 2)),Aw 20 16 (.bin .gtr (.t 18) (.t 19)),Ao 21 16 20,Am 22 21,Aw 23 22 (.mv (.t 2)),Aw 24 22 (.fa 2 (.t 4)),Aw 25 22 (.ld none (.t 24)),Aw 26 22 (.bin .geq (.t 23) (.t 25)),Ao 27 22 26] (.ite (.t 27) (Bs [Au 28 (.build [(.i .i64 0),(.i .i64 0)] []),
 As 2 6 28,Ab 7 false] .ret) .skip)) (.seq (.drw [Af 29 0 3,Al 30 29,Af 31 0 4,Al 32 31,Af 33 2 3,Al 34 33,Af 35 2 4,Al 36 35,Am 37 2,Au 38 (.call L3i [.t 30,.t 32,.t 34,.t 36,.t 37]),Af 39 1 3,Al 40 39,Af 41 1 4,Al 42 41,Af 43 2 3,Al 44 43,Af 45 2 4,Al 46 45,Am 47 2,Au 48 (.call L3i [.t 40,.t 42,.t 44,.t 46,.t 47]),Au 49 (.build [(.i .i64 0),(.i .i64 0)] [(0,1,(.t 38)),(1,1,(.t 48))]),As 2 6 49,Ab 7 true] [[],[],[],[],[],[],[],[],[],[],[9],[9],[9],[9],[9],[9],[9],[9],[],[],[],[],[]]) .ret)))
def L3h.r:List Rr:=[.cell 6 (some 2),.tmp 7]
abbrev L3h.n:Nat:=50
def L3j.c (L3h:FuncId):C :=(Bs [Au 2 (.box (.t 0)),Au 4 (.alloc [(.i .i64 0),(.i .i64 0),(.i .i64 0),(.i .i64 0)]),Ab 5 false] (Bs [Au 6 (.alloc [(.i .i64 0),(.i .i64 0),(.i .i64 0),(.i .i64 0)])] (Bs [Ab 7 false] (.seq (Bs [Ag 15 9 2,Ac 16 0] (.blk 0 (.loop (Bs [Ak .lss 17 16 3] (.seq (.ite (.t 17) .skip (.exit 0)) (.seq (.blk 1 (Bs [Am 18 16,Au 19 (.ix 3 3 (some 3) (.t 15) (.t 16)),Au 9 (.alloc [(.i .i64 0),(.i .i64 0),(.i .i64 0)]),Am 8 18,As 3 9 19] (Bs [Am 20 8,Ad 21 20 1,Ak .rem 22 21 3,Au 23 (.iaa 3 3 (.t 2) (.t 22)),Ag 24 3 23,Au 10 (.alloc [(.i .i64 0),(.i .i64 0),(.i .i64 0)]),As 3 10 24]
 (.seq (Bs [Ag 26 3 9,Ag 27 3 10,Am 28 1,Au 29 (.call L3h [.t 26,.t 27,.t 28]),Am 25 29,Ax1 30 0 25,Ax1 31 1 25,Au 11 (.alloc [(.i .i64 0),(.i .i64 0)]),As 2 11 30,Am 12 31] (Bs [Am 32 12] (.ite (.t 32) (.reg [Ag 33 2 11,Af 34 2 6,As 2 34 33,Ab 7 true]) .skip))) (Bs [Ag 36 3 10,Ag 37 3 9,Am 38 1,Au 39 (.call L3h [.t 36,.t 37,.t 38]),Am 35 39,Ax1 40 0 35,Ax1 41 1 35,Au 13 (.alloc [(.i .i64 0),(.i .i64 0)]),As 2 13 40,Am 14 41] (Bs [Am 42 14] (.ite (.t 42) (.reg [Ag 43 2 13,Af 44 0 6,As 2 44 43]) .skip))))))) (.reg [Ad 45 16 1,Am 16 45]))))))) (Bs [Ag 46 4 6,Am 47 7,As 4 4 46,Am 5 47] .ret)))))
def L3j.r:List Rr:=[.cell 4 (some 4),.tmp 5]
abbrev L3j.n:Nat:=48
def L3g.c (L0e L0f L3j:FuncId):C :=(Bs [Au 2 (.box (.t 0)),Az 4,Ac 5 0] (.seq (Bs [Ag 15 2 2,Au 16 (.call L0e [.t 15]),Am 6 16] (Bs [Am 17 6,Ak .neq 18 17 0] (.ite (.t 18) (Bs [Am 19 6,Az 4,Am 5 19] .ret) .skip))) (.seq (Bs [Am 20 1,Ak .lss 21 20 (-65536),Am 22 21,Aw 23 22 (.mv (.t 1)),Aw 24 22 (.bin .gtr (.t 23) (.c (.i .i64 65536))),Ao 25 22 24] (.ite (.t 25) (Bs [Az 4,Ac 5 8] .ret) .skip)) (Bs [Az 7] (.seq (Bs [Af 26 1 2,Al 27 26,An 28 0 27,Ac 29 0] (.blk 0 (.loop (Bs [Aj .lss 30 29 28] (.seq (.ite (.t 30) .skip (.exit 0)) (.seq (.blk 1 (Bs [Am 31 29,Am 8 31] (Bs [Ag 33 2 2,Am 34 8,Au 35 (.call L0f [.t 33,.t 34]),
 Am 32 35,Ax1 36 0 32,Ax1 37 1 32,Ax1 38 2 32,Ax1 39 3 32,Au 9 (.alloc [(.i .i64 0),(.i .i64 0),(.i .i64 0)]),Au 10 (.alloc [(.i .i64 0),(.i .i64 0),(.i .i64 0)]),Au 11 (.alloc [(.i .i64 0),(.i .i64 0),(.i .i64 0)]),As 3 9 36,As 3 10 37,As 3 11 38,Am 12 39] (Bs [Ag 41 3 9,Ag 42 3 10,Ag 43 3 11,Au 44 (.build [(.i .i64 0),(.i .i64 0),(.i .i64 0),(.i .i64 0),(.i .i64 0),(.i .i64 0),(.i .i64 0),(.i .i64 0),(.i .i64 0)] [(0,3,(.t 41)),(3,3,(.t 42)),(6,3,(.t 43))]),Am 45 1,Au 46 (.call L3j [.t 44,.t 45]),Am 40 46,Ax1 47 0 40,Ax1 48 1 40,Au 13 (.alloc [(.i .i64 0),(.i .i64 0),(.i .i64 0),(.i .i64 0)]),
 As 4 13 47,Am 14 48] (Bs [Am 49 14] (.ite (.t 49) (.reg [Am 50 7,Ag 51 4 13,Au 52 (.bsi 4 1 [(.i .i64 0),(.i .i64 0),(.i .i64 0),(.i .i64 0)] [(0,(.t 51))]),Au 53 (.app 4 32 (.t 50) (.t 52)),Am 7 53]) .skip)))))) (.reg [Ad 54 29 1,Am 29 54]))))))) (Bs [Am 55 7,Am 4 55,Ac 5 0] .ret))))))
def L3g.r:List Rr:=[.tmp 4,.tmp 5]
abbrev L3g.n:Nat:=56
def L1x.c:C :=(Bs [Ac 4 0] (Bs [Am 8 0,Au 9 (.bin .mul (.c (.i .i64 2)) (.t 8)),Am 10 1,Aj .add 11 9 10,Am 12 1,Au 13 (.bin .mul (.c (.i .i64 2)) (.t 12)),Am 5 11,Am 6 13] (Bs [Am 14 5,Am 15 6,Aj .quo 16 14 15,Am 7 16] (.seq (Bs [Am 17 5,Am 18 6,Aj .rem 19 17 18,Ak .lss 20 19 0] (.ite (.t 20) (.reg [Am 21 7,Ak .sub 22 21 1,Am 7 22]) .skip)) (Bs [Am 23 7,Am 4 23] .ret)))))
def L1x.r:List Rr:=[.tmp 4]
abbrev L1x.n:Nat:=24
def L1w.c (L12 L1x:FuncId):C :=(Bs [Au 3 (.box (.t 0)),Au 4 (.box (.t 1)),Au 6 (.alloc [(.i .i64 0),(.i .i64 0)]),Ab 7 false] (.seq (Bs [Ag 10 3 3,Au 11 (.call L12 [.t 10]),Au 12 (.un .not (.t 11)),Am 13 12,Aw 14 13 (.ld (some 3) (.t 4)),Aw 15 13 (.call L12 [.t 14]),Aw 16 13 (.un .not (.t 15)),Ao 17 13 16,Am 18 17,Aw 19 18 (.fa 2 (.t 3)),Aw 20 18 (.ld none (.t 19)),Aw 21 18 (.mv (.t 2)),Aw 22 18 (.bin .gtr (.t 20) (.t 21)),Ao 23 18 22,Am 24 23,Aw 25 24 (.mv (.t 2)),Aw 26 24 (.fa 2 (.t 4)),Aw 27 24 (.ld none (.t 26)),Aw 28 24 (.bin .geq (.t 25) (.t 27)),Ao 29 24 28] (.ite (.t 29) (Bs [Au 30 (.build [(.i .i64 0),(.i .i64 0)] []),
 As 2 6 30,Ab 7 false] .ret) .skip)) (.seq (.drw [Am 31 2,Au 32 (.bin .mul (.c (.i .i64 2)) (.t 31)),Ad 33 32 1,Af 34 2 3,Al 35 34,Au 36 (.bin .mul (.c (.i .i64 2)) (.t 35)),Aj .sub 37 33 36,Af 38 2 4,Al 39 38,Af 40 2 3,Al 41 40,Aj .sub 42 39 41,Au 43 (.bin .mul (.c (.i .i64 2)) (.t 42)),Am 8 37,Am 9 43] []) (.seq (.drw [Af 44 0 3,Al 45 44,Af 46 0 4,Al 47 46,Af 48 0 3,Al 49 48,Aj .sub 50 47 49,Am 51 8,Aj .mul 52 50 51,Am 53 9,Au 54 (.call L1x [.t 52,.t 53]),Aj .add 55 45 54,Af 56 1 3,Al 57 56,Af 58 1 4,Al 59 58,Af 60 1 3,Al 61 60,Aj .sub 62 59 61,Am 63 8,Aj .mul 64 62 63,Am 65 9,Au 66 (.call L1x [.t 64,.t 65]),
 Aj .add 67 57 66,Au 68 (.build [(.i .i64 0),(.i .i64 0)] [(0,1,(.t 55)),(1,1,(.t 67))]),As 2 6 68,Ab 7 true] [[],[],[],[],[],[],[],[],[],[],[0,1],[],[10],[10],[10],[10],[10],[10],[],[],[],[],[0,1,12,13],[],[],[],[]]) .ret))))
def L1w.r:List Rr:=[.cell 6 (some 2),.tmp 7]
abbrev L1w.n:Nat:=69
def L1v.c (L18 L1w:FuncId):C :=(Bs [Au 2 (.box (.t 0)),Az 4,Ac 5 0] (.seq (Bs [Ag 17 2 2,Au 18 (.call L18 [.t 17]),Am 6 18] (Bs [Am 19 6,Ak .neq 20 19 0] (.ite (.t 20) (Bs [Am 21 6,Az 4,Am 5 21] .ret) .skip))) (.seq (Bs [Am 22 1,Ak .lss 23 22 (-65536),Am 24 23,Aw 25 24 (.mv (.t 1)),Aw 26 24 (.bin .gtr (.t 25) (.c (.i .i64 65536))),Ao 27 24 26] (.ite (.t 27) (Bs [Az 4,Ac 5 8] .ret) .skip)) (Bs [Az 7] (.seq (Bs [Ac 8 0] (.blk 0 (.loop (.seq (Bs [Am 28 8,Af 29 1 2,Al 30 29,An 31 0 30,Aj .lss 32 28 31] (.ite (.t 32) .skip (.exit 0))) (.seq (.blk 1 (.seq (.drw [Af 35 0 2,Al 36 35,Af 37 1 2,Al 38 37,
 Am 39 8,Ai 40 3 38 39,Af 41 0 40,Al 42 41,Ai 43 3 36 42,Ag 44 3 43,Af 45 0 2,Al 46 45,Af 47 1 2,Al 48 47,Am 49 8,Ai 50 3 48 49,Af 51 1 50,Al 52 51,Ai 53 3 46 52,Ag 54 3 53,Af 55 0 2,Al 56 55,Af 57 1 2,Al 58 57,Am 59 8,Ai 60 3 58 59,Af 61 2 60,Al 62 61,Ai 63 3 56 62,Ag 64 3 63,Au 65 (.bso 3 3 [(.i .i64 0),(.i .i64 0),(.i .i64 0)] [(0,(.t 44)),(1,(.t 54)),(2,(.t 64))]),Am 9 65] []) (Bs [Au 10 (.alloc [(.i .i64 0),(.i .i64 0),(.i .i64 0),(.i .i64 0)])] (Bs [Ab 11 false] (.seq (Bs [Ac 12 0] (.blk 2 (.loop (.seq (Bs [Am 66 12,Ak .lss 67 66 3] (.ite (.t 67) .skip (.exit 2))) (.seq (.blk 3 (.seq (.seq
 (.drw [Am 71 9,Am 72 12,Ai 73 3 71 72,Ag 74 3 73,Am 75 9,Am 76 12,Ad 77 76 1,Ak .rem 78 77 3,Ai 79 3 75 78,Ag 80 3 79,Am 81 1,Au 82 (.call L1w [.t 74,.t 80,.t 81]),Am 70 82,Ax1 83 0 70,Ax1 84 1 70,Au 13 (.alloc [(.i .i64 0),(.i .i64 0)]),As 2 13 83,Am 14 84] []) (Bs [Am 85 14] (.ite (.t 85) (Bs [Ag 86 2 13,Af 87 2 10,As 2 87 86] (.reg [Ab 11 true])) .skip))) (.seq (.drw [Am 89 9,Am 90 12,Ad 91 90 1,Ak .rem 92 91 3,Ai 93 3 89 92,Ag 94 3 93,Am 95 9,Am 96 12,Ai 97 3 95 96,Ag 98 3 97,Am 99 1,Au 100 (.call L1w [.t 94,.t 98,.t 99]),Am 88 100,Ax1 101 0 88,Ax1 102 1 88,Au 15 (.alloc [(.i .i64 0),(.i .i64 0)]),
 As 2 15 101,Am 16 102] []) (Bs [Am 103 16] (.ite (.t 103) (.reg [Ag 104 2 15,Af 105 0 10,As 2 105 104]) .skip))))) (.reg [Am 68 12,Ad 69 68 1,Am 12 69])))))) (Bs [Am 106 11] (.ite (.t 106) (.reg [Am 107 7,Ag 108 4 10,Au 109 (.bsi 4 1 [(.i .i64 0),(.i .i64 0),(.i .i64 0),(.i .i64 0)] [(0,(.t 108))]),Au 110 (.app 4 32 (.t 107) (.t 109)),Am 7 110]) .skip))))))) (.reg [Am 33 8,Ad 34 33 1,Am 8 34])))))) (Bs [Am 111 7,Am 4 111,Ac 5 0] .ret))))))
def L1v.r:List Rr:=[.tmp 4,.tmp 5]
abbrev L1v.n:Nat:=112
theorem Qgn {x y A B:Int} (h1:-A<=x) (h2:x<=A) (h3:-B<=y) (h4:y<=B):-(A*B)<=x*y/\x*y<=A*B:=by
 have hA:0<=A:=by omega
 have hB:0<=B:=by omega
 have h5:=Nat.mul_le_mul (show x.natAbs<=A.natAbs by omega) (show y.natAbs<=B.natAbs by omega);rw[<- Int.natAbs_mul,<- Int.natAbs_mul]at h5
 have h6:0<=A*B:=Int.mul_nonneg hA hB;omega
def Qbc (c0 c1 z0 z1 z:Int):Int:=c0+rnd ((c1-c0)*(2*z+1-2*z0)) (2*(z1-z0))
def Z19 (P:Program) (f:FuncId):Prop:=∀c0 c1 z0 z1 z:Int,-65536<=c0->c0<=65536->-65536<=c1->c1<=65536->-65536<=z0->z1<=65536->z0<=z->z<z1 ->
 CallIs P f [.i .i64 c0,.i .i64 c1,.i .i64 z0,.i .i64 z1,.i .i64 z] (.i .i64 (Qbc c0 c1 z0 z1 z))
def point (a b:V3) (z:Int):Option (Int × Int) :=
 if a.valid=true/\b.valid=true/\a.z<=z/\z<b.z then some (Qbc a.x b.x a.z b.z z,Qbc a.y b.y a.z b.z z) else none
def ptR:Option (Int × Int)->V
 | none=>.t [.a [.i .i64 0,.i .i64 0],.b false]
 | some p=>.t [.a [.i .i64 p.1,.i .i64 p.2],.b true]
def Q51 (P:Program) (f:FuncId):Prop:=∀(a b:V3) (z:Int),CallIs P f [a.enc,b.enc,.i .i64 z] (ptR (point a b z))
theorem Q81 {a b:Int} (h1:-34359738368<=a) (h2:a<=34359738368) (h3:0<b):-34359738369<=rnd a b/\rnd a b<=34359738369:=by
 unfold rnd;have h4:=Int.mul_ediv_add_emod (2*a+b) (2*b);have h5:=Int.emod_nonneg (2*a+b) (show 2*b≠0 by omega);have h6:=Int.emod_lt_of_pos (2*a+b) (show 0<2*b by omega);generalize (2*a+b) / (2*b)=q at h4 ⊢;generalize (2*a+b) % (2*b)=r at *
 have h7:2*b*q=2*(b*q):=Int.mul_assoc 2 b q;constructor
 ·refine jb λhh=>?_
  have:=jm (show q<=-34359738370 by omega) (show 0<=b by omega);omega
 ·refine jb λhh=>?_
  have:=jm (show 34359738370<=q by omega) (show 0<=b by omega);omega
theorem Q92 {a b:Int} (hb:0<b):(2*a+b).tdiv (2*b)-(if (2*a+b).tmod (2*b)<0 then 1 else 0)=rnd a b:=by
 unfold rnd;have h1:=Int.mul_tdiv_add_tmod (2*a+b) (2*b);have h2:=Int.tmod_lt_of_pos (2*a+b) (show 0<2*b by omega);have h3:-(2*b)<(2*a+b).tmod (2*b):=by
  have h8:((2*a+b).tmod (2*b)).natAbs=(2*a+b).natAbs % (2*b).natAbs:=Int.natAbs_tmod _ _;have:=Nat.mod_lt (2*a+b).natAbs (show 0<(2*b).natAbs by omega);omega
 generalize (2*a+b).tdiv (2*b)=q at *
 generalize (2*a+b).tmod (2*b)=r at *
 split
 ·refine ((Int.ediv_emod_unique (show 0<2*b by omega) (q:=q-1) (r:=2*b+r)).2 ⟨?_,by omega,by omega⟩).1.symm;rw[Int.mul_sub];omega
 ·rw[Int.sub_zero];refine ((Int.ediv_emod_unique (show 0<2*b by omega) (q:=q) (r:=r)).2 ⟨?_,by omega,by omega⟩).1.symm;omega
section
variable {P:Program} (hm:P.follows .mixedOrders=true)
include hm
theorem Q3c {f fr:FuncId} (hf:Q5 P f (L3i.c fr) L3i.r L3i.n) (hr:Qo2 P fr):Z19 P f:=by
 intro c0 c1 z0 z1 z h1 h2 h3 h4 h5 h6 h7 h8;refine PI hm hf ?_;unfold L3i.c;have hp:=Qgn (x:=c1-c0) (y:=2*z+1-2*z0) (A:=131072) (B:=262144) (by omega) (by omega) (by omega) (by omega);have hb:=Q81 (a:=(c1-c0)*(2*z+1-2*z0)) (b:=2*(z1-z0)) (by omega) (by omega) (by omega);simp (disch:=omega) [go_sem,Q0];refine Q2 (hr _ _ (by omega) (by omega) (by omega) (by omega)) ?_
 simp (disch:=omega) [go_sem,Q0,L3i.r,Qbc]
theorem Q3d {f fv fc:FuncId} (hf:Q5 P f (L3h.c fv fc) L3h.r L3h.n) (hv:Je P fv) (hc:Z19 P fc):Q51 P f:=by
 intro a b z;refine PI hm hf ?_;unfold L3h.c;simp[go_sem,V3.enc,vcs];refine Q2 (hv a) ?_;simp +contextual -implicitDefEqProofs [go_sem];refine Z0z (r:=.b b.valid) (λhh=>?_) ?_
 ·have hh':a.valid=true:=by simpa using hh
  simp[go_sem,hh'];exact hv b
 by_cases h:a.valid=true/\b.valid=true/\a.z<=z/\z<b.z
 ·obtain⟨h1,h2,h3,h4⟩:=h;have g1:=V3.valid_iff.1 h1;have g2:=V3.valid_iff.1 h2;simp[go_sem,h1,h2,show ¬ z<a.z by omega,show ¬ b.z<=z by omega];refine Qa (hc _ _ _ _ _ (by omega) (by omega) (by omega) (by omega) (by omega) (by omega) (by omega) (by omega)) ?_;simp[go_sem]
  refine Qa (hc _ _ _ _ _ (by omega) (by omega) (by omega) (by omega) (by omega) (by omega) (by omega) (by omega)) ?_;simp[go_sem,L3h.r,point,h1,h2,h3,h4,ptR]
 ·have hn:point a b z=none:=by simp only[point,h,if_false]
  rw[hn];cases h1:a.valid
  ·simp[go_sem,L3h.r,ptR]
  ·cases h2:b.valid
   ·simp[go_sem,L3h.r,ptR]
   ·simp +contextual -implicitDefEqProofs [go_sem,L3h.r,ptR];exact λh3 h4=>absurd ⟨h1,h2,h3,h4⟩ h
def Ql4 (P:Program) (f:FuncId):Prop:=∀a b:Int,-34359738368<=a->a<=34359738368->0<b->b<=1048576->CallIs P f [.i .i64 a,.i .i64 b] (.i .i64 (rnd a b))
theorem Q3m {f:FuncId} (hf:Q5 P f L1x.c L1x.r L1x.n):Ql4 P f:=by
 intro a b h1 h2 h3 h4;refine PI hm hf ?_;unfold L1x.c;have hq:-68719476736<=(2*a+b).tdiv (2*b)-1/\(2*a+b).tdiv (2*b)<=68720525312:=by
  have:=Int.natAbs_tdiv_le_natAbs (2*a+b) (2*b);constructor
  ·have h5:=Q81 h1 h2 h3;have h6:=Q92 (a:=a) h3;split at h6<;>omega
  ·omega
 rw[<- Q92 h3];have hz:¬ 2*b=0:=by omega
 simp (disch:=omega) [go_sem,Q0,hz,L1x.r];intro h;rw[if_neg (by omega),Int.sub_zero]
theorem Q9a {f fv fc:FuncId} (hf:Q5 P f (L1w.c fv fc) L1w.r L1w.n) (hv:Je P fv) (hc:Ql4 P fc):Q51 P f:=by
 intro a b z;refine PI hm hf ?_;unfold L1w.c;simp[go_sem,V3.enc,vcs];refine Q2 (hv a) ?_;simp +contextual -implicitDefEqProofs [go_sem];refine Z0z (r:=.b b.valid) (λhh=>?_) ?_
 ·have hh':a.valid=true:=by simpa using hh
  simp[go_sem,hh'];exact hv b
 by_cases h:a.valid=true/\b.valid=true/\a.z<=z/\z<b.z
 ·obtain⟨h1,h2,h3,h4⟩:=h;have g1:=V3.valid_iff.1 h1;have g2:=V3.valid_iff.1 h2;have hp:=Qgn (x:=b.x-a.x) (y:=2*z+1-2*a.z) (A:=131072) (B:=262144) (by omega) (by omega) (by omega) (by omega);have hb:=Q81 (a:=(b.x-a.x)*(2*z+1-2*a.z)) (b:=2*(b.z-a.z)) (by omega) (by omega) (by omega)
  have hp':=Qgn (x:=b.y-a.y) (y:=2*z+1-2*a.z) (A:=131072) (B:=262144) (by omega) (by omega) (by omega) (by omega);have hb':=Q81 (a:=(b.y-a.y)*(2*z+1-2*a.z)) (b:=2*(b.z-a.z)) (by omega) (by omega) (by omega);simp (disch:=omega) [go_sem,h1,h2,show ¬ z<a.z by omega,show ¬ b.z<=z by omega,Q0];refine Qa (hc _ _ (by omega) (by omega) (by omega) (by omega)) ?_
  simp (disch:=omega) [go_sem,Q0];refine Qa (hc _ _ (by omega) (by omega) (by omega) (by omega)) ?_;simp (disch:=omega) [go_sem,Q0,L1w.r,point,h1,h2,h3,h4,ptR,Qbc]
 ·have hn:point a b z=none:=by simp only[point,h,if_false]
  rw[hn];cases h1:a.valid
  ·simp[go_sem,L1w.r,ptR]
  ·cases h2:b.valid
   ·simp[go_sem,L1w.r,ptR]
   ·simp +contextual -implicitDefEqProofs [go_sem,L1w.r,ptR];exact λh3 h4=>absurd ⟨h1,h2,h3,h4⟩ h
end
structure Sg4 where
 a:Int × Int
 b:Int × Int
 found:Bool
def Sg4.init:Sg4:=⟨(0,0),(0,0),false⟩
def Sg4.step (z:Int) (s:Sg4) (u v:V3):Sg4 :=
 let s1:Sg4:=match point u v z with | some p=>⟨s.a,p,true⟩ | none=>s
 match point v u z with | some p=>⟨p,s1.b,s1.found⟩ | none=>s1
def Sg4.cs (s:Sg4):List V:=[.i .i64 s.a.1,.i .i64 s.a.2,.i .i64 s.b.1,.i .i64 s.b.2]
def Za (z:Int) (a b c:V3):Nat->Sg4
 | 0=>.init
 | 1=>Sg4.init.step z a b
 | 2=>(Sg4.init.step z a b).step z b c
 | _=>((Sg4.init.step z a b).step z b c).step z c a
def Qdg (z:Int) (a b c:V3):Sg4:=Za z a b c 3
def CutC (P:Program) (f:FuncId):Prop:=∀(a b c:V3) (z:Int),CallIs P f [.a (a.cs++b.cs++c.cs),.i .i64 z] (.t [.a (Qdg z a b c).cs,.b (Qdg z a b c).found])
section
variable {P:Program} (hm:P.follows .mixedOrders=true)
include hm
theorem Q8t {f fp:FuncId} (hf:Q5 P f (L3j.c fp) L3j.r L3j.n) (hp:Q51 P fp):CutC P f:=by
 intro a b c z;refine PI hm hf ?_;unfold L3j.c;simp[go_sem,vcs];refine Q8 (α:=Nat) (λk=>k<=3)
  (λk=>⟨[(1,.i .i64 z),(2,.p 0 1 0 0),(4,.p 1 1 0 0),(6,.p 2 1 0 0),(7,.b (Za z a b c k).found),(15,.a (a.cs++b.cs++c.cs)),(16,.i .i64 k)],
   [.arr 1 9 [a.cs++b.cs++c.cs],.arr 1 4 [[.i .i64 0,.i .i64 0,.i .i64 0,.i .i64 0]],.arr 1 4 [(Za z a b c k).cs]]⟩)
  (λk=>3-k) 0 (Nat.zero_le _) ?_ ?_
 ·simp[go_sem,vcs,Za,Sg4.init,Sg4.cs]
 ·intro k hk;obtain rfl | rfl | rfl | rfl:k=0∨k=1∨k=2∨k=3:=by omega
  ·have hs:Za z a b c 1=(Za z a b c 0).step z a b:=Rfl rfl;generalize Za z a b c 0=s at hs ⊢;simp (disch:=omega) [go_sem,vcs,Sg4.cs,Q0];refine Q2 (hp a b z) ?_;cases h1:point a b z<;>simp[go_sem,ptR]<;>refine Q2 (hp b a z) ?_<;>cases h2:point b a z<;>simp[go_sem,ptR] <;>
    simp (disch:=omega) [go_sem,Q0]<;>refine⟨1,by omega,by omega,?_⟩<;>rw[hs]<;>simp[go_sem,vcs,Sg4.cs,Sg4.step,h1,h2]
  ·have hs:Za z a b c 2=(Za z a b c 1).step z b c:=Rfl rfl;generalize Za z a b c 1=s at hs ⊢;simp (disch:=omega) [go_sem,vcs,Sg4.cs,Q0];refine Q2 (hp b c z) ?_;cases h1:point b c z<;>simp[go_sem,ptR]<;>refine Q2 (hp c b z) ?_<;>cases h2:point c b z<;>simp[go_sem,ptR] <;>
    simp (disch:=omega) [go_sem,Q0]<;>refine⟨2,by omega,by omega,?_⟩<;>rw[hs]<;>simp[go_sem,vcs,Sg4.cs,Sg4.step,h1,h2]
  ·have hs:Za z a b c 3=(Za z a b c 2).step z c a:=Rfl rfl;generalize Za z a b c 2=s at hs ⊢;simp (disch:=omega) [go_sem,vcs,Sg4.cs,Q0];refine Q2 (hp c a z) ?_;cases h1:point c a z<;>simp[go_sem,ptR]<;>refine Q2 (hp a c z) ?_<;>cases h2:point a c z<;>simp[go_sem,ptR] <;>
    simp (disch:=omega) [go_sem,Q0]<;>refine⟨3,by omega,by omega,?_⟩<;>rw[hs]<;>simp[go_sem,vcs,Sg4.cs,Sg4.step,h1,h2]
  ·simp[go_sem,vcs,Sg4.cs,L3j.r,Qdg]
end
instance:Inhabited V3:=⟨⟨0,0,0⟩⟩
def Mesh.v (m:Mesh) (i:Int):V3:=m.verts[i.toNat]?.getD ⟨0,0,0⟩
theorem Mesh.v_get {m:Mesh} {i:Int} (h1:i<m.verts.length) (h:i.toNat<m.verts.length):m.verts[i.toNat]=m.v i:=by simp[Mesh.v,h]
def zV3:V:=.a [.i .i64 0,.i .i64 0,.i .i64 0]
def Mesh.corners (m:Mesh) (i:Int):V :=
 if 0<=i/\i<m.tris.length/\m.check=0 then match m.tris[i.toNat]? with
  | some t=>.t [(m.v t.a).enc,(m.v t.b).enc,(m.v t.c).enc,.b true]
  | none=>.any
 else .t [zV3,zV3,zV3,.b false]
def Wd (P:Program) (f:FuncId):Prop:=∀(m:Mesh) (i:Int),CallIs P f [m.enc,.i .i64 i] (m.corners i)
def apS (t:Nat) (e:List (Nat × V)) (pre:List O) (d sz:Nat) (els:List (List V)):St :=
 if els=[] then ⟨(t,.nil)::e,pre⟩ else ⟨(t,.own (pre.length+d) els.length 0 els.length)::e,pre++List.replicate d .dead++[.arr els.length sz els]⟩
section
variable {P:Program} (hm:P.follows .mixedOrders=true)
include hm
theorem Q7h {f fc:FuncId} (hf:Q5 P f (L0f.c fc) L0f.r L0f.n) (hc:Y0 P fc):Wd P f:=by
 intro m i;refine PI hm hf ?_;unfold L0f.c;by_cases h:0<=i/\i<m.tris.length
 ·obtain⟨h0,h1⟩:=h;have hlt:i.toNat<m.tris.length:=by omega
  simp[go_sem,Mesh.enc,Mesh.cs,vsV,tsV,show ¬ i<0 by omega,show ¬ (m.tris.length:Int)<=i by omega];refine Q2 (hc m) ?_;by_cases hz:m.check=0
  ·obtain⟨z1,z2,z3,z4⟩:=Mesh.check_zero.1 hz;obtain⟨t,hp⟩:∃t,m.tris[i.toNat]?=some t:=⟨_,q9 hlt⟩
   obtain⟨hlt',hp'⟩:=q8.1 hp;obtain⟨t1,t2,t3,t4,t5,t6⟩:=T3.ok_iff.1 (Ei z4 hp);have ga:=Mesh.v_get t2 (by omega);have gb:=Mesh.v_get t4 (by omega);have gc:=Mesh.v_get t6 (by omega);have hr:m.corners i=.t [(m.v t.a).enc,(m.v t.b).enc,(m.v t.c).enc,.b true]:=by
    simp only[Mesh.corners,h0,h1,hz,and_self,if_true,hp]
   rw[hr];simp[go_sem,hz,h0,h1,hlt,hp',tcs,vcs,t1,t2,t3,t4,t5,t6,show t.a.toNat<m.verts.length by omega,show t.b.toNat<m.verts.length by omega,show t.c.toNat<m.verts.length by omega,ga,gb,gc,L0f.r,V3.enc]
  ·simp[go_sem,hz,L0f.r,Mesh.corners,zV3]
 ·have:i<0∨(m.tris.length:Int)<=i:=by omega
  have hr:m.corners i=.t [zV3,zV3,zV3,.b false]:=by
   unfold Mesh.corners;rw[if_neg (by omega)]
  rw[hr];by_cases h0:i<0
  ·simp[go_sem,Mesh.enc,Mesh.cs,vsV,tsV,h0,L0f.r,zV3]
  ·simp[go_sem,Mesh.enc,Mesh.cs,vsV,tsV,h0,show (m.tris.length:Int)<=i by omega,L0f.r,zV3]
end
end Go.Abs
