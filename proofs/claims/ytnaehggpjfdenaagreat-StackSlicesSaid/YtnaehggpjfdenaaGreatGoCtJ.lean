/- Part of the library on which the proof stands: an abstract machine, its values and its soundness against the model; or what functions of the program do to such values. -/
import Derived.Test.YtnaehggpjfdenaaGreatGoCtG
import Derived.Test.YtnaehggpjfdenaaGreatGoRpA
import Derived.Test.YtnaehggpjfdenaaGreatGoSn
import Derived.Test.YtnaehggpjfdenaaGreatGoSl
import Derived.Test.YtnaehggpjfdenaaGreatAbsCP
set_option linter.unusedVariables false
set_option linter.unusedSimpArgs false
set_option maxHeartbeats 16000000
set_option maxRecDepth 20000
namespace Go.Abs
def Qbn (P:Program) (f:FuncId):Prop:=∀(b:Nat) (h:List O) (id:Nat) (o:O) (KJ:List (P2 × PJz)) (F:P2->List P2) (R:List Eg) (first:P2),PoolAt b h id o KJ F->PF F R->Wq R->F first≠[]->R.length<=4096 ->
 ACall P f [.mp id,first.enc] h (λr h'=>∃(vs:List P2) (o':O) (KJ':List (P2 × PJz)) (F':P2->List P2) (R':List Eg),r=.a [.own (h.length+2) vs.length 0 vs.length]/\h'=h.set id o'++[.dead,.dead,.arr vs.length 2 (vs.map P2.cs)] /\
  PoolAt b (h.set id o') id o' KJ' F'/\PF F' R'/\Wq R'/\(Qu vs++R').Perm R/\vs≠[])
theorem Qdp {P:Program} {f:FuncId} (ht:Qhx P f) {b:Nat} {h:List O} {id:Nat} {o:O} {KJ:List (P2 × PJz)} {F:P2->List P2} (H:PoolAt b h id o KJ F) {e v:P2} {l:List P2} (he:F e=v::l) (tl:List O) :
  ACall P f [.mp id,e.enc] (h++tl) (λr h'=>r=v.enc/\∃o' KJ',h'=h.set id o'++tl/\PoolAt b (h.set id o') id o' KJ' (Q5q F e l)):=by
 obtain⟨i,p,els,a1,a2,a3,a4,a5,a6,a7⟩:=H.take he;have hlt:=(q8.1 H.ob).1;have hjt:=(q8.1 a3).1;have hfe:Qo [1,1] e.enc (KJ.map (asG P2.enc evP))=some (some (i,.own p.j p.g p.o p.n)):=by
  rw[Ke Ez evP e KJ,a1];rfl
 refine (ht (h++tl) id o _ e i p.j p.g p.o p.n (els.map P2.cs) v H.mp (by rw[qd hlt];exact H.ob) hfe (by rw[qd hjt];exact a3) a4 (by simpa using a5) (by rw[qp,a6];rfl)).mono ?_;rintro r h' ⟨rfl,hor⟩;refine⟨rfl,?_⟩;rcases hor with⟨b1,rfl⟩ | ⟨b1,o',b2,rfl⟩
 ·obtain⟨KJ',hp⟩:=a7 _ (.inl ⟨b1,rfl⟩);exact⟨_,KJ',List.set_append_left _ _ hlt,hp⟩
 ·obtain⟨KJ',hp⟩:=a7 o' (.inr ⟨b1,b2⟩);exact⟨o',KJ',List.set_append_left _ _ hlt,hp⟩
section hset
variable {h l:List O} {id k:Nat} {o x:O}
theorem W7:(h.set id o++l)[h.length+k]?=l[k]?:=by
 have:=Qf (h.set id o) l k
 rwa [List.length_set]at this
theorem Ix:(h.set id o++l)[h.length]?=l[0]?:=W7 (k:=0)
theorem U5:(h.set id o++l).set (h.length+k) x=h.set id o++l.set k x:=by
 have:=Qk (h.set id o) l k x
 rwa [List.length_set]at this
theorem Iv:(h.set id o++l).set h.length x=h.set id o++l.set 0 x:=U5 (k:=0)
theorem Iw {a b c d:O} {j:Nat}:(h.set id o++a::b::c::d::(List.replicate k O.dead++l))[h.length+4+k+j]?=l[j]?:=by
 rw[show h.length+4+k+j=h.length+(4+k+j) by omega,W7];rw[show 4+k+j=(k+j)+1+1+1+1 by omega];simp only[List.getElem?_cons_succ];rw[qf (by simp)];simp
theorem Q0x {a b c d:O}:(h.set id o++a::b::c::d::(List.replicate k O.dead++l))[h.length+4+k]?=l[0]?:=Iw (j:=0)
theorem Q4h {a b c d:O} {j:Nat}:(h.set id o++a::b::c::d::(List.replicate k O.dead++l)).set (h.length+4+k+j) x=h.set id o++a::b::c::d::(List.replicate k O.dead++l.set j x):=by
 rw[show h.length+4+k+j=h.length+(4+k+j) by omega,U5];rw[show 4+k+j=(k+j)+1+1+1+1 by omega];simp only[List.set_cons_succ];rw[jq _ _ (by simp)];simp
theorem Qns {n:Nat} {a b:List O} {x:O} (hw:WeakH n a b):WeakH n (List.replicate k O.dead++x::a) (List.replicate (k+1) O.dead++b):=by
 rw[List.replicate_succ',j6];exact Qn (λo ho=>by rw[(List.mem_replicate.1 ho).2];simp[O.cl]) ⟨.inl rfl,hw⟩
theorem PoolAt.clh {b:Nat} {KJ:List (P2 × PJz)} {F:P2->List P2} (H:PoolAt b (h.set id o) id o KJ F) {n:Nat} (hc:∀x∈h,x.cl n) (hn:h.length<=n):∀x∈h.set id o,x.cl n:=by
 intro x hx;rcases List.mem_or_eq_of_mem_set hx with hx | rfl
 ·exact hc x hx
 ·have he:∀e∈KJ.map (asG P2.enc evP),e.1.cl n=true/\e.2.cl n=true:=by
   intro e he;obtain⟨⟨k,p⟩,hm,rfl⟩:=qo.1 he;obtain⟨i,hi⟩:=qq hm;obtain⟨_,_,els,h3,_⟩:=H.val i k p hi;have:=(q8.1 h3).1;rw[List.length_set]at this
   simp[asG,evP,P2.enc,P2.cs,V.cl,V.cl1,V.cl0];omega
  rcases H.mp with rfl | rfl
  ·exact he
  ·exact he
theorem Qoq {j:Nat}:(List.replicate k O.dead++l)[k+j]?=l[j]?:=by
 rw[qf (by simp)];simp
theorem Qop {j:Nat}:(List.replicate k O.dead++l).set (k+j) x=List.replicate k O.dead++l.set j x:=by
 rw[jq _ _ (by simp)];simp
end hset
section
variable {P:Program} (hm:P.follows .mixedOrders=true)
include hm
theorem Q14 {f ft:FuncId} (hf:Q5 P f (L06.c ft) L06.r L06.n) (ht:Qhx P ft):Qbn P f:=by
 intro b h id o KJ F R first H hF hB hne hR
 refine Kh λhcl=>?_
 obtain⟨v1,l1,hF1⟩:∃v l,F first=v::l:=by
  cases hh:F first with
  | nil=>exact absurd hh hne
  | cons v l=>exact⟨v,l,rfl⟩
 refine Uw hm hf (qh rfl) ?_;unfold L06.c;generalize hK:Qbl h.length L06.r _=K;have hlt:=(q8.1 H.ob).1;simp (disch:=omega) [go_sem,P2.enc,P2.cs,Qf,Qc,Qk,Qm];refine (Qdp ht H hF1 _).mono ?_;rintro r h' ⟨rfl,o1,KJ1,rfl,H1⟩;obtain⟨R1,hR1,hPF1⟩:=hF.take hF1;have hlen1:=hR1.length_eq;rw[List.length_cons]at hlen1
 have hsl:(h.set id o1).length=h.length:=by simp
 simp (disch:=omega) [go_sem,P2.enc,P2.cs,W7,Ix,U5,Iv];refine Q8 (α:=O × List (P2 × PJz) × (P2->List P2) × List Eg × P2 × List P2 × Nat)
  (λp=>PoolAt b (h.set id p.1) id p.1 p.2.1 p.2.2.1/\PF p.2.2.1 p.2.2.2.1/\Trail first p.2.2.2.2.1 p.2.2.2.2.2.1 p.2.2.2.1 R/\p.2.2.2.2.2.1≠[]/\p.2.2.2.2.2.1.length+p.2.2.2.1.length<=4096)
  (λp=>⟨[(0,.mp id),(3,.p h.length 1 0 0),(4,.p (h.length+1) 1 0 0),(5,.p (h.length+3) 1 0 0),(6,.p (h.length+4+p.2.2.2.2.2.2) 1 0 0)],
   h.set id p.1++([.arr 1 2 [first.cs],.arr 1 1 [[.nil]],.arr p.2.2.2.2.2.1.length 2 (p.2.2.2.2.2.1.map P2.cs),.arr 1 1 [[.own (h.length+2) p.2.2.2.2.2.1.length 0 p.2.2.2.2.2.1.length]]]++(List.replicate p.2.2.2.2.2.2 O.dead++[.arr 1 2 [p.2.2.2.2.1.cs]]))⟩)
  (λp=>p.2.2.2.1.length) (o1,KJ1,Q5q F first l1,R1,v1,[first],0) ⟨H1,hPF1,(Trail.start hB first).step hR1,by simp,by simp;omega⟩ ?_ ?_
 ·simp[go_sem];exact⟨by omega,Qn (H1.clh (hcl _ (by omega)) (by omega)) (by simp[WeakH,O.cl,P2.cs,V.cl,V.cl1,V.cl0])⟩
 ·rintro⟨o2,KJ2,F2,R2,cur,vs,k⟩ ⟨H2,hPF2,hT,hvs,hlen⟩;simp only at H2 hPF2 hT hvs hlen ⊢;have hlt2:id<(h.set id o2).length:=by rw[List.length_set];exact hlt
  have hob:∀tl,(h.set id o2++tl)[id]?=some o2:=λtl=>by rw[qd hlt2];exact H2.ob
  cases hbf:(!(cur.x == first.x) || !(cur.y == first.y)) with
  | true =>
    have hne2:cur≠first:=by
     intro hh;rw[hh]at hbf
     simp at hbf
    obtain⟨e,he,he2⟩:=hT.more hne2;obtain⟨v,l,hFc⟩:∃v l,F2 cur=v::l:=by
     cases hh:F2 cur with
     | nil=>exact absurd he2 (hPF2.none.1 hh e he)
     | cons v l=>exact⟨v,l,rfl⟩
    obtain⟨R3,hR3,hPF3⟩:=hPF2.take hFc;have hlen3:=hR3.length_eq;rw[List.length_cons]at hlen3
    obtain⟨i,p,els,a1,_,a3,a4,_,_,_⟩:=H2.take hFc;have hpj:∀tl,(h.set id o2++tl)[p.j]?=some (O.arr p.g 2 (els.map P2.cs)):=λtl=>by rw[qd (q8.1 a3).1];exact a3
    have hfe:Qo [1,1] (V.a [V.i .i64 cur.x,V.i .i64 cur.y]) (KJ2.map (asG P2.enc evP))=some (some (i,.own p.j p.g p.o p.n)):=by
     rw[show V.a [V.i .i64 cur.x,V.i .i64 cur.y]=cur.enc from rfl,Ke Ez evP cur KJ2,a1];rfl
    have hent:∀tl,Zm (h.set id o2++tl) (.mp id)=some (KJ2.map (asG P2.enc evP)):=λtl=>by
     unfold Zm;simp only[hob tl];rcases H2.mp with rfl | rfl<;>rfl
    have hpn:0<p.n:=a4;have hvt:List.take vs.length (vs.map P2.cs)=vs.map P2.cs:=qe (by simp);simp (disch:=omega) [go_sem,P2.enc,P2.cs,W7,Ix,U5,Iv,Iw,Q0x,Q4h,hbf,hent,hfe,hpj,hpn,hvt,Qoq,Qop];refine⟨⟨by omega,by omega⟩,?_⟩;refine (Qdp ht H2 hFc _).mono ?_;rintro r h' ⟨rfl,o3,KJ3,rfl,H3⟩;rw[List.set_set]at H3
    have hsl3:(h.set id o3).length=h.length:=by simp
    simp (disch:=omega) [go_sem,P2.enc,P2.cs,W7,Ix,U5,Iv,Iw,Q0x,Q4h,Qoq,Qop];refine⟨o3,KJ3,Q5q F2 cur l,R3,v,vs++[cur],⟨H3,hPF3,hT.step hR3,by simp,by simp;omega⟩,by omega,k+1,by omega,⟨by omega,by omega,by omega⟩,?_⟩;have hclo:∀n,(O.arr (vs.length+1) 2 ((vs++[cur]).map P2.cs)).cl n:=Qgp pcsD (vs++[cur]);refine Qn (H3.clh (hcl _ (by omega)) (by omega)) ?_
    have hl1:(vs++[cur]).length=vs.length+1:=by simp
    have hm1:(vs++[cur]).map P2.cs=vs.map P2.cs++[[V.i .i64 cur.x,V.i .i64 cur.y]]:=by rw[qx];rfl
    rw[hl1,<- hm1];refine⟨.inr ⟨rfl,by simp[O.cl,V.cl,V.cl1,V.cl0]⟩,.inr ⟨rfl,by simp[O.cl,V.cl,V.cl1,V.cl0]⟩,.inr ⟨rfl,hclo _⟩,.inr ⟨rfl,by simp[O.cl,V.cl,V.cl1,V.cl0]⟩,Qns ⟨.inr ⟨rfl,by simp[O.cl,V.cl,V.cl1,V.cl0]⟩,trivial⟩⟩
  | false =>
    have hbe:cur=first:=by
     simp only[Bool.or_eq_false_iff,Bool.not_eq_false',beq_iff_eq]at hbf;exact p2_iff.2 hbf
    rw[hbe]at hT
    obtain⟨hB2,hP2⟩:=hT.close hvs;simp (disch:=omega) [go_sem,P2.enc,P2.cs,W7,Ix,U5,Iv,Iw,Q0x,Q4h,hbf];subst hK;rw[Q87];refine⟨[.a [.own (h.length+2) vs.length 0 vs.length]],h.set id o2++[.dead,.dead,.arr vs.length 2 (vs.map P2.cs)],?_,?_⟩
    ·simp (disch:=omega) [go_sem,L06.r,W7]
    ·have hclo:∀n,(O.arr vs.length 2 (vs.map P2.cs)).cl n:=Qgp pcsD vs;refine⟨rfl,by simp[V.cl,V.cl1,V.cl0],by simp,by simp,Qn (H2.clh (hcl _ (by simp)) (by simp)) ⟨.inl rfl,.inl rfl,.inr ⟨rfl,hclo _⟩,trivial⟩,?_⟩;exact⟨vs,o2,KJ2,F2,R2,rfl,rfl,H2,hPF2,hB2,hP2,hvs⟩
end
def Q3t (R:List Eg):P2->List P2:=λk=>(R.filter λe=>decide (e.1=k)).map Prod.snd
theorem outF_ok (R:List Eg):PF (Q3t R) R:=λ_=>List.Perm.refl _
theorem Qrb (R:List Eg) (a b:P2):Q3t (R++[(a,b)])=Q5q (Q3t R) a (Q3t R a++[b]):=by
 funext k;unfold Q3t Q5q;rw[List.filter_append,qx];by_cases h:k=a
 ·subst h;simp
 ·rw[if_neg h];simp;exact λhh=>h hh.symm
structure UMc (hx:List O) (KJ:List (P2 × PJz)) (F:P2->List P2):Prop where
 val:∀(i:Nat) (k:P2) (p:PJz),KJ[i]?=some (k,p)->∃j,p=⟨j+2,(F k).length,0,(F k).length⟩/\1<=(F k).length/\hx[j]?=some (.arr (F k).length 2 ((F k).map P2.cs))
 inj:∀(i i':Nat) (k k':P2) (p p':PJz),KJ[i]?=some (k,p)->KJ[i']?=some (k',p')->p.j=p'.j->i=i'
 key:(KJ.map Prod.fst).Nodup
 none:∀e,Zf e KJ=Option.none->F e=[]
theorem UMc.nil:UMc [] [] (λ_=>[]):=⟨by simp,by simp,by simp,by simp⟩
theorem UMc.app {hx:List O} {KJ:List (P2 × PJz)} {F:P2->List P2} (h:UMc hx KJ F) (l:List O):UMc (hx++l) KJ F :=
 ⟨λi k p hi=>by obtain⟨j,h1,h2,h3⟩:=h.val i k p hi;exact⟨j,h1,h2,by rw[qd (q8.1 h3).1];exact h3⟩,h.inj,h.key,h.none⟩
theorem UMc.new {hx:List O} {KJ:List (P2 × PJz)} {F:P2->List P2} (h:UMc hx KJ F) {e v:P2} (he:Zf e KJ=Option.none) {l:List O} {j0:Nat} (hj:hx.length<=j0) (ho:(hx++l)[j0]?=some (.arr 1 2 [v.cs])) :
  UMc (hx++l) (KJ++[(e,⟨j0+2,1,0,1⟩)]) (Q5q F e [v]):=by
 have hk:=fndG_none.1 he;have hval:∀(i:Nat) (k:P2) (p:PJz),(KJ++[(e,(⟨j0+2,1,0,1⟩:PJz))])[i]?=some (k,p)->(i<KJ.length/\KJ[i]?=some (k,p)/\k≠e/\p.j<hx.length+2)∨(i=KJ.length/\k=e/\p=⟨j0+2,1,0,1⟩):=by
  intro i k p hi;by_cases hl:i<KJ.length
  ·rw[qd hl]at hi
   obtain⟨j,rfl,_,h3⟩:=h.val i k p hi;have:=(q8.1 h3).1;refine .inl ⟨hl,hi,?_,by simp only[];omega⟩;rintro rfl;exact hk (qo.2 ⟨_,qb hi,rfl⟩)
  ·rw[qf (by omega)]at hi
   have h0:i-KJ.length=0:=by
    have:=(q8.1 hi).1;simp at this;omega
   rw[h0]at hi
   simp at hi;exact .inr ⟨by omega,hi.1.symm,hi.2.symm⟩
 refine⟨λi k p hi=>?_,λi i' k k' p p' h1 h2 h3=>?_,?_,λa ha=>?_⟩
 ·rcases hval i k p hi with⟨_,h1,h2,_⟩ | ⟨_,rfl,rfl⟩
  ·rw[Jf h2];exact(h.app l).val i k p h1
  ·rw[Kj];exact⟨j0,rfl,by simp,by simpa using ho⟩
 ·rcases hval i k p h1 with⟨_,a1,_,a3⟩ | ⟨a1,_,rfl⟩<;>rcases hval i' k' p' h2 with⟨_,b1,_,b3⟩ | ⟨b1,_,rfl⟩
  ·exact h.inj i i' k k' p p' a1 b1 h3
  ·simp only at h3;omega
  ·simp only at h3;omega
  ·omega
 ·rw[qx,List.nodup_append];exact⟨h.key,by simp,λa ha b hb=>by simp at hb;subst hb;rintro rfl;exact hk ha⟩
 ·have hn:=fndG_none.1 ha;rw[qx,qg]at hn
  have hne:a≠e:=by rintro rfl;exact hn (.inr (by simp))
  rw[Jf hne];exact h.none a (fndG_none.2 λhm=>hn (.inl hm))
theorem UMc.old {hx:List O} {KJ:List (P2 × PJz)} {F:P2->List P2} (h:UMc hx KJ F) {e:P2} {i j:Nat} {p:PJz} (he:KJ[i]?=some (e,p)) (hj:p.j=j+2) {l:List P2} (hl:1<=l.length) :
  UMc (hx.set j (.arr l.length 2 (l.map P2.cs))) (KJ.set i (e,⟨j+2,l.length,0,l.length⟩)) (Q5q F e l):=by
 have hil:=(q8.1 he).1;have hkey:(KJ.set i (e,(⟨j+2,l.length,0,l.length⟩:PJz))).map Prod.fst=KJ.map Prod.fst:=by
  rw[List.map_set];exact Ww _ _ _ (by rw[qp,he];rfl)
 have hval:∀(i':Nat) (k:P2) (p':PJz),(KJ.set i (e,(⟨j+2,l.length,0,l.length⟩:PJz)))[i']?=some (k,p')->(i'≠i/\KJ[i']?=some (k,p')/\k≠e)∨(i'=i/\k=e/\p'=⟨j+2,l.length,0,l.length⟩):=by
  intro i' k p' hi;by_cases hii:i=i'
  ·subst hii;rw[qm hil]at hi
   simp only[Option.some.injEq,Prod.mk.injEq]at hi;exact .inr ⟨rfl,hi.1.symm,hi.2.symm⟩
  ·rw[qt hii]at hi
   refine .inl ⟨λhh=>hii hh.symm,hi,?_⟩;rintro rfl;have h1:=Xj h.key hi;have h2:=Xj h.key he;rw[h1]at h2
   simp only[Option.some.injEq,Prod.mk.injEq]at h2;exact hii h2.1.symm
 refine⟨λi' k p' hi=>?_,λi1 i2 k k' p1 p2 h1 h2 h3=>?_,by rw[hkey];exact h.key,λa ha=>?_⟩
 ·rcases hval i' k p' hi with⟨h1,h2,h3⟩ | ⟨_,rfl,rfl⟩
  ·rw[Jf h3];obtain⟨j',q1,q2,q3⟩:=h.val i' k p' h2;refine⟨j',q1,q2,?_⟩;rw[qt]
   ·exact q3
   ·rintro rfl;exact h1 (h.inj i' i k e p' p h2 he (by rw[q1,hj]))
  ·rw[Kj];refine⟨j,rfl,hl,?_⟩;obtain⟨j',q1,q2,q3⟩:=h.val i k p he;have hjj:j'=j:=by rw[q1]at hj;simp only at hj;omega
   subst hjj;rw[qm (q8.1 q3).1]
 ·rcases hval i1 k p1 h1 with⟨a1,a2,_⟩ | ⟨rfl,_,rfl⟩<;>rcases hval i2 k' p2 h2 with⟨b1,b2,_⟩ | ⟨rfl,_,rfl⟩
  ·exact h.inj i1 i2 k k' p1 p2 a2 b2 h3
  ·exact h.inj i1 i2 k e p1 p a2 he (by rw[h3,hj])
  ·exact h.inj i1 i2 e k' p p2 he b2 (by rw[<- h3,hj])
  ·rfl
 ·have hn:=fndG_none.1 ha;rw[hkey]at hn
  have hne:a≠e:=by rintro rfl;exact hn (qo.2 ⟨_,qb he,rfl⟩)
  rw[Jf hne];exact h.none a (fndG_none.2 hn)
theorem UMc.pool {hx:List O} {KJ:List (P2 × PJz)} {F:P2->List P2} (h:UMc hx KJ F) (o1:O):PoolAt (hx.length+2) (.mp (KJ.map (asG P2.enc evP))::o1::hx) 0 (.mp (KJ.map (asG P2.enc evP))) KJ F where
 mp:=.inl rfl
 ob:=rfl
 val i k p hi:=by
  obtain⟨j,rfl,h2,h3⟩:=h.val i k p hi;exact⟨rfl,h2,F k,by simpa using h3,by simp,by simp⟩
 key:=h.key
 lt i k p hi:=by
  obtain⟨j,rfl,h2,h3⟩:=h.val i k p hi;have:=(q8.1 h3).1;simp only[];omega
 none:=h.none
theorem UMc.cl2 {hx:List O} {KJ:List (P2 × PJz)} {F:P2->List P2} (h:UMc hx KJ F) {N:Nat} (hN:hx.length+2<=N):∀(a b:V) (x:P2) (y:PJz),(x,y)∈KJ->asG P2.enc evP (x,y)=(a,b)->a.cl N=true/\b.cl N=true:=λa b x y hm he=>by
 obtain⟨i,hi⟩:=qq hm;obtain⟨j,rfl,_,h3⟩:=h.val i x y hi;have:=(q8.1 h3).1;simp only[asG,evP,Prod.mk.injEq]at he;obtain⟨rfl,rfl⟩:=he;simp[P2.enc,P2.cs,V.cl,V.cl1,V.cl0];omega
theorem ne_take {l:List Sg4} {k:Nat} {s:Sg4} (h:l[k]?=some s):neE (egs (l.take (k+1)))=neE (egs (l.take k))++(if s.eg.1=s.eg.2 then [] else [s.eg]):=by
 rw[Q1e l h];unfold neE;rw[List.filter_append];congr 1;by_cases h:s.eg.1=s.eg.2
 ·simp[h]
 ·simp[h]
theorem Wh (l:List P2) (n:Nat) (g:Nat):(O.arr g 2 (l.map P2.cs)).cl n:=Qgp pcsD l n
theorem Qv6 (s:Sg4) (n:Nat):(O.arr 1 4 [[V.i .i64 s.a.1,.i .i64 s.a.2,.i .i64 s.b.1,.i .i64 s.b.2]]).cl n:=by
 intro el hel x hx;simp at hel;subst hel;simp at hx;rcases hx with rfl | rfl | rfl | rfl<;>rfl
theorem PF.perm {F:P2->List P2} {R:List Eg} (h:PF F R) {e:P2} {zs:List P2} (hz:zs.Perm (F e)):PF (Q5q F e zs) R:=λk=>by
 by_cases hk:k=e
 ·subst hk;rw[Kj];exact(h k).trans hz.symm
 ·rw[Jf hk];exact h k
structure PhI (hx:List O) (pa:O) (R:List Eg) (o:O) (KJ:List (P2 × PJz)) (F:P2->List P2) (R':List Eg) (ps:List (List P2)) (hy:List O) (cells:List (List V)):Prop where
 pool:PoolAt (hx.length+2) (o::pa::hx) 0 o KJ F
 pf:PF F R'
 bal:Wq R'
 perm:(ps.flatMap Qu++R').Perm R
 held:Qf5 (hx.length+3) hy ps cells
 flt:Flt hy
 len:ps.length+R'.length<=R.length
theorem PhI.ents {hx:List O} {pa:O} {R:List Eg} {o:O} {KJ:List (P2 × PJz)} {F:P2->List P2} {R':List Eg} {ps:List (List P2)} {hy:List O} {cells:List (List V)} (h:PhI hx pa R o KJ F R' ps hy cells) (tl:List O):Zm (o::tl) (.mp 0)=some (KJ.map (asG P2.enc evP)):=by
 rcases h.pool.mp with rfl | rfl<;>rfl
theorem PoolAt.clh2 {b:Nat} {h:List O} {id:Nat} {o:O} {KJ:List (P2 × PJz)} {F:P2->List P2} (H:PoolAt b h id o KJ F) {n:Nat} (hn:b<=n):o.cl n:=by
 have he:∀e∈KJ.map (asG P2.enc evP),e.1.cl n=true/\e.2.cl n=true:=by
  intro e he;obtain⟨⟨k,p⟩,hm,rfl⟩:=qo.1 he;obtain⟨i,hi⟩:=qq hm;have:=H.lt i k p hi;simp[asG,evP,P2.enc,P2.cs,V.cl,V.cl1,V.cl0];omega
 rcases H.mp with rfl | rfl
 ·exact he
 ·exact he
theorem PhI.ocl {hx:List O} {pa:O} {R:List Eg} {o:O} {KJ:List (P2 × PJz)} {F:P2->List P2} {R':List Eg} {ps:List (List P2)} {hy:List O} {cells:List (List V)} (h:PhI hx pa R o KJ F R' ps hy cells) {n:Nat} (hn:hx.length+2<=n):o.cl n:=by
 have he:∀e∈KJ.map (asG P2.enc evP),e.1.cl n=true/\e.2.cl n=true:=by
  intro e he;obtain⟨⟨k,p⟩,hm,rfl⟩:=qo.1 he;obtain⟨i,hi⟩:=qq hm;have:=h.pool.lt i k p hi;simp[asG,evP,P2.enc,P2.cs,V.cl,V.cl1,V.cl0];omega
 rcases h.pool.mp with rfl | rfl
 ·exact he
 ·exact he
theorem PhI.weak {hx:List O} {pa:O} {R:List Eg} {o:O} {KJ:List (P2 × PJz)} {F:P2->List P2} {R':List Eg} {ps:List (List P2)} {hy:List O} {cells:List (List V)} (h:PhI hx pa R o KJ F R' ps hy cells) (hF:Flt hx) {n:Nat} (hn:hx.length+3+hy.length<=n) (g:Nat) (l:List O):WeakH n (hx++.arr g 1 cells::(hy++l)) (hx++.arr g 1 cells::hy) :=
 Qn (λo ho=>hF o ho _) ⟨.inr ⟨rfl,h.held.cl pcsD hn⟩,h.flt.WeakH _⟩
theorem PhI.weak' {hx:List O} {pa:O} {R:List Eg} {o:O} {KJ:List (P2 × PJz)} {F:P2->List P2} {R':List Eg} {ps:List (List P2)} {hy:List O} {cells:List (List V)} (h:PhI hx pa R o KJ F R' ps hy cells) (hF:Flt hx) {n:Nat} (hn:hx.length+3+hy.length<=n) (g:Nat):WeakH n (hx++.arr g 1 cells::hy) (hx++.arr g 1 cells::hy):=by
 have:=h.weak hF hn g []
 rwa [List.append_nil]at this
theorem Qjn {o:O} {n:Nat} (h:o.cl n):o=O.dead∨(match (generalizing:=false) o with | .arr _ _ els=>∀el∈els,∀x∈el,x.cl n=true | .mp es=>∀a b,(a,b)∈es->a.cl n=true/\b.cl n=true | .md es=>∀a b,(a,b)∈es->a.cl n=true/\b.cl n=true | .it mid _ _=>∀i,mid=some i->i<n | .dead=>True):=by
 right
 cases o with
 | arr g s els=>exact h
 | mp es=>exact λa b he=>h (a,b) he
 | md es=>exact λa b he=>h (a,b) he
 | it mid a b=>exact h
 | dead=>trivial
theorem Qvv {o:O} {n:Nat} (h:o.cl n):o=O.dead∨o=o/\(match (generalizing:=false) o with | .arr _ _ els=>∀el∈els,∀x∈el,x.cl n=true | .mp es=>∀a b,(a,b)∈es->a.cl n=true/\b.cl n=true | .md es=>∀a b,(a,b)∈es->a.cl n=true/\b.cl n=true | .it mid _ _=>∀i,mid=some i->i<n | .dead=>True) :=
 (Qjn h).imp id λh=>⟨rfl,h⟩
section
variable {P:Program} (hm:P.follows .mixedOrders=true)
include hm
theorem Q4p {f fv fb fs fc fp:FuncId} (hf:Q5 P f (L04.c fv fb fs fc fp) L04.r L04.n) (hv:Ji P fv) (hb:Qf8 P fb) (hs:Ic P fs 2) (hc:Qi2 P fc) (hcal:Qx P fc=true) (hp:Qbn P fp):Q54 P f:=by
 intro l hl;have hlen:=hl.1;have hb1:=hb l hlen;refine⟨λhbal=>?_,λhbal=>?_⟩
 ·have hbb:Q4u (egs l)=false:=by
   cases h:Q4u (egs l) with
   | false=>rfl
   | true=>exact absurd (balB_iff.1 h) hbal
  rw[hbb]at hb1
  refine CallIs.res (r:=.t [.nil,.i .i64 12]) ?_ (Qe1 _);refine PI hm hf ?_;unfold L04.c;simp[go_sem,Qq,show ¬ (8192:Int)<l.length by omega];refine Q8 (α:=Nat) (λk=>k<=l.length)
   (λk=>⟨[(0,Qq l),(18,Qq l),(19,.i .i64 l.length),(20,.i .i64 k)],[]⟩)
   (λk=>l.length-k) 0 (Nat.zero_le _) ?_ ?_
  ·simp[go_sem,Qq]
  ·intro k hk;by_cases hkl:k=l.length
   ·subst hkl;simp[go_sem,Qq];refine Q2 hb1 ?_;simp[go_sem,L04.r]
   ·have hlt:k<l.length:=by omega
    have hq:=Yo hlt;generalize Yn l k=s at hq;obtain⟨_,hq'⟩:=q8.1 hq;obtain⟨v1,v2⟩:=Ik hl (qb hq);have c1:=hv s.eg.1;have c2:=hv s.eg.2;rw[v1,Q7q]at c1
    rw[v2,Q7p]at c2
    simp (disch:=omega) [go_sem,Qq,hlt,hq,hq',Sg4.cs];refine Q2 c1 ?_;simp (disch:=omega) [go_sem,Qq,hlt,hq,hq',Sg4.cs];refine Q2 c2 ?_;simp (disch:=omega) [go_sem,Q0];exact⟨k+1,by omega,by omega,by simp[Qq]⟩
 ·rw[balB_iff.2 hbal]at hb1
  refine Q1x hm hf (qh rfl) ?_;unfold L04.c;simp[go_sem,Qq,show ¬ (8192:Int)<l.length by omega];refine Q8 (α:=Nat) (λk=>k<=l.length)
   (λk=>⟨[(0,Qq l),(18,Qq l),(19,.i .i64 l.length),(20,.i .i64 k)],[]⟩)
   (λk=>l.length-k) 0 (Nat.zero_le _) ?_ ?_
  ·simp[go_sem,Qq]
  intro k hk;by_cases hkl:k=l.length
  case neg =>
   have hlt:k<l.length:=by omega
   have hq:=Yo hlt;generalize Yn l k=s at hq;obtain⟨_,hq'⟩:=q8.1 hq;obtain⟨v1,v2⟩:=Ik hl (qb hq);have c1:=hv s.eg.1;have c2:=hv s.eg.2;rw[v1,Q7q]at c1
   rw[v2,Q7p]at c2
   simp (disch:=omega) [go_sem,Qq,hlt,hq,hq',Sg4.cs];refine Q2 c1 ?_;simp (disch:=omega) [go_sem,Qq,hlt,hq,hq',Sg4.cs];refine Q2 c2 ?_;simp (disch:=omega) [go_sem,Q0];exact⟨k+1,by omega,by omega,by simp[Qq]⟩
  subst hkl;have hseg:Qq l=.l 4 (l.map Sg4.cs):=rfl;simp[go_sem,Qq];refine Q2 hb1 ?_;simp[go_sem];refine Qi [.t 7 2] (α:=Nat × List O × List (P2 × PJz))
   (λp=>p.1<=l.length/\UMc p.2.1 p.2.2 (Q3t (neE (egs (l.take p.1))))/\Flt p.2.1/\p.2.2.length<=p.1)
   (λp=>⟨[(6,.mp 0),(7,.own 1 (p.2.2.length+1) 0 p.2.2.length),(39,Qq l),(40,.i .i64 l.length),(41,.i .i64 p.1)],
    .mp (p.2.2.map (asG P2.enc evP))::.arr (p.2.2.length+1) 2 ((p.2.2.map Prod.fst).map P2.cs)::p.2.1⟩)
   (λp=>l.length-p.1) (0,[],[]) ⟨Nat.zero_le _,UMc.nil,by simp[Flt],by simp⟩ ?_ ?_
  ·simp[go_sem,Qq]
   done
  ·rintro⟨k,hx,KJ⟩ ⟨hk,hU,hF,hKl⟩;simp only at hk hU hF hKl ⊢;by_cases hkl:k=l.length
   case neg =>
    have hlt:k<l.length:=by omega
    have hq:=Yo hlt;have hnt:=ne_take hq;have hR2:(neE (egs (l.take k))).length<=4096:=by
     refine Nat.le_trans (jc _ _) ?_;rw[Iz,qv];omega
    generalize Yn l k=s at hq hnt;obtain⟨_,hq'⟩:=q8.1 hq;generalize neE (egs (l.take k))=R at *
    cases hee:(s.a.1 == s.b.1 && s.a.2 == s.b.2) with
    | true =>
      have heq:s.eg.1=s.eg.2:=by
       simp only[Bool.and_eq_true,beq_iff_eq]at hee;exact p2_iff.2 hee
      rw[if_pos heq,List.append_nil]at hnt
      simp (disch:=omega) [go_sem,Qq,hlt,hq,hq',Sg4.cs,hee,Qf,Qc,Qk,Qm,Q0];have hU2:=hU.app [O.arr 1 4 [[V.i .i64 s.a.1,.i .i64 s.a.2,.i .i64 s.b.1,.i .i64 s.b.2]]];have hF2:=hF.app (Flt.one (Qv6 s))
      refine⟨k+1,hx++[O.arr 1 4 [[V.i .i64 s.a.1,.i .i64 s.a.2,.i .i64 s.b.1,.i .i64 s.b.2]]],KJ,⟨by omega,by rw[hnt];exact hU2,hF2,by omega⟩,by omega,by simp,⟨rfl,by omega⟩,⟨rfl,hU2.cl2 (by simp)⟩,⟨⟨rfl,rfl⟩,?_⟩,hF2.WeakH' _⟩;rintro el x x1 _ rfl;exact of_eq_true (Yb x _)
    | false =>
      have hne:s.eg.1≠s.eg.2:=by
       intro hh;have h5:s.a.1=s.b.1/\s.a.2=s.b.2:=p2_iff.1 hh;rw[h5.1,h5.2]at hee
       simp at hee
      rw[if_neg hne,show s.eg=(s.eg.1,s.eg.2) from rfl]at hnt
      have hof:Q3t (R++[(s.eg.1,s.eg.2)])=_:=Qrb R s.eg.1 s.eg.2;rw[<- hnt]at hof
      have hfe:Qo [1,1] (V.a [.i .i64 s.a.1,.i .i64 s.a.2]) (KJ.map (asG P2.enc evP))=_:=Ke Ez evP s.eg.1 KJ;cases hfn:Zf s.eg.1 KJ with
      | none =>
        rw[hfn,Option.map_none]at hfe
        simp (disch:=omega) [go_sem,Qq,hlt,hq,hq',Sg4.cs,hee,hfe,Jp,Jo,Qf,Qc,Qk,Qm,Q0];have hF2:Flt (hx++[O.arr 1 4 [[V.i .i64 s.a.1,.i .i64 s.a.2,.i .i64 s.b.1,.i .i64 s.b.2]],O.arr 1 2 [[V.i .i64 s.b.1,.i .i64 s.b.2]]]):=hF.app λo ho n=>by
         simp at ho;rcases ho with rfl | rfl
         ·exact Qv6 s n
         ·exact Wh [s.eg.2] n 1
        have hU2:=hU.new (v:=s.eg.2) hfn (l:=[O.arr 1 4 [[V.i .i64 s.a.1,.i .i64 s.a.2,.i .i64 s.b.1,.i .i64 s.b.2]],O.arr 1 2 [[V.i .i64 s.b.1,.i .i64 s.b.2]]]) (j0:=hx.length+1) (by omega) (by rw[Qf];rfl);have hz:=hU.none _ hfn;rw[hz,List.nil_append]at hof
        refine⟨⟨by omega,by omega⟩,k+1,_,_,⟨by omega,by rw[hof];exact hU2,hF2,by simp;omega⟩,by omega,by simp,⟨by simp,by omega⟩,⟨by rw[qx];rfl,hU2.cl2 (by simp)⟩,⟨⟨by simp,by rw[qx];rfl⟩,?_⟩,hF2.WeakH' _⟩;rintro el x x1 _ rfl;exact of_eq_true (Yb x _)
      | some q =>
        obtain⟨i,p⟩:=q;rw[hfn,Option.map_some]at hfe
        have hi:=Y7 hfn;obtain⟨j,rfl,hF1,hxj⟩:=hU.val i _ p hi;have hFl:(Q3t R s.eg.1).length<=4096:=by
         unfold Q3t;rw[List.length_map];exact Nat.le_trans (jc _ _) hR2
        have hU2:=λl (hl:1<=l.length)=>(hU.old (l:=l) hi rfl hl).app [O.arr 1 4 [[V.i .i64 s.a.1,.i .i64 s.a.2,.i .i64 s.b.1,.i .i64 s.b.2]]]
        generalize Q3t R s.eg.1=fl at *
        have hjl:=(q8.1 hxj).1;have hgj:∀l:List O,(hx++l)[j]?=some (.arr fl.length 2 (fl.map P2.cs)):=λl=>X1 hxj
        have hsj:∀(l:List O) (o:O),(hx++l).set j o=hx.set j o++l:=λl o=>Ua l hjl o
        have htn:List.take fl.length (fl.map P2.cs)=fl.map P2.cs:=qe (by simp);have hFz:¬ fl=[]:=by rintro rfl;simp at hF1
        simp (disch:=omega) [go_sem,Qq,hlt,hq,hq',Sg4.cs,hee,hfe,evP,hgj,hsj,htn,hFz,Jn _ hi,Qf,Qc,Qk,Qm,Q0];have hl1:(fl++[s.eg.2]).length=fl.length+1:=by simp
        have hm1:(fl++[s.eg.2]).map P2.cs=fl.map P2.cs++[[V.i .i64 s.b.1,V.i .i64 s.b.2]]:=by rw[qx];rfl
        have hU3:=hU2 (fl++[s.eg.2]) (by simp);have hF2:=(hF.set (j:=j) (Wh (fl++[s.eg.2]) · (fl.length+1))).app (Flt.one (Qv6 s));rw[hl1,hm1]at hU3
        rw[hm1]at hF2
        have hks:KJ.map Prod.fst=(KJ.set i (s.eg.1,(⟨j+2,fl.length+1,0,fl.length+1⟩:PJz))).map Prod.fst:=by
         rw[List.map_set];exact(Ww _ _ _ (by rw[qp,hi];rfl)).symm
        have hks2:=congrArg (List.map P2.cs) hks;rw[List.map_map,List.map_map]at hks2
        refine⟨⟨by omega,by omega⟩,k+1,_,_,⟨by omega,by rw[hof];exact hU3,hF2,by simp;omega⟩,by omega,by simp,⟨by simp,by omega⟩,⟨by rw[List.map_set];rfl,hU3.cl2 (by simp)⟩,⟨⟨by simp,hks2⟩,?_⟩,hF2.WeakH' _⟩;rintro el x x1 _ rfl;exact of_eq_true (Yb x _)
   subst hkl;rw[qi]at hU
   have hR0:(neE (egs l)).length<=4096:=by
    refine Nat.le_trans (jc _ _) ?_;rw[Iz];omega
   have hR0l:(neE (egs l)).length<=l.length:=by
    refine Nat.le_trans (jc _ _) ?_;rw[Iz];omega
   have hRB:Wq (neE (egs l)):=Qp1 hbal;generalize neE (egs l)=R at *
   have hsort:∀xs:List P2,xs.length<=4096->∃ys:List P2,ys.Perm xs/\∀(h:List O) (id gen:Nat),h[id]?=some (.arr gen 2 (xs.map P2.cs))->ACall P fs [.own id gen 0 xs.length,.f fc []] h (λr h'=>r=.t []/\h'=h.set id (.arr gen 2 (ys.map P2.cs))):=λxs hx=>by
    obtain⟨ys,h1,_,h2⟩:=hs (λp:P2=>[p.x,p.y]) (λ_=>rfl) Qep Qsw fc hcal (λa b=>hc a b) xs (by omega);exact⟨ys,h1,h2⟩
   obtain⟨ys,hyp,hys⟩:=hsort (KJ.map Prod.fst) (by simp;omega);have hyl:ys.length=KJ.length:=by rw[hyp.length_eq,List.length_map]
   rw[List.length_map]at hys
   have hF0:∀k,(Q3t R k).length<=4096:=λk=>by
    unfold Q3t;rw[List.length_map];exact Nat.le_trans (jc _ _) hR0
   simp (disch:=omega) [go_sem,Qq];refine Qt (hys _ 1 _ (by simp)) ?_;simp[go_sem];refine Q8 (α:=Nat × List O × (P2->List P2))
    (λp=>p.1<=ys.length/\UMc p.2.1 KJ p.2.2/\PF p.2.2 R/\Flt p.2.1)
    (λp=>⟨[(6,.mp 0),(7,.own 1 (KJ.length+1) 0 KJ.length),(74,.own 1 (KJ.length+1) 0 KJ.length),(75,.i .i64 KJ.length),(76,.i .i64 p.1)],
     .mp (KJ.map (asG P2.enc evP))::.arr (KJ.length+1) 2 (ys.map P2.cs)::p.2.1⟩)
    (λp=>ys.length-p.1) (0,hx,Q3t R) ⟨Nat.zero_le _,hU,outF_ok R,hF⟩ ?_ ?_
   ·simp[go_sem];exact⟨hU.cl2 (by omega),λa _=>of_eq_true (Yb a _),hF.WeakH' _⟩
   ·clear hU hF;rintro⟨k,hx,F⟩ ⟨hk,hU,hPF,hF⟩;simp only at hk hU hPF hF ⊢;by_cases hkl:k=ys.length
    case neg =>
     have hlt:k<KJ.length:=by omega
     have hq:ys[k]?=some ys[k]:=q9 (by omega);generalize ys[k]=e at hq;have hem:e∈KJ.map Prod.fst:=hyp.mem_iff.1 (qb hq);have hic:(ys.map P2.cs)[k]?=some [V.i .i64 e.x,V.i .i64 e.y]:=by rw[qp,hq];rfl
     obtain⟨hicl,hic'⟩:=q8.1 hic;have hfe:Qo [1,1] (V.a [.i .i64 e.x,.i .i64 e.y]) (KJ.map (asG P2.enc evP))=_:=Ke Ez evP e KJ;cases hfn:Zf e KJ with
     | none=>exact absurd hem (fndG_none.1 hfn)
     | some q =>
       obtain⟨i,p⟩:=q;rw[hfn,Option.map_some]at hfe
       have hi:=Y7 hfn;obtain⟨j,rfl,hF1,hxj⟩:=hU.val i _ p hi;obtain⟨zs,hzp,hzs⟩:=hsort (F e) (by rw[(hPF e).length_eq.symm];exact hF0 e);have hzl:=hzp.length_eq;have hjl:=(q8.1 hxj).1;have hU2:=(hU.old (l:=zs) hi rfl (by omega)).app [O.arr 1 2 [e.cs]];rw[hzl]at hU2
       have hks:KJ.set i (e,(⟨j+2,(F e).length,0,(F e).length⟩:PJz))=KJ:=Ww _ _ _ hi;rw[hks]at hU2
       have hF2:=(hF.set (j:=j) (Wh zs · (F e).length)).app (Flt.one (o:=.arr 1 2 [e.cs]) (Wh [e] · 1));have hPF2:=hPF.perm hzp;have hgj:∀l:List O,(hx++l)[j]?=some (.arr (F e).length 2 ((F e).map P2.cs)):=λl=>X1 hxj
       have hsj:∀(l:List O) (o:O),(hx++l).set j o=hx.set j o++l:=λl o=>Ua l hjl o
       simp (disch:=omega) [go_sem,hlt,hic,hicl,hic',hfe,evP,Qf,Qc,Qk,Qm,Q0];refine Qt (hzs _ (j+2) _ (by simpa using hgj _)) ?_;simp (disch:=omega) [go_sem,hsj,Q0];exact⟨k+1,_,⟨by omega,_,hU2,hPF2,hF2⟩,by omega,by simp,by omega,hU2.cl2 (by simp),λa _=>of_eq_true (Yb a _),hF2.WeakH' _⟩
    subst hkl;have hUcl:=hU.cl2 (Nat.le_refl _);simp[go_sem,hyl];obtain⟨pa,hpa⟩:∃pa,pa=O.arr (KJ.length+1) 2 (ys.map P2.cs):=⟨_,rfl⟩
    have hpacl:∀n,pa.cl n:=λn=>by rw[hpa];exact Wh ys n _
    obtain⟨g,hg⟩:∃g,g=KJ.length+1:=⟨_,rfl⟩
    have hpa1:∀(o:O) (tl:List O),(o::pa::tl)[1]?=some (.arr g 2 (ys.map P2.cs)):=λo tl=>by rw[hpa,hg];rfl
    refine Qi [.t 12 1] (α:=Nat × O × List (P2 × PJz) × (P2->List P2) × List Eg × List (List P2) × List O × List (List V))
     (λp=>p.1<=ys.length/\PhI hx pa R p.2.1 p.2.2.1 p.2.2.2.1 p.2.2.2.2.1 p.2.2.2.2.2.1 p.2.2.2.2.2.2.1 p.2.2.2.2.2.2.2/\∀e∈ys.take p.1,p.2.2.2.1 e=[])
     (λp=>⟨[(6,.mp 0),(12,.own (hx.length+2) (p.2.2.2.2.2.1.length+1) 0 p.2.2.2.2.2.1.length),(85,.own 1 g 0 ys.length),(86,.i .i64 ys.length),(87,.i .i64 p.1)],
      p.2.1::pa::(hx++(.arr (p.2.2.2.2.2.1.length+1) 1 p.2.2.2.2.2.2.2::p.2.2.2.2.2.2.1))⟩)
     (λp=>ys.length-p.1) (0,.mp (KJ.map (asG P2.enc evP)),KJ,F,R,[],[],[]) ⟨Nat.zero_le _,⟨hU.pool pa,hPF,hRB,List.Perm.refl _,HeldR.nil _,by simp[Flt],by simp⟩,by simp⟩ ?_ ?_
    ·simp[go_sem,hpa,hg];exact⟨⟨by omega,by omega⟩,hU.cl2 (by omega),λa _=>of_eq_true (Yb a _),Qn (λo ho=>hF o ho _) ⟨.inr ⟨rfl,by simp[O.cl]⟩,trivial⟩⟩
    ·have hst:∀e∈R,e.1∈ys:=λe he=>by
      rw[hyp.mem_iff];cases hfn:Zf e.1 KJ with
      | none=>exact absurd rfl (hPF.none.1 (hU.none _ hfn) e he)
      | some q =>
        exact qo.2 ⟨(e.1,q.2),qb (Y7 (show Zf e.1 KJ=some (q.1,q.2) from hfn)),rfl⟩
     clear hU hPF hUcl;rintro⟨k,o,KJ1,F1,R1,ps,hy,cells⟩ ⟨hk,hI,hz⟩;simp only at hk hI hz ⊢;by_cases hkl:k=ys.length
     ·subst hkl;rw[qi]at hz
      have hR1:R1=[]:=by
       rw[List.eq_nil_iff_forall_not_mem];intro e he;have heR:e∈R:=hI.perm.mem_iff.1 (qg.2 (.inr he));exact hI.pf.none.1 (hz _ (hst e heR)) e he rfl
      subst hR1;have hfz:=Qk7 pcsD (rz:=1) (base:=o::pa::(hx++[.arr (ps.length+1) 1 cells])) hI.held (by simp);have hP:=hI.perm;rw[List.append_nil]at hP
      have hval:(V.l 1 (List.map (Qr4 2 (λ_:Unit=>[]) P2.cs) (ps.map λp=>((),p))))=Qd ps:=by
       unfold Qd;rw[List.map_map];rfl
      rw[hval]at hfz
      simp only[List.cons_append,j6,List.nil_append,List.length_map]at hfz;simp[go_sem,L04.r,Q2z,Qc,Qf];rw[hfz];exact⟨_,rfl,ps,hP,by have:=hI.len;omega,rfl⟩
     ·have hlt:k<ys.length:=by omega
      have hq:ys[k]?=some ys[k]:=q9 (by omega);generalize ys[k]=e at hq;have hic:(ys.map P2.cs)[k]?=some [V.i .i64 e.x,V.i .i64 e.y]:=by rw[qp,hq];rfl
      obtain⟨hicl,hic'⟩:=q8.1 hic;simp (disch:=omega) [go_sem,hlt,hpa1,hic,hicl,hic',Qf,Qc,Qk,Qm,Q0];obtain⟨cp,hcp⟩:∃cp,cp=hx.length+hy.length+3:=⟨_,rfl⟩
      have f14:∀(o out x:O) (hy2 tl:List O),hy2[hy.length]?=some x->(o::pa::(hx++(out::(hy2++tl))))[cp]?=some x:=λo out x hy2 tl h=>by
       rw[hcp,show hx.length+hy.length+3=(hx.length+(hy.length+1))+1+1 by omega];simp only[List.getElem?_cons_succ];rw[Qf];simp only[List.getElem?_cons_succ];exact X1 h
      have f14':∀(o out x:O) (hy2:List O),hy2[hy.length]?=some x->(o::pa::(hx++(out::hy2)))[cp]?=some x:=λo out x hy2 h=>by
       have:=f14 o out x hy2 [] h
       rwa [List.append_nil]at this
      refine Q8 (α:=O × List (P2 × PJz) × (P2->List P2) × List Eg × List (List P2) × List O × List (List V))
       (λp=>PhI hx pa R p.1 p.2.1 p.2.2.1 p.2.2.2.1 p.2.2.2.2.1 p.2.2.2.2.2.1 p.2.2.2.2.2.2/\(∀e∈ys.take k,p.2.2.1 e=[])/\p.2.2.2.2.2.1[hy.length]?=some (.arr 1 2 [e.cs]))
       (λp=>⟨[(6,.mp 0),(12,.own (hx.length+2) (p.2.2.2.2.1.length+1) 0 p.2.2.2.2.1.length),(14,.p cp 1 0 0),(85,.own 1 g 0 ys.length),(86,.i .i64 ys.length),(87,.i .i64 k)],
        p.1::pa::(hx++(.arr (p.2.2.2.2.1.length+1) 1 p.2.2.2.2.2.2::p.2.2.2.2.2.1))⟩)
       (λp=>p.2.2.2.1.length) (o,KJ1,F1,R1,ps,hy++[.arr 1 2 [e.cs]],cells) ⟨⟨hI.pool,hI.pf,hI.bal,hI.perm,hI.held.app _,hI.flt.app (Flt.one (Wh [e] · 1)),hI.len⟩,hz,by rw[Qc];rfl⟩ ?_ ?_
      ·simp[go_sem];have hI2:PhI hx pa R o KJ1 F1 R1 ps (hy++[.arr 1 2 [e.cs]]) cells:=⟨hI.pool,hI.pf,hI.bal,hI.perm,hI.held.app _,hI.flt.app (Flt.one (Wh [e] · 1)),hI.len⟩
       exact⟨⟨by omega,by omega⟩,Qjn (hI.ocl (by omega)),Qjn (hpacl _),hI2.weak' hF (by simp;omega) _⟩
      ·clear hI hz;rintro⟨o,KJ1,F1,R1,ps,hy2,cells⟩ ⟨hI,hz,h14⟩;simp only at hI hz h14 ⊢;have hR1:R1.length<=4096:=by have:=hI.len;omega
       have hps:=hI.len;have hfe:Qo [1,1] (V.a [.i .i64 e.x,.i .i64 e.y]) (KJ1.map (asG P2.enc evP))=_:=Ke Ez evP e KJ1;cases hfn:Zf e KJ1 with
       | none =>
         have hFe:=hI.pool.none _ hfn;rw[hfn,Option.map_none]at hfe
         simp (disch:=omega) [go_sem,f14' _ _ _ _ h14,hI.ents,hfe,P2.cs,Q0];have hz2:∀e'∈ys.take (k+1),F1 e'=[]:=λe' he'=>by
          rw[Q6 hq]at he'
          rcases qg.1 he' with h | h
          ·exact hz e' h
          ·rw[qn.1 h];exact hFe
         exact⟨k+1,o,KJ1,F1,R1,ps,hy2,cells,⟨by omega,hI,hz2⟩,by omega,Nat.le_refl _,⟨rfl,by omega⟩,Qvv (hI.ocl (by omega)),Qjn (hpacl _),hI.weak' hF (by omega) _⟩
       | some q =>
         obtain⟨i,p⟩:=q;rw[hfn,Option.map_some]at hfe
         obtain⟨hpn,hp1,els,hpj,_,_⟩:=hI.pool.val i e p (Y7 hfn);have hpj2:∀tl,(o::pa::(hx++tl))[p.j]?=some (.arr p.g 2 (els.map P2.cs)):=λtl=>X1 (l:=tl) hpj
         have hne:F1 e≠[]:=λhh=>by rw[hh]at hpn;simp at hpn;omega
         have hpp:0<p.n:=hp1;have hcall:=hp (hx.length+2) (o::pa::hx++(.arr (ps.length+1) 1 cells::hy2)) 0 o KJ1 F1 R1 e (hI.pool.app _) hI.pf hI.bal hne hR1;simp (disch:=omega) [go_sem,f14' _ _ _ _ h14,hI.ents,hfe,evP,hpj2,hpp,P2.cs,Q0];refine ACall.mono hcall ?_;rintro r h' ⟨vs,o',KJ2,F2,R2,rfl,rfl,hpool,hpf2,hbal2,hperm2,hvs⟩
         have hpool2:PoolAt (hx.length+2) (o'::pa::hx) 0 o' KJ2 F2:=by
          have h9:(o::pa::hx++(.arr (ps.length+1) 1 cells::hy2)).set 0 o'=(o'::pa::hx)++(.arr (ps.length+1) 1 cells::hy2):=rfl;rw[h9]at hpool
          exact hpool.sub (by simp) (by simp)
         simp (disch:=omega) [go_sem,Qf,Qc,Qk,Qm,Q0];have hcc:=hI.held.1;rw[List.length_map]at hcc
         have h14l:=(q8.1 h14).1;have htc:List.take ps.length cells=cells:=qe (by omega);have hrl:=Kl vs;have hvl:1<=vs.length:=by
          cases vs with
          | nil=>exact absurd rfl hvs
          | cons a b=>simp
         have hR2:=hperm2.length_eq;rw[j7,hrl]at hR2
         have hl1:(ps++[vs]).length=ps.length+1:=by simp
         have hHs:Qf5 (hx.length+3) (hy2++[.dead,.dead,.arr vs.length 2 (vs.map P2.cs)]) (ps++[vs]) (cells++[[.own (hx.length+3+(hy2.length+2)) vs.length 0 vs.length]]):=by
          have h9:=(hI.held.app [.dead,.dead,.arr vs.length 2 (vs.map P2.cs)]).snoc (j:=hy2.length+2) (g:=vs.length) (l:=((),vs)) (by rw[Qf];rfl);simpa[Qf5]using h9
         have hFs:Flt (hy2++[.dead,.dead,.arr vs.length 2 (vs.map P2.cs)]):=hI.flt.app λo ho n=>by
          simp only[List.mem_cons,List.not_mem_nil,or_false]at ho;rcases ho with rfl | rfl | rfl
          ·trivial
          ·trivial
          ·exact Wh vs n _
         have hI2:PhI hx pa R o' KJ2 F2 R2 (ps++[vs]) (hy2++[.dead,.dead,.arr vs.length 2 (vs.map P2.cs)]) (cells++[[.own (hx.length+3+(hy2.length+2)) vs.length 0 vs.length]]):=by
          refine⟨hpool2,hpf2,hbal2,?_,hHs,hFs,by rw[hl1];omega⟩;rw[List.flatMap_append,j6];refine List.Perm.trans (List.Perm.append_left _ ?_) hI.perm;simpa using hperm2
         have hz2:∀e'∈ys.take k,F2 e'=[]:=λe' he'=>by
          rw[hpf2.none];intro x hx';exact hI.pf.none.1 (hz e' he') x (hperm2.mem_iff.1 (qg.2 (.inr hx')))
         refine⟨⟨by omega,by omega,by omega⟩,o',KJ2,F2,R2,ps++[vs],_,_,⟨hI2,hz2,?_⟩,by omega,by simp,⟨hl1.symm,by simp;omega⟩,Qvv (hpool2.clh2 (by omega)),Qjn (hpacl _),?_⟩
         ·rw[X1 h14];rfl
         ·have hw:=hI2.weak hF (n:=hx.length+((hy2++[O.dead,.dead,.arr vs.length 2 (vs.map P2.cs)]).length+1)+1+1) (by omega) (ps.length+1+1) [O.arr 1 1 [[.own (hx.length+3+(hy2.length+2)) vs.length 0 vs.length]]];rw[show hx.length+(hy2.length+1)+1+1+2=hx.length+3+(hy2.length+2) by omega,hl1,htc];rw[j6]at hw
          exact hw
end
end Go.Abs
