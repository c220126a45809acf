/- Part of the library on which the proof stands: an abstract machine, its values and its soundness against the model; or what functions of the program do to such values. -/
import Derived.Test.YtnaehggpjfdenaaGreatGoCtG
import Derived.Test.YtnaehggpjfdenaaGreatGoSkE
import Derived.Test.YtnaehggpjfdenaaGreatGoSo
set_option linter.unusedVariables false
set_option linter.unusedSimpArgs false
set_option maxHeartbeats 16000000
set_option maxRecDepth 20000
namespace Go.Abs
def Q4k (P:Program) (f:FuncId):Prop:=∀(b:Nat) (h:List O) (id:Nat) (o:O) (KJ:List (P2 × PI)) (F:P2->List P2) (R:List Eg) (first:P2),PoolAt b h id o KJ F->PF F R->Be R->F first≠[]->R.length<=4096 ->
 ACall P f [.mp id,first.enc] h (λr h'=>∃(vs:List P2) (o':O) (KJ':List (P2 × PI)) (F':P2->List P2) (R':List Eg),r=.a [.own (h.length+2) vs.length 0 vs.length]/\h'=h.set id o'++[.dead,.dead,.arr vs.length 2 (vs.map P2.cs)] /\
  PoolAt b (h.set id o') id o' KJ' F'/\PF F' R'/\Be R'/\(Z7 vs++R').Perm R/\vs≠[])
theorem Q61 {P:Program} {f:FuncId} (ht:Q99 P f) {b:Nat} {h:List O} {id:Nat} {o:O} {KJ:List (P2 × PI)} {F:P2->List P2} (H:PoolAt b h id o KJ F) {e v:P2} {l:List P2} (he:F e=v::l) (tl:List O) :
  ACall P f [.mp id,e.enc] (h++tl) (λr h'=>r=v.enc/\∃o' KJ',h'=h.set id o'++tl/\PoolAt b (h.set id o') id o' KJ' (Q17 F e l)):=by
 obtain⟨i,p,els,a1,a2,a3,a4,a5,a6,a7⟩:=H.take he
 have hlt:=(qa.1 H.ob).1
 have hjt:=(qa.1 a3).1
 have hfe:Ql [1,1] e.enc (KJ.map (asG P2.enc evP))=some (some (i,.own p.j p.g p.o p.n)):=by
  rw[Xy Wd evP e KJ,a1];rfl
 refine (ht (h++tl) id o _ e i p.j p.g p.o p.n (els.map P2.cs) v H.mp (by rw[qf hlt];exact H.ob) hfe (by rw[qf hjt];exact a3) a4 (by simpa using a5) (by rw[qr,a6];rfl)).mono ?_
 rintro r h' ⟨rfl,hor⟩
 refine⟨rfl,?_⟩
 rcases hor with⟨b1,rfl⟩ | ⟨b1,o',b2,rfl⟩
 ·obtain⟨KJ',hp⟩:=a7 _ (.inl ⟨b1,rfl⟩)
  exact⟨_,KJ',List.set_append_left _ _ hlt,hp⟩
 ·obtain⟨KJ',hp⟩:=a7 o' (.inr ⟨b1,b2⟩)
  exact⟨o',KJ',List.set_append_left _ _ hlt,hp⟩
section hset
variable {h l:List O} {id k:Nat} {o x:O}
theorem Jj:(h.set id o++l)[h.length+k]?=l[k]?:=by
 have:=Qd (h.set id o) l k
 rwa [List.length_set]at this
theorem U4:(h.set id o++l)[h.length]?=l[0]?:=Jj (k:=0)
theorem Ke:(h.set id o++l).set (h.length+k) x=h.set id o++l.set k x:=by
 have:=Qo (h.set id o) l k x
 rwa [List.length_set]at this
theorem U2:(h.set id o++l).set h.length x=h.set id o++l.set 0 x:=Ke (k:=0)
theorem U3 {a b c d:O} {j:Nat}:(h.set id o++a::b::c::d::(List.replicate k O.dead++l))[h.length+4+k+j]?=l[j]?:=by
 rw[show h.length+4+k+j=h.length+(4+k+j) by omega,Jj]
 rw[show 4+k+j=(k+j)+1+1+1+1 by omega]
 simp only[List.getElem?_cons_succ]
 rw[qh (by simp)]
 simp
theorem Eo {a b c d:O}:(h.set id o++a::b::c::d::(List.replicate k O.dead++l))[h.length+4+k]?=l[0]?:=U3 (j:=0)
theorem Q0d {a b c d:O} {j:Nat}:(h.set id o++a::b::c::d::(List.replicate k O.dead++l)).set (h.length+4+k+j) x=h.set id o++a::b::c::d::(List.replicate k O.dead++l.set j x):=by
 rw[show h.length+4+k+j=h.length+(4+k+j) by omega,Ke]
 rw[show 4+k+j=(k+j)+1+1+1+1 by omega]
 simp only[List.set_cons_succ]
 rw[jl _ _ (by simp)]
 simp
theorem Qey {n:Nat} {a b:List O} {x:O} (hw:WeakH n a b):WeakH n (List.replicate k O.dead++x::a) (List.replicate (k+1) O.dead++b):=by
 rw[List.replicate_succ',j4]
 exact Qy (λo ho=>by rw[(List.mem_replicate.1 ho).2];simp[O.cl]) ⟨.inl rfl,hw⟩
theorem PoolAt.clh {b:Nat} {KJ:List (P2 × PI)} {F:P2->List P2} (H:PoolAt b (h.set id o) id o KJ F) {n:Nat} (hc:∀x∈h,x.cl n) (hn:h.length<=n):∀x∈h.set id o,x.cl n:=by
 intro x hx
 rcases List.mem_or_eq_of_mem_set hx with hx | rfl
 ·exact hc x hx
 ·have he:∀e∈KJ.map (asG P2.enc evP),e.1.cl n=true/\e.2.cl n=true:=by
   intro e he
   obtain⟨⟨k,p⟩,hm,rfl⟩:=qq.1 he
   obtain⟨i,hi⟩:=qt hm
   obtain⟨_,_,els,h3,_⟩:=H.val i k p hi
   have:=(qa.1 h3).1
   rw[List.length_set]at this
   simp[asG,evP,P2.enc,P2.cs,V.cl,V.cl1,V.cl0]
   omega
  rcases H.mp with rfl | rfl
  ·exact he
  ·exact he
theorem Qfq {j:Nat}:(List.replicate k O.dead++l)[k+j]?=l[j]?:=by
 rw[qh (by simp)];simp
theorem Qfp {j:Nat}:(List.replicate k O.dead++l).set (k+j) x=List.replicate k O.dead++l.set j x:=by
 rw[jl _ _ (by simp)];simp
end hset
section
variable {P:Program} (hm:P.follows .mixedOrders=true)
include hm
theorem Et {f ft:FuncId} (hf:Q9 P f (L06.c ft) L06.r L06.n) (ht:Q99 P ft):Q4k P f:=by
 intro b h id o KJ F R first H hF hB hne hR
 refine Bf λhcl=>?_
 obtain⟨v1,l1,hF1⟩:∃v l,F first=v::l:=by
  cases hh:F first with
  | nil=>exact absurd hh hne
  | cons v l=>exact⟨v,l,rfl⟩
 refine Q4c hm hf (qj rfl) ?_
 unfold L06.c
 generalize hK:Q73 h.length L06.r _=K
 have hlt:=(qa.1 H.ob).1
 simp (disch:=omega) [go_sem,P2.enc,P2.cs,Qd,Qg,Qo,Qt]
 refine (Q61 ht H hF1 _).mono ?_
 rintro r h' ⟨rfl,o1,KJ1,rfl,H1⟩
 obtain⟨R1,hR1,hPF1⟩:=hF.take hF1
 have hlen1:=hR1.length_eq
 rw[List.length_cons]at hlen1
 have hsl:(h.set id o1).length=h.length:=by simp
 simp (disch:=omega) [go_sem,P2.enc,P2.cs,Jj,U4,Ke,U2]
 refine Qi (α:=O × List (P2 × PI) × (P2->List P2) × List Eg × P2 × List P2 × Nat)
  (λp=>PoolAt b (h.set id p.1) id p.1 p.2.1 p.2.2.1/\PF p.2.2.1 p.2.2.2.1/\Trail first p.2.2.2.2.1 p.2.2.2.2.2.1 p.2.2.2.1 R/\p.2.2.2.2.2.1≠[]/\p.2.2.2.2.2.1.length+p.2.2.2.1.length<=4096)
  (λp=>⟨[(0,.mp id),(3,.p h.length 1 0 0),(4,.p (h.length+1) 1 0 0),(5,.p (h.length+3) 1 0 0),(6,.p (h.length+4+p.2.2.2.2.2.2) 1 0 0)],
   h.set id p.1++([.arr 1 2 [first.cs],.arr 1 1 [[.nil]],.arr p.2.2.2.2.2.1.length 2 (p.2.2.2.2.2.1.map P2.cs),.arr 1 1 [[.own (h.length+2) p.2.2.2.2.2.1.length 0 p.2.2.2.2.2.1.length]]]++(List.replicate p.2.2.2.2.2.2 O.dead++[.arr 1 2 [p.2.2.2.2.1.cs]]))⟩)
  (λp=>p.2.2.2.1.length) (o1,KJ1,Q17 F first l1,R1,v1,[first],0) ⟨H1,hPF1,(Trail.start hB first).step hR1,by simp,by simp;omega⟩ ?_ ?_
 ·simp[go_sem]
  exact⟨by omega,Qy (H1.clh (hcl _ (by omega)) (by omega)) (by simp[WeakH,O.cl,P2.cs,V.cl,V.cl1,V.cl0])⟩
 ·rintro⟨o2,KJ2,F2,R2,cur,vs,k⟩ ⟨H2,hPF2,hT,hvs,hlen⟩
  simp only at H2 hPF2 hT hvs hlen ⊢
  have hlt2:id<(h.set id o2).length:=by rw[List.length_set];exact hlt
  have hob:∀tl,(h.set id o2++tl)[id]?=some o2:=λtl=>by rw[qf hlt2];exact H2.ob
  cases hbf:(!(cur.x == first.x) || !(cur.y == first.y)) with
  | true =>
    have hne2:cur≠first:=by
     intro hh
     rw[hh]at hbf
     simp at hbf
    obtain⟨e,he,he2⟩:=hT.more hne2
    obtain⟨v,l,hFc⟩:∃v l,F2 cur=v::l:=by
     cases hh:F2 cur with
     | nil=>exact absurd he2 (hPF2.none.1 hh e he)
     | cons v l=>exact⟨v,l,rfl⟩
    obtain⟨R3,hR3,hPF3⟩:=hPF2.take hFc
    have hlen3:=hR3.length_eq
    rw[List.length_cons]at hlen3
    obtain⟨i,p,els,a1,_,a3,a4,_,_,_⟩:=H2.take hFc
    have hpj:∀tl,(h.set id o2++tl)[p.j]?=some (O.arr p.g 2 (els.map P2.cs)):=λtl=>by rw[qf (qa.1 a3).1];exact a3
    have hfe:Ql [1,1] (V.a [V.i .i64 cur.x,V.i .i64 cur.y]) (KJ2.map (asG P2.enc evP))=some (some (i,.own p.j p.g p.o p.n)):=by
     rw[show V.a [V.i .i64 cur.x,V.i .i64 cur.y]=cur.enc from rfl,Xy Wd evP cur KJ2,a1];rfl
    have hent:∀tl,Ze (h.set id o2++tl) (.mp id)=some (KJ2.map (asG P2.enc evP)):=λtl=>by
     unfold Ze
     simp only[hob tl]
     rcases H2.mp with rfl | rfl<;>rfl
    have hpn:0<p.n:=a4
    have hvt:List.take vs.length (vs.map P2.cs)=vs.map P2.cs:=qg (by simp)
    simp (disch:=omega) [go_sem,P2.enc,P2.cs,Jj,U4,Ke,U2,U3,Eo,Q0d,hbf,hent,hfe,hpj,hpn,hvt,Qfq,Qfp]
    refine⟨⟨by omega,by omega⟩,?_⟩
    refine (Q61 ht H2 hFc _).mono ?_
    rintro r h' ⟨rfl,o3,KJ3,rfl,H3⟩
    rw[List.set_set]at H3
    have hsl3:(h.set id o3).length=h.length:=by simp
    simp (disch:=omega) [go_sem,P2.enc,P2.cs,Jj,U4,Ke,U2,U3,Eo,Q0d,Qfq,Qfp]
    refine⟨o3,KJ3,Q17 F2 cur l,R3,v,vs++[cur],⟨H3,hPF3,hT.step hR3,by simp,by simp;omega⟩,by omega,k+1,by omega,⟨by omega,by omega,by omega⟩,?_⟩
    have hclo:∀n,(O.arr (vs.length+1) 2 ((vs++[cur]).map P2.cs)).cl n:=Qdw Qlq (vs++[cur])
    refine Qy (H3.clh (hcl _ (by omega)) (by omega)) ?_
    have hl1:(vs++[cur]).length=vs.length+1:=by simp
    have hm1:(vs++[cur]).map P2.cs=vs.map P2.cs++[[V.i .i64 cur.x,V.i .i64 cur.y]]:=by rw[qy];rfl
    rw[hl1,<- hm1]
    refine⟨.inr ⟨rfl,by simp[O.cl,V.cl,V.cl1,V.cl0]⟩,.inr ⟨rfl,by simp[O.cl,V.cl,V.cl1,V.cl0]⟩,.inr ⟨rfl,hclo _⟩,.inr ⟨rfl,by simp[O.cl,V.cl,V.cl1,V.cl0]⟩,Qey ⟨.inr ⟨rfl,by simp[O.cl,V.cl,V.cl1,V.cl0]⟩,trivial⟩⟩
  | false =>
    have hbe:cur=first:=by
     simp only[Bool.or_eq_false_iff,Bool.not_eq_false',beq_iff_eq]at hbf
     exact p2_iff.2 hbf
    rw[hbe]at hT
    obtain⟨hB2,hP2⟩:=hT.close hvs
    simp (disch:=omega) [go_sem,P2.enc,P2.cs,Jj,U4,Ke,U2,U3,Eo,Q0d,hbf]
    subst hK
    rw[Q9n]
    refine⟨[.a [.own (h.length+2) vs.length 0 vs.length]],h.set id o2++[.dead,.dead,.arr vs.length 2 (vs.map P2.cs)],?_,?_⟩
    ·simp (disch:=omega) [go_sem,L06.r,Jj]
    ·have hclo:∀n,(O.arr vs.length 2 (vs.map P2.cs)).cl n:=Qdw Qlq vs
     refine⟨rfl,by simp[V.cl,V.cl1,V.cl0],by simp,by simp,Qy (H2.clh (hcl _ (by simp)) (by simp)) ⟨.inl rfl,.inl rfl,.inr ⟨rfl,hclo _⟩,trivial⟩,?_⟩
     exact⟨vs,o2,KJ2,F2,R2,rfl,rfl,H2,hPF2,hB2,hP2,hvs⟩
end
def By (R:List Eg):P2->List P2:=λk=>(R.filter λe=>decide (e.1=k)).map Prod.snd
theorem outF_ok (R:List Eg):PF (By R) R:=λ_=>List.Perm.refl _
theorem Qi6 (R:List Eg) (a b:P2):By (R++[(a,b)])=Q17 (By R) a (By R a++[b]):=by
 funext k
 unfold By Q17
 rw[List.filter_append,qy]
 by_cases h:k=a
 ·subst h;simp
 ·rw[if_neg h]
  simp
  exact λhh=>h hh.symm
structure UMc (hx:List O) (KJ:List (P2 × PI)) (F:P2->List P2):Prop where
 val:∀(i:Nat) (k:P2) (p:PI),KJ[i]?=some (k,p)->∃j,p=⟨j+2,(F k).length,0,(F k).length⟩/\1<=(F k).length/\hx[j]?=some (.arr (F k).length 2 ((F k).map P2.cs))
 inj:∀(i i':Nat) (k k':P2) (p p':PI),KJ[i]?=some (k,p)->KJ[i']?=some (k',p')->p.j=p'.j->i=i'
 key:(KJ.map Prod.fst).Nodup
 none:∀e,Z8 e KJ=Option.none->F e=[]
theorem UMc.nil:UMc [] [] (λ_=>[]):=⟨by simp,by simp,by simp,by simp⟩
theorem UMc.app {hx:List O} {KJ:List (P2 × PI)} {F:P2->List P2} (h:UMc hx KJ F) (l:List O):UMc (hx++l) KJ F :=
 ⟨λi k p hi=>by obtain⟨j,h1,h2,h3⟩:=h.val i k p hi;exact⟨j,h1,h2,by rw[qf (qa.1 h3).1];exact h3⟩,h.inj,h.key,h.none⟩
theorem UMc.new {hx:List O} {KJ:List (P2 × PI)} {F:P2->List P2} (h:UMc hx KJ F) {e v:P2} (he:Z8 e KJ=Option.none) {l:List O} {j0:Nat} (hj:hx.length<=j0) (ho:(hx++l)[j0]?=some (.arr 1 2 [v.cs])) :
  UMc (hx++l) (KJ++[(e,⟨j0+2,1,0,1⟩)]) (Q17 F e [v]):=by
 have hk:=fndG_none.1 he
 have hval:∀(i:Nat) (k:P2) (p:PI),(KJ++[(e,(⟨j0+2,1,0,1⟩:PI))])[i]?=some (k,p)->(i<KJ.length/\KJ[i]?=some (k,p)/\k≠e/\p.j<hx.length+2)∨(i=KJ.length/\k=e/\p=⟨j0+2,1,0,1⟩):=by
  intro i k p hi
  by_cases hl:i<KJ.length
  ·rw[qf hl]at hi
   obtain⟨j,rfl,_,h3⟩:=h.val i k p hi
   have:=(qa.1 h3).1
   refine .inl ⟨hl,hi,?_,by simp only[];omega⟩
   rintro rfl
   exact hk (qq.2 ⟨_,qe hi,rfl⟩)
  ·rw[qh (by omega)]at hi
   have h0:i-KJ.length=0:=by
    have:=(qa.1 hi).1
    simp at this;omega
   rw[h0]at hi
   simp at hi
   exact .inr ⟨by omega,hi.1.symm,hi.2.symm⟩
 refine⟨λi k p hi=>?_,λi i' k k' p p' h1 h2 h3=>?_,?_,λa ha=>?_⟩
 ·rcases hval i k p hi with⟨_,h1,h2,_⟩ | ⟨_,rfl,rfl⟩
  ·rw[Xe h2]
   exact(h.app l).val i k p h1
  ·rw[J3]
   exact⟨j0,rfl,by simp,by simpa using ho⟩
 ·rcases hval i k p h1 with⟨_,a1,_,a3⟩ | ⟨a1,_,rfl⟩<;>rcases hval i' k' p' h2 with⟨_,b1,_,b3⟩ | ⟨b1,_,rfl⟩
  ·exact h.inj i i' k k' p p' a1 b1 h3
  ·simp only at h3;omega
  ·simp only at h3;omega
  ·omega
 ·rw[qy,List.nodup_append]
  exact⟨h.key,by simp,λa ha b hb=>by simp at hb;subst hb;rintro rfl;exact hk ha⟩
 ·have hn:=fndG_none.1 ha
  rw[qy,qi]at hn
  have hne:a≠e:=by rintro rfl;exact hn (.inr (by simp))
  rw[Xe hne]
  exact h.none a (fndG_none.2 λhm=>hn (.inl hm))
theorem UMc.old {hx:List O} {KJ:List (P2 × PI)} {F:P2->List P2} (h:UMc hx KJ F) {e:P2} {i j:Nat} {p:PI} (he:KJ[i]?=some (e,p)) (hj:p.j=j+2) {l:List P2} (hl:1<=l.length) :
  UMc (hx.set j (.arr l.length 2 (l.map P2.cs))) (KJ.set i (e,⟨j+2,l.length,0,l.length⟩)) (Q17 F e l):=by
 have hil:=(qa.1 he).1
 have hkey:(KJ.set i (e,(⟨j+2,l.length,0,l.length⟩:PI))).map Prod.fst=KJ.map Prod.fst:=by
  rw[List.map_set]
  exact K7 _ _ _ (by rw[qr,he];rfl)
 have hval:∀(i':Nat) (k:P2) (p':PI),(KJ.set i (e,(⟨j+2,l.length,0,l.length⟩:PI)))[i']?=some (k,p')->(i'≠i/\KJ[i']?=some (k,p')/\k≠e)∨(i'=i/\k=e/\p'=⟨j+2,l.length,0,l.length⟩):=by
  intro i' k p' hi
  by_cases hii:i=i'
  ·subst hii
   rw[qo hil]at hi
   simp only[Option.some.injEq,Prod.mk.injEq]at hi
   exact .inr ⟨rfl,hi.1.symm,hi.2.symm⟩
  ·rw[qv hii]at hi
   refine .inl ⟨λhh=>hii hh.symm,hi,?_⟩
   rintro rfl
   have h1:=Yl h.key hi
   have h2:=Yl h.key he
   rw[h1]at h2
   simp only[Option.some.injEq,Prod.mk.injEq]at h2
   exact hii h2.1.symm
 refine⟨λi' k p' hi=>?_,λi1 i2 k k' p1 p2 h1 h2 h3=>?_,by rw[hkey];exact h.key,λa ha=>?_⟩
 ·rcases hval i' k p' hi with⟨h1,h2,h3⟩ | ⟨_,rfl,rfl⟩
  ·rw[Xe h3]
   obtain⟨j',q1,q2,q3⟩:=h.val i' k p' h2
   refine⟨j',q1,q2,?_⟩
   rw[qv]
   ·exact q3
   ·rintro rfl
    exact h1 (h.inj i' i k e p' p h2 he (by rw[q1,hj]))
  ·rw[J3]
   refine⟨j,rfl,hl,?_⟩
   obtain⟨j',q1,q2,q3⟩:=h.val i k p he
   have hjj:j'=j:=by rw[q1]at hj;simp only at hj;omega
   subst hjj
   rw[qo (qa.1 q3).1]
 ·rcases hval i1 k p1 h1 with⟨a1,a2,_⟩ | ⟨rfl,_,rfl⟩<;>rcases hval i2 k' p2 h2 with⟨b1,b2,_⟩ | ⟨rfl,_,rfl⟩
  ·exact h.inj i1 i2 k k' p1 p2 a2 b2 h3
  ·exact h.inj i1 i2 k e p1 p a2 he (by rw[h3,hj])
  ·exact h.inj i1 i2 e k' p p2 he b2 (by rw[<- h3,hj])
  ·rfl
 ·have hn:=fndG_none.1 ha
  rw[hkey]at hn
  have hne:a≠e:=by rintro rfl;exact hn (qq.2 ⟨_,qe he,rfl⟩)
  rw[Xe hne]
  exact h.none a (fndG_none.2 hn)
theorem UMc.pool {hx:List O} {KJ:List (P2 × PI)} {F:P2->List P2} (h:UMc hx KJ F) (o1:O):PoolAt (hx.length+2) (.mp (KJ.map (asG P2.enc evP))::o1::hx) 0 (.mp (KJ.map (asG P2.enc evP))) KJ F where
 mp:=.inl rfl
 ob:=rfl
 val i k p hi:=by
  obtain⟨j,rfl,h2,h3⟩:=h.val i k p hi
  exact⟨rfl,h2,F k,by simpa using h3,by simp,by simp⟩
 key:=h.key
 lt i k p hi:=by
  obtain⟨j,rfl,h2,h3⟩:=h.val i k p hi
  have:=(qa.1 h3).1
  simp only[];omega
 none:=h.none
theorem UMc.cl2 {hx:List O} {KJ:List (P2 × PI)} {F:P2->List P2} (h:UMc hx KJ F) {N:Nat} (hN:hx.length+2<=N):∀(a b:V) (x:P2) (y:PI),(x,y)∈KJ->asG P2.enc evP (x,y)=(a,b)->a.cl N=true/\b.cl N=true:=λa b x y hm he=>by
 obtain⟨i,hi⟩:=qt hm
 obtain⟨j,rfl,_,h3⟩:=h.val i x y hi
 have:=(qa.1 h3).1
 simp only[asG,evP,Prod.mk.injEq]at he
 obtain⟨rfl,rfl⟩:=he
 simp[P2.enc,P2.cs,V.cl,V.cl1,V.cl0]
 omega
theorem ne_take {l:List Sg4} {k:Nat} {s:Sg4} (h:l[k]?=some s):neE (egs (l.take (k+1)))=neE (egs (l.take k))++(if s.eg.1=s.eg.2 then [] else [s.eg]):=by
 rw[Qa5 l h]
 unfold neE
 rw[List.filter_append]
 congr 1
 by_cases h:s.eg.1=s.eg.2
 ·simp[h]
 ·simp[h]
end Go.Abs
