/- Part of the library on which the proof stands: an abstract machine, its values and its soundness against the model; or what functions of the program do to such values. -/
import Derived.Test.YtnaehggpjfdenaaGreatGoCtF
import Derived.Test.YtnaehggpjfdenaaGreatGoOy
import Derived.Test.YtnaehggpjfdenaaGreatGoSo
set_option linter.unusedVariables false
set_option linter.unusedSimpArgs false
set_option maxHeartbeats 16000000
set_option maxRecDepth 20000
namespace Go.Abs
theorem Eu {α β:Type} (f:α->β):∀(l:List α) (i:Nat),(l.map f).eraseIdx i=(l.eraseIdx i).map f
 | [],_=>rfl
 | _::_,0=>rfl
 | a::l,i+1=>by simp[Eu f l i]
theorem Ko {α:Type}:∀(l:List α) (i:Nat) (a:α),l[i]?=some a->l.set i a=l
 | [],_,_,_=>rfl
 | b::l,0,a,h=>by simp at h;simp[h]
 | b::l,i+1,a,h=>by simp at h;simp[Ko l i a h]
structure PI where
 j:Nat
 g:Nat
 o:Nat
 n:Nat
def evP (p:PI):V:=.own p.j p.g p.o p.n
def Q2q (F:P2->List P2) (e:P2) (l:List P2):P2->List P2:=λk=>if k=e then l else F k
theorem Jj (F:P2->List P2) (e:P2) (l:List P2):Q2q F e l e=l:=if_pos rfl
theorem Xm {F:P2->List P2} {e k:P2} {l:List P2} (h:k≠e):Q2q F e l k=F k:=if_neg h
def PF (F:P2->List P2) (R:List Eg):Prop:=∀k,((R.filter λe=>decide (e.1=k)).map Prod.snd).Perm (F k)
theorem PF.mem {F:P2->List P2} {R:List Eg} (h:PF F R) {k v:P2}:v∈F k↔(k,v)∈R:=by
 rw[<- (h k).mem_iff,qo]
 constructor
 ·rintro⟨⟨a,b⟩,he,rfl⟩
  obtain⟨h1,h2⟩:=qu.1 he
  obtain rfl:a=k:=by simpa using h2
  exact h1
 ·intro hv
  exact⟨(k,v),qu.2 ⟨hv,by simp⟩,rfl⟩
theorem PF.take {F:P2->List P2} {R:List Eg} (h:PF F R) {e v:P2} {l:List P2} (he:F e=v::l):∃R',R.Perm ((e,v)::R')/\PF (Q2q F e l) R':=by
 have hm:(e,v)∈R:=h.mem.1 (by rw[he];simp)
 refine⟨R.erase (e,v),List.perm_cons_erase hm,λk=>?_⟩
 have hp:=((List.perm_cons_erase hm).filter λx=>decide (x.1=k)).map Prod.snd
 have hk:=h k
 by_cases hke:k=e
 ·subst hke
  rw[Jj]
  rw[he]at hk
  rw[List.filter_cons,if_pos (by simp),List.map_cons]at hp
  exact(hp.symm.trans hk).cons_inv
 ·rw[Xm hke]
  rw[List.filter_cons,if_neg (by simpa using λh=>hke h.symm)]at hp
  exact hp.symm.trans hk
theorem PF.none {F:P2->List P2} {R:List Eg} (h:PF F R) {k:P2}:F k=[]↔∀e∈R,e.1≠k:=by
 constructor
 ·rintro hk ⟨a,b⟩ he rfl
  have:=h.mem.2 he
  rw[hk]at this;simp at this
 ·intro hn
  refine List.eq_nil_iff_forall_not_mem.2 λv hv=>?_
  exact hn _ (h.mem.1 hv) rfl
structure PoolAt (b:Nat) (h:List O) (id:Nat) (o:O) (KJ:List (P2 × PI)) (F:P2->List P2):Prop where
 mp:Qr8 o (KJ.map (asG P2.enc evP))
 ob:h[id]?=some o
 val:∀(i:Nat) (k:P2) (p:PI),KJ[i]?=some (k,p)->p.n=(F k).length/\1<=p.n/\∃els:List P2,h[p.j]?=some (.arr p.g 2 (els.map P2.cs))/\p.o+p.n<=els.length/\(els.drop p.o).take p.n=F k
 key:(KJ.map Prod.fst).Nodup
 lt:∀(i:Nat) (k:P2) (p:PI),KJ[i]?=some (k,p)->p.j<b
 none:∀e,Zc e KJ=Option.none->F e=[]
theorem PoolAt.app {b:Nat} {h:List O} {id:Nat} {o:O} {KJ:List (P2 × PI)} {F:P2->List P2} (H:PoolAt b h id o KJ F) (l:List O):PoolAt b (h++l) id o KJ F where
 mp:=H.mp
 ob:=by rw[qd (q8.1 H.ob).1];exact H.ob
 val i k p hi:=by
  obtain⟨h1,h2,els,h3,h4⟩:=H.val i k p hi
  exact⟨h1,h2,els,by rw[qd (q8.1 h3).1];exact h3,h4⟩
 key:=H.key
 lt:=H.lt
 none:=H.none
theorem PoolAt.sub {b:Nat} {h l:List O} {id:Nat} {o:O} {KJ:List (P2 × PI)} {F:P2->List P2} (H:PoolAt b (h++l) id o KJ F) (hb:b<=h.length) (hid:id<h.length):PoolAt b h id o KJ F where
 mp:=H.mp
 ob:=by have:=H.ob;rwa [qd hid]at this
 val i k p hi:=by
  obtain⟨h1,h2,els,h3,h4⟩:=H.val i k p hi
  have:=H.lt i k p hi
  exact⟨h1,h2,els,by rwa [qd (by omega)]at h3,h4⟩
 key:=H.key
 lt:=H.lt
 none:=H.none
theorem Qhw {L:List (P2 × PI)} {i:Nat} {e:P2} {p:PI} (hn:(L.map Prod.fst).Nodup) (hi:L[i]?=some (e,p)):e∉(L.eraseIdx i).map Prod.fst/\∀k,k≠e->(k∈(L.eraseIdx i).map Prod.fst↔k∈L.map Prod.fst):=by
 have hlt:=(q8.1 hi).1
 have hp:L.Perm ((e,p)::L.eraseIdx i):=by
  have h1:=List.eraseIdx_eq_take_drop_succ L i
  have h2:L=L.take i++(e,p)::L.drop (i+1):=by
   have h3:=List.take_append_drop i L
   rw[List.drop_eq_getElem_cons hlt,(q8.1 hi).2]at h3
   exact h3.symm
  rw[h1]
  conv=>lhs;rw[h2]
  exact List.perm_middle
 have hm:=hp.map Prod.fst
 rw[List.map_cons]at hm
 have hnd:=hm.nodup_iff.1 hn
 refine⟨(List.nodup_cons.1 hnd).1,λk hk=>?_⟩
 rw[hm.mem_iff,List.mem_cons]
 simp[hk]
theorem PoolAt.take {b:Nat} {h:List O} {id:Nat} {o:O} {KJ:List (P2 × PI)} {F:P2->List P2} (H:PoolAt b h id o KJ F) {e v:P2} {l:List P2} (he:F e=v::l) :
  ∃(i:Nat) (p:PI) (els:List P2),Zc e KJ=some (i,p)/\KJ[i]?=some (e,p)/\h[p.j]?=some (.arr p.g 2 (els.map P2.cs))/\1<=p.n/\p.o+p.n<=els.length/\els[p.o]?=some v /\
   ∀o',((p.n=1/\o'=.md ((KJ.map (asG P2.enc evP)).eraseIdx i))∨(p.n≠1/\Qr8 o' ((KJ.map (asG P2.enc evP)).set i (e.enc,.own p.j p.g (p.o+1) (p.n-1))))) ->
    ∃KJ',PoolAt b (h.set id o') id o' KJ' (Q2q F e l):=by
 cases hf:Zc e KJ with
 | none=>rw[H.none e hf]at he;simp at he
 | some q =>
   obtain⟨i,p⟩:=q
   have hi:=Zx hf
   obtain⟨h1,h2,els,h3,h4,h5⟩:=H.val i e p hi
   have hlt:=(q8.1 H.ob).1
   rw[he]at h1 h5
   simp only[List.length_cons]at h1
   have hv:els[p.o]?=some v:=by
    have h6:=congrArg (λl:List P2=>l[0]?) h5
    simp only[jf,jh]at h6
    rw[if_pos (by omega)]at h6
    simpa using h6
   have hl:(els.drop (p.o+1)).take (p.n-1)=l:=by
    have h6:=congrArg List.tail h5
    simp only[List.tail_cons]at h6
    rw[<- h6,<- List.drop_one,List.drop_take,List.drop_drop]
   refine⟨i,p,els,rfl,hi,h3,h2,h4,hv,?_⟩
   have hkeep:∀(o':O) (j g:Nat) (x:List P2),h[j]?=some (.arr g 2 (x.map P2.cs))->(h.set id o')[j]?=some (.arr g 2 (x.map P2.cs)):=λo' j g x hj=>by
    rw[qt]
    ·exact hj
    ·rintro rfl
     rw[H.ob]at hj
     rcases H.mp with h | h<;>rw[h]at hj<;>simp at hj
   rintro o' (⟨a1,a2⟩ | ⟨a1,a2⟩)
   ·obtain⟨e1,e2⟩:=Qhw H.key hi
    have hl0:l=[]:=ql (by omega)
    refine⟨KJ.eraseIdx i,?_,?_,?_,?_,?_,?_⟩
    ·rw[Eu]at a2;exact .inr a2
    ·rw[qm hlt]
    ·intro i' k p' hk
     have hne:k≠e:=by
      rintro rfl
      exact e1 (qo.2 ⟨_,qb hk,rfl⟩)
     have hm:=List.mem_of_mem_eraseIdx (qb hk)
     obtain⟨i2,hi2⟩:=qq hm
     rw[Xm hne]
     obtain⟨b1,b2,els2,b3,b4⟩:=H.val i2 k p' hi2
     exact⟨b1,b2,els2,hkeep _ _ _ _ b3,b4⟩
    ·exact H.key.sublist ((List.eraseIdx_sublist KJ i).map Prod.fst)
    ·intro i' k p' hk
     obtain⟨i2,hi2⟩:=qq (List.mem_of_mem_eraseIdx (qb hk))
     exact H.lt i2 k p' hi2
    ·intro k hk
     by_cases hke:k=e
     ·subst hke;rw[Jj,hl0]
     ·rw[Xm hke]
      refine H.none k (fndG_none.2 λhm=>?_)
      exact fndG_none.1 hk ((e2 k hke).2 hm)
   ·refine⟨KJ.set i (e,⟨p.j,p.g,p.o+1,p.n-1⟩),?_,?_,?_,?_,?_,?_⟩
    ·rw[List.map_set];exact a2
    ·rw[qm hlt]
    ·intro i' k p' hk
     by_cases hii:i=i'
     ·subst hii
      rw[qm (q8.1 hi).1]at hk
      simp only[Option.some.injEq,Prod.mk.injEq]at hk
      obtain⟨rfl,rfl⟩:=hk
      rw[Jj]
      exact⟨by simp only[];omega,by simp only[];omega,els,hkeep _ _ _ _ h3,by simp only[];omega,hl⟩
     ·rw[qt hii]at hk
      have hne:k≠e:=by
       rintro rfl
       have:=Yv H.key hk
       rw[hf]at this
       simp only[Option.some.injEq,Prod.mk.injEq]at this
       exact hii this.1
      rw[Xm hne]
      obtain⟨b1,b2,els2,b3,b4⟩:=H.val i' k p' hk
      exact⟨b1,b2,els2,hkeep _ _ _ _ b3,b4⟩
    ·have:(KJ.set i (e,(⟨p.j,p.g,p.o+1,p.n-1⟩:PI))).map Prod.fst=KJ.map Prod.fst:=by
      rw[List.map_set]
      exact Ko _ _ _ (by rw[qp,hi];rfl)
     rw[this];exact H.key
    ·intro i' k p' hk
     by_cases hii:i=i'
     ·subst hii
      rw[qm (q8.1 hi).1]at hk
      simp only[Option.some.injEq,Prod.mk.injEq]at hk
      obtain⟨rfl,rfl⟩:=hk
      exact H.lt i _ p hi
     ·rw[qt hii]at hk
      exact H.lt i' k p' hk
    ·intro k hk
     rw[Q00 hf]at hk
     split at hk
     ·simp at hk
     ·rename_i hne
      rw[Xm hne]
      exact H.none k hk
def Q7b (P:Program) (f:FuncId):Prop:=∀(b:Nat) (h:List O) (id:Nat) (o:O) (KJ:List (P2 × PI)) (F:P2->List P2) (R:List Eg) (first:P2),PoolAt b h id o KJ F->PF F R->Kj R->F first≠[]->R.length<=4096 ->
 ACall P f [.mp id,first.enc] h (λr h'=>∃(vs:List P2) (o':O) (KJ':List (P2 × PI)) (F':P2->List P2) (R':List Eg),r=.a [.own (h.length+2) vs.length 0 vs.length]/\h'=h.set id o'++[.dead,.dead,.arr vs.length 2 (vs.map P2.cs)] /\
  PoolAt b (h.set id o') id o' KJ' F'/\PF F' R'/\Kj R'/\(Qs vs++R').Perm R/\vs≠[])
theorem Q8y {P:Program} {f:FuncId} (ht:Qco P f) {b:Nat} {h:List O} {id:Nat} {o:O} {KJ:List (P2 × PI)} {F:P2->List P2} (H:PoolAt b h id o KJ F) {e v:P2} {l:List P2} (he:F e=v::l) (tl:List O) :
  ACall P f [.mp id,e.enc] (h++tl) (λr h'=>r=v.enc/\∃o' KJ',h'=h.set id o'++tl/\PoolAt b (h.set id o') id o' KJ' (Q2q F e l)):=by
 obtain⟨i,p,els,a1,a2,a3,a4,a5,a6,a7⟩:=H.take he
 have hlt:=(q8.1 H.ob).1
 have hjt:=(q8.1 a3).1
 have hfe:Qn [1,1] e.enc (KJ.map (asG P2.enc evP))=some (some (i,.own p.j p.g p.o p.n)):=by
  rw[Je U3 evP e KJ,a1];rfl
 refine (ht (h++tl) id o _ e i p.j p.g p.o p.n (els.map P2.cs) v H.mp (by rw[qd hlt];exact H.ob) hfe (by rw[qd hjt];exact a3) a4 (by simpa using a5) (by rw[qp,a6];rfl)).mono ?_
 rintro r h' ⟨rfl,hor⟩
 refine⟨rfl,?_⟩
 rcases hor with⟨b1,rfl⟩ | ⟨b1,o',b2,rfl⟩
 ·obtain⟨KJ',hp⟩:=a7 _ (.inl ⟨b1,rfl⟩)
  exact⟨_,KJ',List.set_append_left _ _ hlt,hp⟩
 ·obtain⟨KJ',hp⟩:=a7 o' (.inr ⟨b1,b2⟩)
  exact⟨o',KJ',List.set_append_left _ _ hlt,hp⟩
section hset
variable {h l:List O} {id k:Nat} {o x:O}
theorem K0:(h.set id o++l)[h.length+k]?=l[k]?:=by
 have:=Qf (h.set id o) l k
 rwa [List.length_set]at this
theorem Uw:(h.set id o++l)[h.length]?=l[0]?:=K0 (k:=0)
theorem Kx:(h.set id o++l).set (h.length+k) x=h.set id o++l.set k x:=by
 have:=Qo (h.set id o) l k x
 rwa [List.length_set]at this
theorem Uu:(h.set id o++l).set h.length x=h.set id o++l.set 0 x:=Kx (k:=0)
theorem Uv {a b c d:O} {j:Nat}:(h.set id o++a::b::c::d::(List.replicate k O.dead++l))[h.length+4+k+j]?=l[j]?:=by
 rw[show h.length+4+k+j=h.length+(4+k+j) by omega,K0]
 rw[show 4+k+j=(k+j)+1+1+1+1 by omega]
 simp only[List.getElem?_cons_succ]
 rw[qf (by simp)]
 simp
theorem Ip {a b c d:O}:(h.set id o++a::b::c::d::(List.replicate k O.dead++l))[h.length+4+k]?=l[0]?:=Uv (j:=0)
theorem Q1l {a b c d:O} {j:Nat}:(h.set id o++a::b::c::d::(List.replicate k O.dead++l)).set (h.length+4+k+j) x=h.set id o++a::b::c::d::(List.replicate k O.dead++l.set j x):=by
 rw[show h.length+4+k+j=h.length+(4+k+j) by omega,Kx]
 rw[show 4+k+j=(k+j)+1+1+1+1 by omega]
 simp only[List.set_cons_succ]
 rw[jp _ _ (by simp)]
 simp
theorem Qij {n:Nat} {a b:List O} {x:O} (hw:WeakH n a b):WeakH n (List.replicate k O.dead++x::a) (List.replicate (k+1) O.dead++b):=by
 rw[List.replicate_succ',j6]
 exact Qz (λo ho=>by rw[(List.mem_replicate.1 ho).2];simp[O.cl]) ⟨.inl rfl,hw⟩
theorem PoolAt.clh {b:Nat} {KJ:List (P2 × PI)} {F:P2->List P2} (H:PoolAt b (h.set id o) id o KJ F) {n:Nat} (hc:∀x∈h,x.cl n) (hn:h.length<=n):∀x∈h.set id o,x.cl n:=by
 intro x hx
 rcases List.mem_or_eq_of_mem_set hx with hx | rfl
 ·exact hc x hx
 ·have he:∀e∈KJ.map (asG P2.enc evP),e.1.cl n=true/\e.2.cl n=true:=by
   intro e he
   obtain⟨⟨k,p⟩,hm,rfl⟩:=qo.1 he
   obtain⟨i,hi⟩:=qq hm
   obtain⟨_,_,els,h3,_⟩:=H.val i k p hi
   have:=(q8.1 h3).1
   rw[List.length_set]at this
   simp[asG,evP,P2.enc,P2.cs,V.cl,V.cl1,V.cl0]
   omega
  rcases H.mp with rfl | rfl
  ·exact he
  ·exact he
theorem Qjd {j:Nat}:(List.replicate k O.dead++l)[k+j]?=l[j]?:=by
 rw[qf (by simp)];simp
theorem Qjc {j:Nat}:(List.replicate k O.dead++l).set (k+j) x=List.replicate k O.dead++l.set j x:=by
 rw[jp _ _ (by simp)];simp
end hset
section
variable {P:Program} (hm:P.follows .mixedOrders=true)
include hm
theorem Iy {f ft:FuncId} (hf:Q9 P f (L06.c ft) L06.r L06.n) (ht:Qco P ft):Q7b P f:=by
 intro b h id o KJ F R first H hF hB hne hR
 refine Q0b λhcl=>?_
 obtain⟨v1,l1,hF1⟩:∃v l,F first=v::l:=by
  cases hh:F first with
  | nil=>exact absurd hh hne
  | cons v l=>exact⟨v,l,rfl⟩
 refine Q76 hm hf (qh rfl) ?_
 unfold L06.c
 generalize hK:Qa5 h.length L06.r _=K
 have hlt:=(q8.1 H.ob).1
 simp (disch:=omega) [go_sem,P2.enc,P2.cs,Qf,Qi,Qo,Qr]
 refine (Q8y ht H hF1 _).mono ?_
 rintro r h' ⟨rfl,o1,KJ1,rfl,H1⟩
 obtain⟨R1,hR1,hPF1⟩:=hF.take hF1
 have hlen1:=hR1.length_eq
 rw[List.length_cons]at hlen1
 have hsl:(h.set id o1).length=h.length:=by simp
 simp (disch:=omega) [go_sem,P2.enc,P2.cs,K0,Uw,Kx,Uu]
 refine Qc (α:=O × List (P2 × PI) × (P2->List P2) × List Eg × P2 × List P2 × Nat)
  (λp=>PoolAt b (h.set id p.1) id p.1 p.2.1 p.2.2.1/\PF p.2.2.1 p.2.2.2.1/\Trail first p.2.2.2.2.1 p.2.2.2.2.2.1 p.2.2.2.1 R/\p.2.2.2.2.2.1≠[]/\p.2.2.2.2.2.1.length+p.2.2.2.1.length<=4096)
  (λp=>⟨[(0,.mp id),(3,.p h.length 1 0 0),(4,.p (h.length+1) 1 0 0),(5,.p (h.length+3) 1 0 0),(6,.p (h.length+4+p.2.2.2.2.2.2) 1 0 0)],
   h.set id p.1++([.arr 1 2 [first.cs],.arr 1 1 [[.nil]],.arr p.2.2.2.2.2.1.length 2 (p.2.2.2.2.2.1.map P2.cs),.arr 1 1 [[.own (h.length+2) p.2.2.2.2.2.1.length 0 p.2.2.2.2.2.1.length]]]++(List.replicate p.2.2.2.2.2.2 O.dead++[.arr 1 2 [p.2.2.2.2.1.cs]]))⟩)
  (λp=>p.2.2.2.1.length) (o1,KJ1,Q2q F first l1,R1,v1,[first],0) ⟨H1,hPF1,(Trail.start hB first).step hR1,by simp,by simp;omega⟩ ?_ ?_
 ·simp[go_sem]
  exact⟨by omega,Qz (H1.clh (hcl _ (by omega)) (by omega)) (by simp[WeakH,O.cl,P2.cs,V.cl,V.cl1,V.cl0])⟩
 ·rintro⟨o2,KJ2,F2,R2,cur,vs,k⟩ ⟨H2,hPF2,hT,hvs,hlen⟩
  simp only at H2 hPF2 hT hvs hlen ⊢
  have hlt2:id<(h.set id o2).length:=by rw[List.length_set];exact hlt
  have hob:∀tl,(h.set id o2++tl)[id]?=some o2:=λtl=>by rw[qd hlt2];exact H2.ob
  cases hbf:(!(cur.x == first.x) || !(cur.y == first.y)) with
  | true =>
    have hne2:cur≠first:=by
     intro hh
     rw[hh]at hbf
     simp at hbf
    obtain⟨e,he,he2⟩:=hT.more hne2
    obtain⟨v,l,hFc⟩:∃v l,F2 cur=v::l:=by
     cases hh:F2 cur with
     | nil=>exact absurd he2 (hPF2.none.1 hh e he)
     | cons v l=>exact⟨v,l,rfl⟩
    obtain⟨R3,hR3,hPF3⟩:=hPF2.take hFc
    have hlen3:=hR3.length_eq
    rw[List.length_cons]at hlen3
    obtain⟨i,p,els,a1,_,a3,a4,_,_,_⟩:=H2.take hFc
    have hpj:∀tl,(h.set id o2++tl)[p.j]?=some (O.arr p.g 2 (els.map P2.cs)):=λtl=>by rw[qd (q8.1 a3).1];exact a3
    have hfe:Qn [1,1] (V.a [V.i .i64 cur.x,V.i .i64 cur.y]) (KJ2.map (asG P2.enc evP))=some (some (i,.own p.j p.g p.o p.n)):=by
     rw[show V.a [V.i .i64 cur.x,V.i .i64 cur.y]=cur.enc from rfl,Je U3 evP cur KJ2,a1];rfl
    have hent:∀tl,Zi (h.set id o2++tl) (.mp id)=some (KJ2.map (asG P2.enc evP)):=λtl=>by
     unfold Zi
     simp only[hob tl]
     rcases H2.mp with rfl | rfl<;>rfl
    have hpn:0<p.n:=a4
    have hvt:List.take vs.length (vs.map P2.cs)=vs.map P2.cs:=qe (by simp)
    simp (disch:=omega) [go_sem,P2.enc,P2.cs,K0,Uw,Kx,Uu,Uv,Ip,Q1l,hbf,hent,hfe,hpj,hpn,hvt,Qjd,Qjc]
    refine⟨⟨by omega,by omega⟩,?_⟩
    refine (Q8y ht H2 hFc _).mono ?_
    rintro r h' ⟨rfl,o3,KJ3,rfl,H3⟩
    rw[List.set_set]at H3
    have hsl3:(h.set id o3).length=h.length:=by simp
    simp (disch:=omega) [go_sem,P2.enc,P2.cs,K0,Uw,Kx,Uu,Uv,Ip,Q1l,Qjd,Qjc]
    refine⟨o3,KJ3,Q2q F2 cur l,R3,v,vs++[cur],⟨H3,hPF3,hT.step hR3,by simp,by simp;omega⟩,by omega,k+1,by omega,⟨by omega,by omega,by omega⟩,?_⟩
    have hclo:∀n,(O.arr (vs.length+1) 2 ((vs++[cur]).map P2.cs)).cl n:=Qbk pcsD (vs++[cur])
    refine Qz (H3.clh (hcl _ (by omega)) (by omega)) ?_
    have hl1:(vs++[cur]).length=vs.length+1:=by simp
    have hm1:(vs++[cur]).map P2.cs=vs.map P2.cs++[[V.i .i64 cur.x,V.i .i64 cur.y]]:=by rw[qx];rfl
    rw[hl1,<- hm1]
    refine⟨.inr ⟨rfl,by simp[O.cl,V.cl,V.cl1,V.cl0]⟩,.inr ⟨rfl,by simp[O.cl,V.cl,V.cl1,V.cl0]⟩,.inr ⟨rfl,hclo _⟩,.inr ⟨rfl,by simp[O.cl,V.cl,V.cl1,V.cl0]⟩,Qij ⟨.inr ⟨rfl,by simp[O.cl,V.cl,V.cl1,V.cl0]⟩,trivial⟩⟩
  | false =>
    have hbe:cur=first:=by
     simp only[Bool.or_eq_false_iff,Bool.not_eq_false',beq_iff_eq]at hbf
     exact p2_iff.2 hbf
    rw[hbe]at hT
    obtain⟨hB2,hP2⟩:=hT.close hvs
    simp (disch:=omega) [go_sem,P2.enc,P2.cs,K0,Uw,Kx,Uu,Uv,Ip,Q1l,hbf]
    subst hK
    rw[Qd3]
    refine⟨[.a [.own (h.length+2) vs.length 0 vs.length]],h.set id o2++[.dead,.dead,.arr vs.length 2 (vs.map P2.cs)],?_,?_⟩
    ·simp (disch:=omega) [go_sem,L06.r,K0]
    ·have hclo:∀n,(O.arr vs.length 2 (vs.map P2.cs)).cl n:=Qbk pcsD vs
     refine⟨rfl,by simp[V.cl,V.cl1,V.cl0],by simp,by simp,Qz (H2.clh (hcl _ (by simp)) (by simp)) ⟨.inl rfl,.inl rfl,.inr ⟨rfl,hclo _⟩,trivial⟩,?_⟩
     exact⟨vs,o2,KJ2,F2,R2,rfl,rfl,H2,hPF2,hB2,hP2,hvs⟩
end
def Q12 (R:List Eg):P2->List P2:=λk=>(R.filter λe=>decide (e.1=k)).map Prod.snd
theorem outF_ok (R:List Eg):PF (Q12 R) R:=λ_=>List.Perm.refl _
theorem Qls (R:List Eg) (a b:P2):Q12 (R++[(a,b)])=Q2q (Q12 R) a (Q12 R a++[b]):=by
 funext k
 unfold Q12 Q2q
 rw[List.filter_append,qx]
 by_cases h:k=a
 ·subst h;simp
 ·rw[if_neg h]
  simp
  exact λhh=>h hh.symm
structure UMc (hx:List O) (KJ:List (P2 × PI)) (F:P2->List P2):Prop where
 val:∀(i:Nat) (k:P2) (p:PI),KJ[i]?=some (k,p)->∃j,p=⟨j+2,(F k).length,0,(F k).length⟩/\1<=(F k).length/\hx[j]?=some (.arr (F k).length 2 ((F k).map P2.cs))
 inj:∀(i i':Nat) (k k':P2) (p p':PI),KJ[i]?=some (k,p)->KJ[i']?=some (k',p')->p.j=p'.j->i=i'
 key:(KJ.map Prod.fst).Nodup
 none:∀e,Zc e KJ=Option.none->F e=[]
theorem UMc.nil:UMc [] [] (λ_=>[]):=⟨by simp,by simp,by simp,by simp⟩
theorem UMc.app {hx:List O} {KJ:List (P2 × PI)} {F:P2->List P2} (h:UMc hx KJ F) (l:List O):UMc (hx++l) KJ F :=
 ⟨λi k p hi=>by obtain⟨j,h1,h2,h3⟩:=h.val i k p hi;exact⟨j,h1,h2,by rw[qd (q8.1 h3).1];exact h3⟩,h.inj,h.key,h.none⟩
theorem UMc.new {hx:List O} {KJ:List (P2 × PI)} {F:P2->List P2} (h:UMc hx KJ F) {e v:P2} (he:Zc e KJ=Option.none) {l:List O} {j0:Nat} (hj:hx.length<=j0) (ho:(hx++l)[j0]?=some (.arr 1 2 [v.cs])) :
  UMc (hx++l) (KJ++[(e,⟨j0+2,1,0,1⟩)]) (Q2q F e [v]):=by
 have hk:=fndG_none.1 he
 have hval:∀(i:Nat) (k:P2) (p:PI),(KJ++[(e,(⟨j0+2,1,0,1⟩:PI))])[i]?=some (k,p)->(i<KJ.length/\KJ[i]?=some (k,p)/\k≠e/\p.j<hx.length+2)∨(i=KJ.length/\k=e/\p=⟨j0+2,1,0,1⟩):=by
  intro i k p hi
  by_cases hl:i<KJ.length
  ·rw[qd hl]at hi
   obtain⟨j,rfl,_,h3⟩:=h.val i k p hi
   have:=(q8.1 h3).1
   refine .inl ⟨hl,hi,?_,by simp only[];omega⟩
   rintro rfl
   exact hk (qo.2 ⟨_,qb hi,rfl⟩)
  ·rw[qf (by omega)]at hi
   have h0:i-KJ.length=0:=by
    have:=(q8.1 hi).1
    simp at this;omega
   rw[h0]at hi
   simp at hi
   exact .inr ⟨by omega,hi.1.symm,hi.2.symm⟩
 refine⟨λi k p hi=>?_,λi i' k k' p p' h1 h2 h3=>?_,?_,λa ha=>?_⟩
 ·rcases hval i k p hi with⟨_,h1,h2,_⟩ | ⟨_,rfl,rfl⟩
  ·rw[Xm h2]
   exact(h.app l).val i k p h1
  ·rw[Jj]
   exact⟨j0,rfl,by simp,by simpa using ho⟩
 ·rcases hval i k p h1 with⟨_,a1,_,a3⟩ | ⟨a1,_,rfl⟩<;>rcases hval i' k' p' h2 with⟨_,b1,_,b3⟩ | ⟨b1,_,rfl⟩
  ·exact h.inj i i' k k' p p' a1 b1 h3
  ·simp only at h3;omega
  ·simp only at h3;omega
  ·omega
 ·rw[qx,List.nodup_append]
  exact⟨h.key,by simp,λa ha b hb=>by simp at hb;subst hb;rintro rfl;exact hk ha⟩
 ·have hn:=fndG_none.1 ha
  rw[qx,qg]at hn
  have hne:a≠e:=by rintro rfl;exact hn (.inr (by simp))
  rw[Xm hne]
  exact h.none a (fndG_none.2 λhm=>hn (.inl hm))
theorem UMc.old {hx:List O} {KJ:List (P2 × PI)} {F:P2->List P2} (h:UMc hx KJ F) {e:P2} {i j:Nat} {p:PI} (he:KJ[i]?=some (e,p)) (hj:p.j=j+2) {l:List P2} (hl:1<=l.length) :
  UMc (hx.set j (.arr l.length 2 (l.map P2.cs))) (KJ.set i (e,⟨j+2,l.length,0,l.length⟩)) (Q2q F e l):=by
 have hil:=(q8.1 he).1
 have hkey:(KJ.set i (e,(⟨j+2,l.length,0,l.length⟩:PI))).map Prod.fst=KJ.map Prod.fst:=by
  rw[List.map_set]
  exact Ko _ _ _ (by rw[qp,he];rfl)
 have hval:∀(i':Nat) (k:P2) (p':PI),(KJ.set i (e,(⟨j+2,l.length,0,l.length⟩:PI)))[i']?=some (k,p')->(i'≠i/\KJ[i']?=some (k,p')/\k≠e)∨(i'=i/\k=e/\p'=⟨j+2,l.length,0,l.length⟩):=by
  intro i' k p' hi
  by_cases hii:i=i'
  ·subst hii
   rw[qm hil]at hi
   simp only[Option.some.injEq,Prod.mk.injEq]at hi
   exact .inr ⟨rfl,hi.1.symm,hi.2.symm⟩
  ·rw[qt hii]at hi
   refine .inl ⟨λhh=>hii hh.symm,hi,?_⟩
   rintro rfl
   have h1:=Yv h.key hi
   have h2:=Yv h.key he
   rw[h1]at h2
   simp only[Option.some.injEq,Prod.mk.injEq]at h2
   exact hii h2.1.symm
 refine⟨λi' k p' hi=>?_,λi1 i2 k k' p1 p2 h1 h2 h3=>?_,by rw[hkey];exact h.key,λa ha=>?_⟩
 ·rcases hval i' k p' hi with⟨h1,h2,h3⟩ | ⟨_,rfl,rfl⟩
  ·rw[Xm h3]
   obtain⟨j',q1,q2,q3⟩:=h.val i' k p' h2
   refine⟨j',q1,q2,?_⟩
   rw[qt]
   ·exact q3
   ·rintro rfl
    exact h1 (h.inj i' i k e p' p h2 he (by rw[q1,hj]))
  ·rw[Jj]
   refine⟨j,rfl,hl,?_⟩
   obtain⟨j',q1,q2,q3⟩:=h.val i k p he
   have hjj:j'=j:=by rw[q1]at hj;simp only at hj;omega
   subst hjj
   rw[qm (q8.1 q3).1]
 ·rcases hval i1 k p1 h1 with⟨a1,a2,_⟩ | ⟨rfl,_,rfl⟩<;>rcases hval i2 k' p2 h2 with⟨b1,b2,_⟩ | ⟨rfl,_,rfl⟩
  ·exact h.inj i1 i2 k k' p1 p2 a2 b2 h3
  ·exact h.inj i1 i2 k e p1 p a2 he (by rw[h3,hj])
  ·exact h.inj i1 i2 e k' p p2 he b2 (by rw[<- h3,hj])
  ·rfl
 ·have hn:=fndG_none.1 ha
  rw[hkey]at hn
  have hne:a≠e:=by rintro rfl;exact hn (qo.2 ⟨_,qb he,rfl⟩)
  rw[Xm hne]
  exact h.none a (fndG_none.2 hn)
theorem UMc.pool {hx:List O} {KJ:List (P2 × PI)} {F:P2->List P2} (h:UMc hx KJ F) (o1:O):PoolAt (hx.length+2) (.mp (KJ.map (asG P2.enc evP))::o1::hx) 0 (.mp (KJ.map (asG P2.enc evP))) KJ F where
 mp:=.inl rfl
 ob:=rfl
 val i k p hi:=by
  obtain⟨j,rfl,h2,h3⟩:=h.val i k p hi
  exact⟨rfl,h2,F k,by simpa using h3,by simp,by simp⟩
 key:=h.key
 lt i k p hi:=by
  obtain⟨j,rfl,h2,h3⟩:=h.val i k p hi
  have:=(q8.1 h3).1
  simp only[];omega
 none:=h.none
theorem UMc.cl2 {hx:List O} {KJ:List (P2 × PI)} {F:P2->List P2} (h:UMc hx KJ F) {N:Nat} (hN:hx.length+2<=N):∀(a b:V) (x:P2) (y:PI),(x,y)∈KJ->asG P2.enc evP (x,y)=(a,b)->a.cl N=true/\b.cl N=true:=λa b x y hm he=>by
 obtain⟨i,hi⟩:=qq hm
 obtain⟨j,rfl,_,h3⟩:=h.val i x y hi
 have:=(q8.1 h3).1
 simp only[asG,evP,Prod.mk.injEq]at he
 obtain⟨rfl,rfl⟩:=he
 simp[P2.enc,P2.cs,V.cl,V.cl1,V.cl0]
 omega
theorem ne_take {l:List Sg4} {k:Nat} {s:Sg4} (h:l[k]?=some s):neE (egs (l.take (k+1)))=neE (egs (l.take k))++(if s.eg.1=s.eg.2 then [] else [s.eg]):=by
 rw[B8 l h]
 unfold neE
 rw[List.filter_append]
 congr 1
 by_cases h:s.eg.1=s.eg.2
 ·simp[h]
 ·simp[h]
end Go.Abs
