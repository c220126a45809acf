/- Part of the library on which the proof stands: an abstract machine, its values and its soundness against the model; or what functions of the program do to such values. -/
import Derived.Test.YtnaehggpjfdenaaGreatGoCtI
import Derived.Test.YtnaehggpjfdenaaGreatGoCtF
import Derived.Test.YtnaehggpjfdenaaGreatGoLpB
import Derived.Test.YtnaehggpjfdenaaGreatAbsSS
set_option linter.unusedVariables false
set_option linter.unusedSimpArgs false
set_option maxHeartbeats 16000000
set_option maxRecDepth 20000
namespace Go.Abs
theorem Ka (l:List P2) (n:Nat) (g:Nat):(O.arr g 2 (l.map P2.cs)).cl n:=Qbk pcsD l n
theorem Qpa (s:Sg4) (n:Nat):(O.arr 1 4 [[V.i .i64 s.a.1,.i .i64 s.a.2,.i .i64 s.b.1,.i .i64 s.b.2]]).cl n:=by
 intro el hel x hx
 simp at hel;subst hel
 simp at hx;rcases hx with rfl | rfl | rfl | rfl<;>rfl
theorem PF.perm {F:P2->List P2} {R:List Eg} (h:PF F R) {e:P2} {zs:List P2} (hz:zs.Perm (F e)):PF (Q2q F e zs) R:=λk=>by
 by_cases hk:k=e
 ·subst hk;rw[Jj];exact(h k).trans hz.symm
 ·rw[Xm hk];exact h k
structure PhI (hx:List O) (pa:O) (R:List Eg) (o:O) (KJ:List (P2 × PI)) (F:P2->List P2) (R':List Eg) (ps:List (List P2)) (hy:List O) (cells:List (List V)):Prop where
 pool:PoolAt (hx.length+2) (o::pa::hx) 0 o KJ F
 pf:PF F R'
 bal:Kj R'
 perm:(ps.flatMap Qs++R').Perm R
 held:Qa4 (hx.length+3) hy ps cells
 flt:Flt hy
 len:ps.length+R'.length<=R.length
theorem PhI.ents {hx:List O} {pa:O} {R:List Eg} {o:O} {KJ:List (P2 × PI)} {F:P2->List P2} {R':List Eg} {ps:List (List P2)} {hy:List O} {cells:List (List V)} (h:PhI hx pa R o KJ F R' ps hy cells) (tl:List O):Zi (o::tl) (.mp 0)=some (KJ.map (asG P2.enc evP)):=by
 rcases h.pool.mp with rfl | rfl<;>rfl
theorem PoolAt.clh2 {b:Nat} {h:List O} {id:Nat} {o:O} {KJ:List (P2 × PI)} {F:P2->List P2} (H:PoolAt b h id o KJ F) {n:Nat} (hn:b<=n):o.cl n:=by
 have he:∀e∈KJ.map (asG P2.enc evP),e.1.cl n=true/\e.2.cl n=true:=by
  intro e he
  obtain⟨⟨k,p⟩,hm,rfl⟩:=qo.1 he
  obtain⟨i,hi⟩:=qq hm
  have:=H.lt i k p hi
  simp[asG,evP,P2.enc,P2.cs,V.cl,V.cl1,V.cl0]
  omega
 rcases H.mp with rfl | rfl
 ·exact he
 ·exact he
theorem PhI.ocl {hx:List O} {pa:O} {R:List Eg} {o:O} {KJ:List (P2 × PI)} {F:P2->List P2} {R':List Eg} {ps:List (List P2)} {hy:List O} {cells:List (List V)} (h:PhI hx pa R o KJ F R' ps hy cells) {n:Nat} (hn:hx.length+2<=n):o.cl n:=by
 have he:∀e∈KJ.map (asG P2.enc evP),e.1.cl n=true/\e.2.cl n=true:=by
  intro e he
  obtain⟨⟨k,p⟩,hm,rfl⟩:=qo.1 he
  obtain⟨i,hi⟩:=qq hm
  have:=h.pool.lt i k p hi
  simp[asG,evP,P2.enc,P2.cs,V.cl,V.cl1,V.cl0]
  omega
 rcases h.pool.mp with rfl | rfl
 ·exact he
 ·exact he
theorem PhI.weak {hx:List O} {pa:O} {R:List Eg} {o:O} {KJ:List (P2 × PI)} {F:P2->List P2} {R':List Eg} {ps:List (List P2)} {hy:List O} {cells:List (List V)} (h:PhI hx pa R o KJ F R' ps hy cells) (hF:Flt hx) {n:Nat} (hn:hx.length+3+hy.length<=n) (g:Nat) (l:List O):WeakH n (hx++.arr g 1 cells::(hy++l)) (hx++.arr g 1 cells::hy) :=
 Qz (λo ho=>hF o ho _) ⟨.inr ⟨rfl,h.held.cl pcsD hn⟩,h.flt.WeakH _⟩
theorem PhI.weak' {hx:List O} {pa:O} {R:List Eg} {o:O} {KJ:List (P2 × PI)} {F:P2->List P2} {R':List Eg} {ps:List (List P2)} {hy:List O} {cells:List (List V)} (h:PhI hx pa R o KJ F R' ps hy cells) (hF:Flt hx) {n:Nat} (hn:hx.length+3+hy.length<=n) (g:Nat):WeakH n (hx++.arr g 1 cells::hy) (hx++.arr g 1 cells::hy):=by
 have:=h.weak hF hn g []
 rwa [List.append_nil]at this
theorem Qej {o:O} {n:Nat} (h:o.cl n):o=O.dead∨(match (generalizing:=false) o with | .arr _ _ els=>∀el∈els,∀x∈el,x.cl n=true | .mp es=>∀a b,(a,b)∈es->a.cl n=true/\b.cl n=true | .md es=>∀a b,(a,b)∈es->a.cl n=true/\b.cl n=true | .it mid _ _=>∀i,mid=some i->i<n | .dead=>True):=by
 right
 cases o with
 | arr g s els=>exact h
 | mp es=>exact λa b he=>h (a,b) he
 | md es=>exact λa b he=>h (a,b) he
 | it mid a b=>exact h
 | dead=>trivial
theorem Qps {o:O} {n:Nat} (h:o.cl n):o=O.dead∨o=o/\(match (generalizing:=false) o with | .arr _ _ els=>∀el∈els,∀x∈el,x.cl n=true | .mp es=>∀a b,(a,b)∈es->a.cl n=true/\b.cl n=true | .md es=>∀a b,(a,b)∈es->a.cl n=true/\b.cl n=true | .it mid _ _=>∀i,mid=some i->i<n | .dead=>True) :=
 (Qej h).imp id λh=>⟨rfl,h⟩
section
variable {P:Program} (hm:P.follows .mixedOrders=true)
include hm
theorem Q1s {f fv fb fs fc fp:FuncId} (hf:Q9 P f (L04.c fv fb fs fc fp) L04.r L04.n) (hv:Xo P fv) (hb:Qa7 P fb) (hs:Ui P fs 2) (hc:Qcx P fc) (hcal:Qv P fc=true) (hp:Q7b P fp):Q29 P f:=by
 intro l hl
 have hlen:=hl.1
 have hb1:=hb l hlen
 refine⟨λhbal=>?_,λhbal=>?_⟩
 ·have hbb:Q1y (egs l)=false:=by
   cases h:Q1y (egs l) with
   | false=>rfl
   | true=>exact absurd (balB_iff.1 h) hbal
  rw[hbb]at hb1
  refine CallIs.res (r:=.t [.nil,.i .i64 12]) ?_ (Q98 _)
  refine PureC.is (Q6 hm hf (qh rfl) ?_) rfl
  unfold L04.c
  simp[go_sem,Qp,show ¬ (8192:Int)<l.length by omega]
  refine Qc (α:=Nat) (λk=>k<=l.length)
   (λk=>⟨[(0,Qp l),(18,Qp l),(19,.i .i64 l.length),(20,.i .i64 k)],[]⟩)
   (λk=>l.length-k) 0 (Nat.zero_le _) ?_ ?_
  ·simp[go_sem,Qp]
  ·intro k hk
   by_cases hkl:k=l.length
   ·subst hkl
    simp[go_sem,Qp]
    refine Q4 hb1 ?_
    simp[go_sem,L04.r]
   ·have hlt:k<l.length:=by omega
    have hq:=Yc hlt
    generalize Yb l k=s at hq
    obtain⟨_,hq'⟩:=q8.1 hq
    obtain⟨v1,v2⟩:=Up hl (qb hq)
    have c1:=hv s.eg.1
    have c2:=hv s.eg.2
    rw[v1,Q45]at c1
    rw[v2,Q44]at c2
    simp (disch:=omega) [go_sem,Qp,hlt,hq,hq',Sg4.cs]
    refine Q4 c1 ?_
    simp (disch:=omega) [go_sem,Qp,hlt,hq,hq',Sg4.cs]
    refine Q4 c2 ?_
    simp (disch:=omega) [go_sem,Q0]
    exact⟨k+1,by omega,by omega,by simp[Qp]⟩
 ·rw[balB_iff.2 hbal]at hb1
  refine Q5m hm hf (qh rfl) ?_
  unfold L04.c
  simp[go_sem,Qp,show ¬ (8192:Int)<l.length by omega]
  refine Qc (α:=Nat) (λk=>k<=l.length)
   (λk=>⟨[(0,Qp l),(18,Qp l),(19,.i .i64 l.length),(20,.i .i64 k)],[]⟩)
   (λk=>l.length-k) 0 (Nat.zero_le _) ?_ ?_
  ·simp[go_sem,Qp]
  intro k hk
  by_cases hkl:k=l.length
  case neg =>
   have hlt:k<l.length:=by omega
   have hq:=Yc hlt
   generalize Yb l k=s at hq
   obtain⟨_,hq'⟩:=q8.1 hq
   obtain⟨v1,v2⟩:=Up hl (qb hq)
   have c1:=hv s.eg.1
   have c2:=hv s.eg.2
   rw[v1,Q45]at c1
   rw[v2,Q44]at c2
   simp (disch:=omega) [go_sem,Qp,hlt,hq,hq',Sg4.cs]
   refine Q4 c1 ?_
   simp (disch:=omega) [go_sem,Qp,hlt,hq,hq',Sg4.cs]
   refine Q4 c2 ?_
   simp (disch:=omega) [go_sem,Q0]
   exact⟨k+1,by omega,by omega,by simp[Qp]⟩
  subst hkl
  have hseg:Qp l=.l 4 (l.map Sg4.cs):=rfl
  simp[go_sem,Qp]
  refine Q4 hb1 ?_
  simp[go_sem]
  refine Qx [.t 7 2] (α:=Nat × List O × List (P2 × PI))
   (λp=>p.1<=l.length/\UMc p.2.1 p.2.2 (Q12 (neE (egs (l.take p.1))))/\Flt p.2.1/\p.2.2.length<=p.1)
   (λp=>⟨[(6,.mp 0),(7,.own 1 (p.2.2.length+1) 0 p.2.2.length),(39,Qp l),(40,.i .i64 l.length),(41,.i .i64 p.1)],
    .mp (p.2.2.map (asG P2.enc evP))::.arr (p.2.2.length+1) 2 ((p.2.2.map Prod.fst).map P2.cs)::p.2.1⟩)
   (λp=>l.length-p.1) (0,[],[]) ⟨Nat.zero_le _,UMc.nil,by simp[Flt],by simp⟩ ?_ ?_
  ·simp[go_sem,Qp]
   done
  ·rintro⟨k,hx,KJ⟩ ⟨hk,hU,hF,hKl⟩
   simp only at hk hU hF hKl ⊢
   by_cases hkl:k=l.length
   case neg =>
    have hlt:k<l.length:=by omega
    have hq:=Yc hlt
    have hnt:=ne_take hq
    have hR2:(neE (egs (l.take k))).length<=4096:=by
     refine Nat.le_trans (jc _ _) ?_
     rw[Uy,qv];omega
    generalize Yb l k=s at hq hnt
    obtain⟨_,hq'⟩:=q8.1 hq
    generalize neE (egs (l.take k))=R at *
    cases hee:(s.a.1 == s.b.1 && s.a.2 == s.b.2) with
    | true =>
      have heq:s.eg.1=s.eg.2:=by
       simp only[Bool.and_eq_true,beq_iff_eq]at hee
       exact p2_iff.2 hee
      rw[if_pos heq,List.append_nil]at hnt
      simp (disch:=omega) [go_sem,Qp,hlt,hq,hq',Sg4.cs,hee,Qf,Qi,Qo,Qr,Q0]
      have hU2:=hU.app [O.arr 1 4 [[V.i .i64 s.a.1,.i .i64 s.a.2,.i .i64 s.b.1,.i .i64 s.b.2]]]
      have hF2:=hF.app (Flt.one (Qpa s))
      refine⟨k+1,hx++[O.arr 1 4 [[V.i .i64 s.a.1,.i .i64 s.a.2,.i .i64 s.b.1,.i .i64 s.b.2]]],KJ,⟨by omega,by rw[hnt];exact hU2,hF2,by omega⟩,by omega,by simp,⟨rfl,by omega⟩,⟨rfl,hU2.cl2 (by simp)⟩,⟨⟨rfl,rfl⟩,?_⟩,hF2.WeakH' _⟩
      rintro el x x1 _ rfl
      exact of_eq_true (J8 x _)
    | false =>
      have hne:s.eg.1≠s.eg.2:=by
       intro hh
       have h5:s.a.1=s.b.1/\s.a.2=s.b.2:=p2_iff.1 hh
       rw[h5.1,h5.2]at hee
       simp at hee
      rw[if_neg hne,show s.eg=(s.eg.1,s.eg.2) from rfl]at hnt
      have hof:Q12 (R++[(s.eg.1,s.eg.2)])=_:=Qls R s.eg.1 s.eg.2
      rw[<- hnt]at hof
      have hfe:Qn [1,1] (V.a [.i .i64 s.a.1,.i .i64 s.a.2]) (KJ.map (asG P2.enc evP))=_:=Je U3 evP s.eg.1 KJ
      cases hfn:Zc s.eg.1 KJ with
      | none =>
        rw[hfn,Option.map_none]at hfe
        simp (disch:=omega) [go_sem,Qp,hlt,hq,hq',Sg4.cs,hee,hfe,Xu,Xt,Qf,Qi,Qo,Qr,Q0]
        have hF2:Flt (hx++[O.arr 1 4 [[V.i .i64 s.a.1,.i .i64 s.a.2,.i .i64 s.b.1,.i .i64 s.b.2]],O.arr 1 2 [[V.i .i64 s.b.1,.i .i64 s.b.2]]]):=hF.app λo ho n=>by
         simp at ho
         rcases ho with rfl | rfl
         ·exact Qpa s n
         ·exact Ka [s.eg.2] n 1
        have hU2:=hU.new (v:=s.eg.2) hfn (l:=[O.arr 1 4 [[V.i .i64 s.a.1,.i .i64 s.a.2,.i .i64 s.b.1,.i .i64 s.b.2]],O.arr 1 2 [[V.i .i64 s.b.1,.i .i64 s.b.2]]]) (j0:=hx.length+1) (by omega) (by rw[Qf];rfl)
        have hz:=hU.none _ hfn
        rw[hz,List.nil_append]at hof
        refine⟨⟨by omega,by omega⟩,k+1,_,_,⟨by omega,by rw[hof];exact hU2,hF2,by simp;omega⟩,by omega,by simp,⟨by simp,by omega⟩,⟨by rw[qx];rfl,hU2.cl2 (by simp)⟩,⟨⟨by simp,by rw[qx];rfl⟩,?_⟩,hF2.WeakH' _⟩
        rintro el x x1 _ rfl
        exact of_eq_true (J8 x _)
      | some q =>
        obtain⟨i,p⟩:=q
        rw[hfn,Option.map_some]at hfe
        have hi:=Zx hfn
        obtain⟨j,rfl,hF1,hxj⟩:=hU.val i _ p hi
        have hFl:(Q12 R s.eg.1).length<=4096:=by
         unfold Q12
         rw[List.length_map]
         exact Nat.le_trans (jc _ _) hR2
        have hU2:=λl (hl:1<=l.length)=>(hU.old (l:=l) hi rfl hl).app [O.arr 1 4 [[V.i .i64 s.a.1,.i .i64 s.a.2,.i .i64 s.b.1,.i .i64 s.b.2]]]
        generalize Q12 R s.eg.1=fl at *
        have hjl:=(q8.1 hxj).1
        have hgj:∀l:List O,(hx++l)[j]?=some (.arr fl.length 2 (fl.map P2.cs)):=λl=>Xl hxj
        have hsj:∀(l:List O) (o:O),(hx++l).set j o=hx.set j o++l:=λl o=>Q20 l hjl o
        have htn:List.take fl.length (fl.map P2.cs)=fl.map P2.cs:=qe (by simp)
        have hFz:¬ fl=[]:=by rintro rfl;simp at hF1
        simp (disch:=omega) [go_sem,Qp,hlt,hq,hq',Sg4.cs,hee,hfe,evP,hgj,hsj,htn,hFz,Xs _ hi,Qf,Qi,Qo,Qr,Q0]
        have hl1:(fl++[s.eg.2]).length=fl.length+1:=by simp
        have hm1:(fl++[s.eg.2]).map P2.cs=fl.map P2.cs++[[V.i .i64 s.b.1,V.i .i64 s.b.2]]:=by rw[qx];rfl
        have hU3:=hU2 (fl++[s.eg.2]) (by simp)
        have hF2:=(hF.set (j:=j) (Ka (fl++[s.eg.2]) · (fl.length+1))).app (Flt.one (Qpa s))
        rw[hl1,hm1]at hU3
        rw[hm1]at hF2
        have hks:KJ.map Prod.fst=(KJ.set i (s.eg.1,(⟨j+2,fl.length+1,0,fl.length+1⟩:PI))).map Prod.fst:=by
         rw[List.map_set]
         exact(Ko _ _ _ (by rw[qp,hi];rfl)).symm
        have hks2:=congrArg (List.map P2.cs) hks
        rw[List.map_map,List.map_map]at hks2
        refine⟨⟨by omega,by omega⟩,k+1,_,_,⟨by omega,by rw[hof];exact hU3,hF2,by simp;omega⟩,by omega,by simp,⟨by simp,by omega⟩,⟨by rw[List.map_set];rfl,hU3.cl2 (by simp)⟩,⟨⟨by simp,hks2⟩,?_⟩,hF2.WeakH' _⟩
        rintro el x x1 _ rfl
        exact of_eq_true (J8 x _)
   subst hkl
   rw[qi]at hU
   have hR0:(neE (egs l)).length<=4096:=by
    refine Nat.le_trans (jc _ _) ?_
    rw[Uy];omega
   have hR0l:(neE (egs l)).length<=l.length:=by
    refine Nat.le_trans (jc _ _) ?_
    rw[Uy];omega
   have hRB:Kj (neE (egs l)):=Qjm hbal
   generalize neE (egs l)=R at *
   have hsort:∀xs:List P2,xs.length<=4096->∃ys:List P2,ys.Perm xs/\∀(h:List O) (id gen:Nat),h[id]?=some (.arr gen 2 (xs.map P2.cs))->ACall P fs [.own id gen 0 xs.length,.f fc []] h (λr h'=>r=.t []/\h'=h.set id (.arr gen 2 (ys.map P2.cs))):=λxs hx=>by
    obtain⟨ys,h1,_,h2⟩:=hs (λp:P2=>[p.x,p.y]) (λ_=>rfl) Q9v Qn9 fc hcal (λa b=>hc a b) xs (by omega)
    exact⟨ys,h1,h2⟩
   obtain⟨ys,hyp,hys⟩:=hsort (KJ.map Prod.fst) (by simp;omega)
   have hyl:ys.length=KJ.length:=by rw[hyp.length_eq,List.length_map]
   rw[List.length_map]at hys
   have hF0:∀k,(Q12 R k).length<=4096:=λk=>by
    unfold Q12
    rw[List.length_map]
    exact Nat.le_trans (jc _ _) hR0
   simp (disch:=omega) [go_sem,Qp]
   refine Qy (hys _ 1 _ (by simp)) ?_
   simp[go_sem]
   refine Qc (α:=Nat × List O × (P2->List P2))
    (λp=>p.1<=ys.length/\UMc p.2.1 KJ p.2.2/\PF p.2.2 R/\Flt p.2.1)
    (λp=>⟨[(6,.mp 0),(7,.own 1 (KJ.length+1) 0 KJ.length),(74,.own 1 (KJ.length+1) 0 KJ.length),(75,.i .i64 KJ.length),(76,.i .i64 p.1)],
     .mp (KJ.map (asG P2.enc evP))::.arr (KJ.length+1) 2 (ys.map P2.cs)::p.2.1⟩)
    (λp=>ys.length-p.1) (0,hx,Q12 R) ⟨Nat.zero_le _,hU,outF_ok R,hF⟩ ?_ ?_
   ·simp[go_sem]
    exact⟨hU.cl2 (by omega),λa _=>of_eq_true (J8 a _),hF.WeakH' _⟩
   ·clear hU hF
    rintro⟨k,hx,F⟩ ⟨hk,hU,hPF,hF⟩
    simp only at hk hU hPF hF ⊢
    by_cases hkl:k=ys.length
    case neg =>
     have hlt:k<KJ.length:=by omega
     have hq:ys[k]?=some ys[k]:=q9 (by omega)
     generalize ys[k]=e at hq
     have hem:e∈KJ.map Prod.fst:=hyp.mem_iff.1 (qb hq)
     have hic:(ys.map P2.cs)[k]?=some [V.i .i64 e.x,V.i .i64 e.y]:=by rw[qp,hq];rfl
     obtain⟨hicl,hic'⟩:=q8.1 hic
     have hfe:Qn [1,1] (V.a [.i .i64 e.x,.i .i64 e.y]) (KJ.map (asG P2.enc evP))=_:=Je U3 evP e KJ
     cases hfn:Zc e KJ with
     | none=>exact absurd hem (fndG_none.1 hfn)
     | some q =>
       obtain⟨i,p⟩:=q
       rw[hfn,Option.map_some]at hfe
       have hi:=Zx hfn
       obtain⟨j,rfl,hF1,hxj⟩:=hU.val i _ p hi
       obtain⟨zs,hzp,hzs⟩:=hsort (F e) (by rw[(hPF e).length_eq.symm];exact hF0 e)
       have hzl:=hzp.length_eq
       have hjl:=(q8.1 hxj).1
       have hU2:=(hU.old (l:=zs) hi rfl (by omega)).app [O.arr 1 2 [e.cs]]
       rw[hzl]at hU2
       have hks:KJ.set i (e,(⟨j+2,(F e).length,0,(F e).length⟩:PI))=KJ:=Ko _ _ _ hi
       rw[hks]at hU2
       have hF2:=(hF.set (j:=j) (Ka zs · (F e).length)).app (Flt.one (o:=.arr 1 2 [e.cs]) (Ka [e] · 1))
       have hPF2:=hPF.perm hzp
       have hgj:∀l:List O,(hx++l)[j]?=some (.arr (F e).length 2 ((F e).map P2.cs)):=λl=>Xl hxj
       have hsj:∀(l:List O) (o:O),(hx++l).set j o=hx.set j o++l:=λl o=>Q20 l hjl o
       simp (disch:=omega) [go_sem,hlt,hic,hicl,hic',hfe,evP,Qf,Qi,Qo,Qr,Q0]
       refine Qy (hzs _ (j+2) _ (by simpa using hgj _)) ?_
       simp (disch:=omega) [go_sem,hsj,Q0]
       exact⟨k+1,_,⟨by omega,_,hU2,hPF2,hF2⟩,by omega,by simp,by omega,hU2.cl2 (by simp),λa _=>of_eq_true (J8 a _),hF2.WeakH' _⟩
    subst hkl
    have hUcl:=hU.cl2 (Nat.le_refl _)
    simp[go_sem,hyl]
    obtain⟨pa,hpa⟩:∃pa,pa=O.arr (KJ.length+1) 2 (ys.map P2.cs):=⟨_,rfl⟩
    have hpacl:∀n,pa.cl n:=λn=>by rw[hpa];exact Ka ys n _
    obtain⟨g,hg⟩:∃g,g=KJ.length+1:=⟨_,rfl⟩
    have hpa1:∀(o:O) (tl:List O),(o::pa::tl)[1]?=some (.arr g 2 (ys.map P2.cs)):=λo tl=>by rw[hpa,hg];rfl
    refine Qx [.t 12 1] (α:=Nat × O × List (P2 × PI) × (P2->List P2) × List Eg × List (List P2) × List O × List (List V))
     (λp=>p.1<=ys.length/\PhI hx pa R p.2.1 p.2.2.1 p.2.2.2.1 p.2.2.2.2.1 p.2.2.2.2.2.1 p.2.2.2.2.2.2.1 p.2.2.2.2.2.2.2/\∀e∈ys.take p.1,p.2.2.2.1 e=[])
     (λp=>⟨[(6,.mp 0),(12,.own (hx.length+2) (p.2.2.2.2.2.1.length+1) 0 p.2.2.2.2.2.1.length),(85,.own 1 g 0 ys.length),(86,.i .i64 ys.length),(87,.i .i64 p.1)],
      p.2.1::pa::(hx++(.arr (p.2.2.2.2.2.1.length+1) 1 p.2.2.2.2.2.2.2::p.2.2.2.2.2.2.1))⟩)
     (λp=>ys.length-p.1) (0,.mp (KJ.map (asG P2.enc evP)),KJ,F,R,[],[],[]) ⟨Nat.zero_le _,⟨hU.pool pa,hPF,hRB,List.Perm.refl _,HeldR.nil _,by simp[Flt],by simp⟩,by simp⟩ ?_ ?_
    ·simp[go_sem,hpa,hg]
     exact⟨⟨by omega,by omega⟩,hU.cl2 (by omega),λa _=>of_eq_true (J8 a _),Qz (λo ho=>hF o ho _) ⟨.inr ⟨rfl,by simp[O.cl]⟩,trivial⟩⟩
    ·have hst:∀e∈R,e.1∈ys:=λe he=>by
      rw[hyp.mem_iff]
      cases hfn:Zc e.1 KJ with
      | none=>exact absurd rfl (hPF.none.1 (hU.none _ hfn) e he)
      | some q =>
        exact qo.2 ⟨(e.1,q.2),qb (Zx (show Zc e.1 KJ=some (q.1,q.2) from hfn)),rfl⟩
     clear hU hPF hUcl
     rintro⟨k,o,KJ1,F1,R1,ps,hy,cells⟩ ⟨hk,hI,hz⟩
     simp only at hk hI hz ⊢
     by_cases hkl:k=ys.length
     ·subst hkl
      rw[qi]at hz
      have hR1:R1=[]:=by
       rw[List.eq_nil_iff_forall_not_mem]
       intro e he
       have heR:e∈R:=hI.perm.mem_iff.1 (qg.2 (.inr he))
       exact hI.pf.none.1 (hz _ (hst e heR)) e he rfl
      subst hR1
      have hfz:=Qf4 pcsD (rz:=1) (base:=o::pa::(hx++[.arr (ps.length+1) 1 cells])) hI.held (by simp)
      have hP:=hI.perm
      rw[List.append_nil]at hP
      have hval:(V.l 1 (List.map (Qll 2 (λ_:Unit=>[]) P2.cs) (ps.map λp=>((),p))))=Qb ps:=by
       unfold Qb;rw[List.map_map];rfl
      rw[hval]at hfz
      simp only[List.cons_append,j6,List.nil_append,List.length_map]at hfz
      simp[go_sem,L04.r,Q4f,Qi,Qf]
      rw[hfz]
      exact⟨_,rfl,ps,hP,by have:=hI.len;omega,rfl⟩
     ·have hlt:k<ys.length:=by omega
      have hq:ys[k]?=some ys[k]:=q9 (by omega)
      generalize ys[k]=e at hq
      have hic:(ys.map P2.cs)[k]?=some [V.i .i64 e.x,V.i .i64 e.y]:=by rw[qp,hq];rfl
      obtain⟨hicl,hic'⟩:=q8.1 hic
      simp (disch:=omega) [go_sem,hlt,hpa1,hic,hicl,hic',Qf,Qi,Qo,Qr,Q0]
      obtain⟨cp,hcp⟩:∃cp,cp=hx.length+hy.length+3:=⟨_,rfl⟩
      have f14:∀(o out x:O) (hy2 tl:List O),hy2[hy.length]?=some x->(o::pa::(hx++(out::(hy2++tl))))[cp]?=some x:=λo out x hy2 tl h=>by
       rw[hcp,show hx.length+hy.length+3=(hx.length+(hy.length+1))+1+1 by omega]
       simp only[List.getElem?_cons_succ]
       rw[Qf]
       simp only[List.getElem?_cons_succ]
       exact Xl h
      have f14':∀(o out x:O) (hy2:List O),hy2[hy.length]?=some x->(o::pa::(hx++(out::hy2)))[cp]?=some x:=λo out x hy2 h=>by
       have:=f14 o out x hy2 [] h
       rwa [List.append_nil]at this
      refine Qc (α:=O × List (P2 × PI) × (P2->List P2) × List Eg × List (List P2) × List O × List (List V))
       (λp=>PhI hx pa R p.1 p.2.1 p.2.2.1 p.2.2.2.1 p.2.2.2.2.1 p.2.2.2.2.2.1 p.2.2.2.2.2.2/\(∀e∈ys.take k,p.2.2.1 e=[])/\p.2.2.2.2.2.1[hy.length]?=some (.arr 1 2 [e.cs]))
       (λp=>⟨[(6,.mp 0),(12,.own (hx.length+2) (p.2.2.2.2.1.length+1) 0 p.2.2.2.2.1.length),(14,.p cp 1 0 0),(85,.own 1 g 0 ys.length),(86,.i .i64 ys.length),(87,.i .i64 k)],
        p.1::pa::(hx++(.arr (p.2.2.2.2.1.length+1) 1 p.2.2.2.2.2.2::p.2.2.2.2.2.1))⟩)
       (λp=>p.2.2.2.1.length) (o,KJ1,F1,R1,ps,hy++[.arr 1 2 [e.cs]],cells) ⟨⟨hI.pool,hI.pf,hI.bal,hI.perm,hI.held.app _,hI.flt.app (Flt.one (Ka [e] · 1)),hI.len⟩,hz,by rw[Qi];rfl⟩ ?_ ?_
      ·simp[go_sem]
       have hI2:PhI hx pa R o KJ1 F1 R1 ps (hy++[.arr 1 2 [e.cs]]) cells:=⟨hI.pool,hI.pf,hI.bal,hI.perm,hI.held.app _,hI.flt.app (Flt.one (Ka [e] · 1)),hI.len⟩
       exact⟨⟨by omega,by omega⟩,Qej (hI.ocl (by omega)),Qej (hpacl _),hI2.weak' hF (by simp;omega) _⟩
      ·clear hI hz
       rintro⟨o,KJ1,F1,R1,ps,hy2,cells⟩ ⟨hI,hz,h14⟩
       simp only at hI hz h14 ⊢
       have hR1:R1.length<=4096:=by have:=hI.len;omega
       have hps:=hI.len
       have hfe:Qn [1,1] (V.a [.i .i64 e.x,.i .i64 e.y]) (KJ1.map (asG P2.enc evP))=_:=Je U3 evP e KJ1
       cases hfn:Zc e KJ1 with
       | none =>
         have hFe:=hI.pool.none _ hfn
         rw[hfn,Option.map_none]at hfe
         simp (disch:=omega) [go_sem,f14' _ _ _ _ h14,hI.ents,hfe,P2.cs,Q0]
         have hz2:∀e'∈ys.take (k+1),F1 e'=[]:=λe' he'=>by
          rw[Qa hq]at he'
          rcases qg.1 he' with h | h
          ·exact hz e' h
          ·rw[qn.1 h];exact hFe
         exact⟨k+1,o,KJ1,F1,R1,ps,hy2,cells,⟨by omega,hI,hz2⟩,by omega,Nat.le_refl _,⟨rfl,by omega⟩,Qps (hI.ocl (by omega)),Qej (hpacl _),hI.weak' hF (by omega) _⟩
       | some q =>
         obtain⟨i,p⟩:=q
         rw[hfn,Option.map_some]at hfe
         obtain⟨hpn,hp1,els,hpj,_,_⟩:=hI.pool.val i e p (Zx hfn)
         have hpj2:∀tl,(o::pa::(hx++tl))[p.j]?=some (.arr p.g 2 (els.map P2.cs)):=λtl=>Xl (l:=tl) hpj
         have hne:F1 e≠[]:=λhh=>by rw[hh]at hpn;simp at hpn;omega
         have hpp:0<p.n:=hp1
         have hcall:=hp (hx.length+2) (o::pa::hx++(.arr (ps.length+1) 1 cells::hy2)) 0 o KJ1 F1 R1 e (hI.pool.app _) hI.pf hI.bal hne hR1
         simp (disch:=omega) [go_sem,f14' _ _ _ _ h14,hI.ents,hfe,evP,hpj2,hpp,P2.cs,Q0]
         refine ACall.mono hcall ?_
         rintro r h' ⟨vs,o',KJ2,F2,R2,rfl,rfl,hpool,hpf2,hbal2,hperm2,hvs⟩
         have hpool2:PoolAt (hx.length+2) (o'::pa::hx) 0 o' KJ2 F2:=by
          have h9:(o::pa::hx++(.arr (ps.length+1) 1 cells::hy2)).set 0 o'=(o'::pa::hx)++(.arr (ps.length+1) 1 cells::hy2):=rfl
          rw[h9]at hpool
          exact hpool.sub (by simp) (by simp)
         simp (disch:=omega) [go_sem,Qf,Qi,Qo,Qr,Q0]
         have hcc:=hI.held.1
         rw[List.length_map]at hcc
         have h14l:=(q8.1 h14).1
         have htc:List.take ps.length cells=cells:=qe (by omega)
         have hrl:=Jl vs
         have hvl:1<=vs.length:=by
          cases vs with
          | nil=>exact absurd rfl hvs
          | cons a b=>simp
         have hR2:=hperm2.length_eq
         rw[j7,hrl]at hR2
         have hl1:(ps++[vs]).length=ps.length+1:=by simp
         have hHs:Qa4 (hx.length+3) (hy2++[.dead,.dead,.arr vs.length 2 (vs.map P2.cs)]) (ps++[vs]) (cells++[[.own (hx.length+3+(hy2.length+2)) vs.length 0 vs.length]]):=by
          have h9:=(hI.held.app [.dead,.dead,.arr vs.length 2 (vs.map P2.cs)]).snoc (j:=hy2.length+2) (g:=vs.length) (l:=((),vs)) (by rw[Qf];rfl)
          simpa[Qa4]using h9
         have hFs:Flt (hy2++[.dead,.dead,.arr vs.length 2 (vs.map P2.cs)]):=hI.flt.app λo ho n=>by
          simp only[List.mem_cons,List.not_mem_nil,or_false]at ho
          rcases ho with rfl | rfl | rfl
          ·trivial
          ·trivial
          ·exact Ka vs n _
         have hI2:PhI hx pa R o' KJ2 F2 R2 (ps++[vs]) (hy2++[.dead,.dead,.arr vs.length 2 (vs.map P2.cs)]) (cells++[[.own (hx.length+3+(hy2.length+2)) vs.length 0 vs.length]]):=by
          refine⟨hpool2,hpf2,hbal2,?_,hHs,hFs,by rw[hl1];omega⟩
          rw[List.flatMap_append,j6]
          refine List.Perm.trans (List.Perm.append_left _ ?_) hI.perm
          simpa using hperm2
         have hz2:∀e'∈ys.take k,F2 e'=[]:=λe' he'=>by
          rw[hpf2.none]
          intro x hx'
          exact hI.pf.none.1 (hz e' he') x (hperm2.mem_iff.1 (qg.2 (.inr hx')))
         refine⟨⟨by omega,by omega,by omega⟩,o',KJ2,F2,R2,ps++[vs],_,_,⟨hI2,hz2,?_⟩,by omega,by simp,⟨hl1.symm,by simp;omega⟩,Qps (hpool2.clh2 (by omega)),Qej (hpacl _),?_⟩
         ·rw[Xl h14];rfl
         ·have hw:=hI2.weak hF (n:=hx.length+((hy2++[O.dead,.dead,.arr vs.length 2 (vs.map P2.cs)]).length+1)+1+1) (by omega) (ps.length+1+1) [O.arr 1 1 [[.own (hx.length+3+(hy2.length+2)) vs.length 0 vs.length]]]
          rw[show hx.length+(hy2.length+1)+1+1+2=hx.length+3+(hy2.length+2) by omega,hl1,htc]
          rw[j6]at hw
          exact hw
end
section
variable {P:Program} (hm:P.follows .mixedOrders=true)
include hm
theorem Q30 {f fc ff fm fi fo:FuncId} (hf:Q9 P f (L1k.c fc ff fm fi fo) L1k.r L1k.n) (hc:Ec P fc) (hfar:FarC P ff) (hce:Qd8 P fm) (hins:Qcz P fi) (ho:OfC P fo):Eb P f:=by
 intro ps k hps
 have hcc:=hc ps k hps
 cases hev:Za k 32 1024 with
 | false =>
   rw[hev]at hcc
   have hR:X0 ps k=([],1):=by unfold X0;rw[if_pos hev]
   rw[hR]
   refine CallIs.res (r:=.t [.a [.nil],.i .i64 1]) ?_ (.inr ⟨_,_,rfl,rfl,.inr ⟨_,_,rfl,rfl,Le0.nil 2,trivial⟩,Le1.refl _,trivial⟩)
   refine PureC.is (Q6 hm hf (qh rfl) ?_) rfl
   unfold L1k.c
   simp[go_sem,Qb]
   refine Q4 hcc ?_
   simp[go_sem,L1k.r]
   done
 | true =>
   rw[hev]at hcc
   have hk:PitchOk k:=by
    unfold Za at hev
    simp only[Bool.and_eq_true,decide_eq_true_eq]at hev
    exact⟨hev.1.1,hev.1.2,hev.2⟩
   have hR:X0 ps k=(W7 (ps.flatMap Qs) k,0):=by unfold X0;rw[if_neg (by rw[hev];simp)]
   rw[hR]
   have k1:=hk.lo
   have hfc:=hfar ps k hps hk
   have hn:Ky k 0 ps<=2048:=Qc8 k1 ps 0 (by omega) λq hq v hv=>hps.mx hq hv
   have hG:=Qhq (Qlm ps) hk hn (farN_eg (by omega))
   generalize Ky k 0 ps=n at *
   obtain⟨q,hq⟩:∃q:P2->Bool,q=λp=>decide (0<wnd (ps.flatMap Qs) (ctr k p.y p.x)):=⟨_,rfl⟩
   rw[<- hq]at hG
   rw[<- hG]
   obtain⟨T,hT⟩:∃T:Nat->List P2,∀i,T i=J6 q (n+1) (2*n+3) i:=⟨_,λ_=>rfl⟩
   have hTb:∀i,i<=2*n+3->(T i).length<=20000000:=λi hi=>by
    have h1:=Q6s q (n+1) (2*n+3) i
    have h2:i*(2*n+3)<=4099*4099:=Nat.mul_le_mul (by omega) (by omega)
    rw[hT];omega
   have hT0:T 0=[]:=by rw[hT];rfl
   have hoc:=ho (T (2*n+3)) (by have:=hTb (2*n+3) (Nat.le_refl _);omega)
    (λp hp=>by rw[hT,Q6f]at hp;unfold Qsy;omega) (by rw[hT];exact Q6t _ _ _ _)
   rw[<- hT]
   refine PureC.is (Q6 hm hf (qh rfl) ?_) rfl
   unfold L1k.c
   simp[go_sem,Qb]
   refine Q4 hcc ?_
   simp[go_sem,Qb]
   refine Q4 hfc ?_
   simp (disch:=omega) [go_sem,Q0]
   refine Qx [.t 8 2] (α:=Nat) (λi=>i<=2*n+3)
    (λi=>⟨[(0,Qb ps),(1,.i .i64 k),(4,.p 0 1 0 0),(7,.i .i64 ((n:Int)+1)),(8,.own 1 ((T i).length+1) 0 (T i).length),(9,.i .i64 (-((n:Int)+1)+i))],[.arr 1 1 [[.nil]],.arr ((T i).length+1) 2 ((T i).map P2.cs)]⟩)
    (λi=>2*n+3-i) 0 (Nat.zero_le _) ?_ ?_
   ·simp[go_sem,hT0,Qb]
   intro i hi
   by_cases hil:i=2*n+3
   ·subst hil
    have ht:List.take (T (2*n+3)).length ((T (2*n+3)).map P2.cs)=(T (2*n+3)).map P2.cs:=qe (by simp)
    generalize T (2*n+3)=L at *
    have hd:∀p∈L,∀y∈p.cs,y.isD=true:=λp _ y hy=>by
     simp[P2.cs]at hy
     rcases hy with rfl | rfl<;>rfl
    have hle:¬ ((-((n:Int)+1)+(2*(n:Int)+3))<=(n:Int)+1):=by omega
    have hle2:¬ ((-1+-(n:Int)+(2*(n:Int)+3))<=(n:Int)+1):=by omega
    simp (disch:=omega) [go_sem,Q0,hle,hle2]
    refine Y8 (vs:=[psV L]) (by simp[Y9,frz,X1,psV,ht];rw[if_pos hd];rfl) hoc ?_
    simp[go_sem,rgV,V.cells,V.okA,L1k.r,V.ids2,Q2f]
   have hTs:T (i+1)=T i++Kp q (n+1) (-((n:Int)+1)+i) (2*n+3):=by rw[hT,Q2h,<- hT]
   have hTl:=hTb i hi
   obtain⟨y,hy⟩:∃y:Int,y=-((n:Int)+1)+i:=⟨_,rfl⟩
   rw[<- hy]at hTs
   have hyb:-4096<=y/\y<4096:=by omega
   rw[<- hy]
   have hyn:y<=(n:Int)+1:=by omega
   obtain⟨S,hS⟩:∃S:Nat->List P2,∀j,S j=T i++Kp q (n+1) y j:=⟨_,λ_=>rfl⟩
   have hS0:S 0=T i:=by rw[hS];simp[Kp]
   have hSn:S (2*n+3)=T (i+1):=by rw[hS,hTs]
   have hSl:∀j,j<=2*n+3->(S j).length<=30000000:=λj hj=>by
    rw[hS,j7]
    have:=Q94 q (n+1) y j
    omega
   simp (disch:=omega) [go_sem,Q0,hyn]
   refine Qc (α:=Nat) (λj=>j<=2*n+3)
    (λj=>⟨[(0,Qb ps),(1,.i .i64 k),(4,.p 0 1 0 0),(7,.i .i64 ((n:Int)+1)),(8,.own 1 ((S j).length+1) 0 (S j).length),(9,.i .i64 y),(10,.i .i64 (-((n:Int)+1)+j))],[.arr 1 1 [[.nil]],.arr ((S j).length+1) 2 ((S j).map P2.cs)]⟩)
    (λj=>2*n+3-j) 0 (Nat.zero_le _) ?_ ?_
   ·simp[go_sem,hS0,Qb]
    exact λa _=>of_eq_true (J8 a _)
   intro j hj
   by_cases hjl:j=2*n+3
   ·subst hjl
    rw[hSn]
    have hle:¬ ((-((n:Int)+1)+(2*(n:Int)+3))<=(n:Int)+1):=by omega
    simp (disch:=omega) [go_sem,Q0,hle]
    exact⟨i+1,by omega,by omega,⟨.inr rfl,rfl,by omega⟩,⟨rfl,rfl⟩,λa _=>of_eq_true (J8 a _)⟩
   obtain⟨x,hx⟩:∃x:Int,x=-((n:Int)+1)+j:=⟨_,rfl⟩
   rw[<- hx]
   have hSs:S (j+1)=S j++(if q ⟨x,y⟩ then [⟨x,y⟩] else []):=by rw[hS,hS,Qgx,<- hx,j6]
   have hSj:=hSl j hj
   have hcc2:=hce x y k (by omega) (by omega) hyb.1 hyb.2 hk
   have hcv:=Qn4 (k:=k) (y:=y) (x:=x) hk (by omega) (by omega) hyb.1 hyb.2
   have hic:=hins ps _ hps hcv
   have hqe:q ⟨x,y⟩=decide (0<wnd (ps.flatMap Qs) (ctr k y x)):=by rw[hq]
   rw[<- hqe]at hic
   simp only[P2.enc,P2.cs]at hcc2
   have hxn:x<=(n:Int)+1:=by omega
   have ht:List.take (S j).length ((S j).map P2.cs)=(S j).map P2.cs:=qe (by simp)
   simp (disch:=omega) [go_sem,Q0,hxn]
   refine Q4 hcc2 ?_
   simp (disch:=omega) [go_sem,Q0]
   refine Q4 hic ?_
   cases hqq:q ⟨x,y⟩ with
   | true =>
     rw[hqq,if_pos rfl]at hSs
     simp (disch:=omega) [go_sem,ht,Q0]
     exact⟨⟨by omega,by omega⟩,j+1,by omega,by omega,⟨.inr rfl,by rw[hSs];simp,by omega⟩,⟨by rw[hSs];simp,by rw[hSs];simp[P2.cs]⟩,λa _=>of_eq_true (J8 a _)⟩
   | false =>
     rw[hqq,if_neg (by simp),List.append_nil]at hSs
     simp (disch:=omega) [go_sem,Q0]
     exact⟨j+1,by omega,by omega,⟨.inr rfl,by rw[hSs],by omega⟩,⟨by rw[hSs],by rw[hSs]⟩,λa _=>of_eq_true (J8 a _)⟩
end
end Go.Abs
