/- Part of the library on which the proof stands: an abstract machine, its values and its soundness against the model; or what functions of the program do to such values. -/
import Derived.Test.YtnaehggpjfdenaaGreatGoCtI
import Derived.Test.YtnaehggpjfdenaaGreatGoRpB
import Derived.Test.YtnaehggpjfdenaaGreatGoMapG
import Derived.Test.YtnaehggpjfdenaaGreatAbsCP
import Derived.Test.YtnaehggpjfdenaaGreatGoStA
import Derived.Test.YtnaehggpjfdenaaGreatGoSecF
import Derived.Test.YtnaehggpjfdenaaGreatGoSkG
import Derived.Test.YtnaehggpjfdenaaGreatGoRsD
set_option linter.unusedVariables false
set_option linter.unusedSimpArgs false
set_option maxHeartbeats 16000000
set_option maxRecDepth 20000
namespace Go.Abs
theorem Jq (l:List P2) (n:Nat) (g:Nat):(O.arr g 2 (l.map P2.cs)).cl n:=Qds Qlm l n
theorem Ql9 (s:Sg4) (n:Nat):(O.arr 1 4 [[V.i .i64 s.a.1,.i .i64 s.a.2,.i .i64 s.b.1,.i .i64 s.b.2]]).cl n:=by
 intro el hel x hx
 simp at hel;subst hel
 simp at hx;rcases hx with rfl | rfl | rfl | rfl<;>rfl
theorem PF.perm {F:P2->List P2} {R:List Eg} (h:PF F R) {e:P2} {zs:List P2} (hz:zs.Perm (F e)):PF (Q16 F e zs) R:=λk=>by
 by_cases hk:k=e
 ·subst hk;rw[Xy];exact(h k).trans hz.symm
 ·rw[Xa hk];exact h k
structure PhI (hx:List O) (pa:O) (R:List Eg) (o:O) (KJ:List (P2 × PI)) (F:P2->List P2) (R':List Eg) (ps:List (List P2)) (hy:List O) (cells:List (List V)):Prop where
 pool:PoolAt (hx.length+2) (o::pa::hx) 0 o KJ F
 pf:PF F R'
 bal:Ba R'
 perm:(ps.flatMap Z7++R').Perm R
 held:Qq0 (hx.length+3) hy ps cells
 flt:Flt hy
 len:ps.length+R'.length<=R.length
theorem PhI.ents {hx:List O} {pa:O} {R:List Eg} {o:O} {KJ:List (P2 × PI)} {F:P2->List P2} {R':List Eg} {ps:List (List P2)} {hy:List O} {cells:List (List V)} (h:PhI hx pa R o KJ F R' ps hy cells) (tl:List O):Ze (o::tl) (.mp 0)=some (KJ.map (asG P2.enc evP)):=by
 rcases h.pool.mp with rfl | rfl<;>rfl
theorem PoolAt.clh2 {b:Nat} {h:List O} {id:Nat} {o:O} {KJ:List (P2 × PI)} {F:P2->List P2} (H:PoolAt b h id o KJ F) {n:Nat} (hn:b<=n):o.cl n:=by
 have he:∀e∈KJ.map (asG P2.enc evP),e.1.cl n=true/\e.2.cl n=true:=by
  intro e he
  obtain⟨⟨k,p⟩,hm,rfl⟩:=qo.1 he
  obtain⟨i,hi⟩:=qq hm
  have:=H.lt i k p hi
  simp[asG,evP,P2.enc,P2.cs,V.cl,V.cl1,V.cl0]
  omega
 rcases H.mp with rfl | rfl
 ·exact he
 ·exact he
theorem PhI.ocl {hx:List O} {pa:O} {R:List Eg} {o:O} {KJ:List (P2 × PI)} {F:P2->List P2} {R':List Eg} {ps:List (List P2)} {hy:List O} {cells:List (List V)} (h:PhI hx pa R o KJ F R' ps hy cells) {n:Nat} (hn:hx.length+2<=n):o.cl n:=by
 have he:∀e∈KJ.map (asG P2.enc evP),e.1.cl n=true/\e.2.cl n=true:=by
  intro e he
  obtain⟨⟨k,p⟩,hm,rfl⟩:=qo.1 he
  obtain⟨i,hi⟩:=qq hm
  have:=h.pool.lt i k p hi
  simp[asG,evP,P2.enc,P2.cs,V.cl,V.cl1,V.cl0]
  omega
 rcases h.pool.mp with rfl | rfl
 ·exact he
 ·exact he
theorem PhI.weak {hx:List O} {pa:O} {R:List Eg} {o:O} {KJ:List (P2 × PI)} {F:P2->List P2} {R':List Eg} {ps:List (List P2)} {hy:List O} {cells:List (List V)} (h:PhI hx pa R o KJ F R' ps hy cells) (hF:Flt hx) {n:Nat} (hn:hx.length+3+hy.length<=n) (g:Nat) (l:List O):WeakH n (hx++.arr g 1 cells::(hy++l)) (hx++.arr g 1 cells::hy) :=
 Qy (λo ho=>hF o ho _) ⟨.inr ⟨rfl,h.held.cl Qlm hn⟩,h.flt.WeakH _⟩
theorem PhI.weak' {hx:List O} {pa:O} {R:List Eg} {o:O} {KJ:List (P2 × PI)} {F:P2->List P2} {R':List Eg} {ps:List (List P2)} {hy:List O} {cells:List (List V)} (h:PhI hx pa R o KJ F R' ps hy cells) (hF:Flt hx) {n:Nat} (hn:hx.length+3+hy.length<=n) (g:Nat):WeakH n (hx++.arr g 1 cells::hy) (hx++.arr g 1 cells::hy):=by
 have:=h.weak hF hn g []
 rwa [List.append_nil]at this
theorem Qay {o:O} {n:Nat} (h:o.cl n):o=O.dead∨(match (generalizing:=false) o with | .arr _ _ els=>∀el∈els,∀x∈el,x.cl n=true | .mp es=>∀a b,(a,b)∈es->a.cl n=true/\b.cl n=true | .md es=>∀a b,(a,b)∈es->a.cl n=true/\b.cl n=true | .it mid _ _=>∀i,mid=some i->i<n | .dead=>True):=by
 right
 cases o with
 | arr g s els=>exact h
 | mp es=>exact λa b he=>h (a,b) he
 | md es=>exact λa b he=>h (a,b) he
 | it mid a b=>exact h
 | dead=>trivial
theorem Qlt {o:O} {n:Nat} (h:o.cl n):o=O.dead∨o=o/\(match (generalizing:=false) o with | .arr _ _ els=>∀el∈els,∀x∈el,x.cl n=true | .mp es=>∀a b,(a,b)∈es->a.cl n=true/\b.cl n=true | .md es=>∀a b,(a,b)∈es->a.cl n=true/\b.cl n=true | .it mid _ _=>∀i,mid=some i->i<n | .dead=>True) :=
 (Qay h).imp id λh=>⟨rfl,h⟩
section
variable {P:Program} (hm:P.follows .mixedOrders=true)
include hm
theorem Q0h {f fv fb fs fc fp:FuncId} (hf:Q9 P f (L04.c fv fb fs fc fp) L04.r L04.n) (hv:Q9f P fv) (hb:Qqj P fb) (hs:Wn P fs 2) (hc:Q9e P fc) (hcal:Qq P fc=true) (hp:Q4h P fp):Qfd P f:=by
 intro l hl
 have hlen:=hl.1
 have hb1:=hb l hlen
 refine⟨λhbal=>?_,λhbal=>?_⟩
 ·have hbb:Qc5 (egs l)=false:=by
   cases h:Qc5 (egs l) with
   | false=>rfl
   | true=>exact absurd (balB_iff.1 h) hbal
  rw[hbb]at hb1
  refine CallIs.res (r:=.t [.nil,.i .i64 12]) ?_ (Qhz _)
  refine PureC.is (Q8 hm hf (qh rfl) ?_) rfl
  unfold L04.c
  simp[go_sem,Y7,show ¬ (8192:Int)<l.length by omega]
  refine Qh (α:=Nat) (λk=>k<=l.length)
   (λk=>⟨[(0,Y7 l),(18,Y7 l),(19,.i .i64 l.length),(20,.i .i64 k)],[]⟩)
   (λk=>l.length-k) 0 (Nat.zero_le _) ?_ ?_
  ·simp[go_sem,Y7]
  ·intro k hk
   by_cases hkl:k=l.length
   ·subst hkl
    simp[go_sem,Y7]
    refine Q5 hb1 ?_
    simp[go_sem,L04.r]
   ·have hlt:k<l.length:=by omega
    have hq:=W3 hlt
    generalize Qd4 l k=s at hq
    obtain⟨_,hq'⟩:=q8.1 hq
    obtain⟨v1,v2⟩:=Q60 hl (qb hq)
    have c1:=hv s.eg.1
    have c2:=hv s.eg.2
    rw[v1,Qfm]at c1
    rw[v2,Qfl]at c2
    simp (disch:=omega) [go_sem,Y7,hlt,hq,hq',Sg4.cs]
    refine Q5 c1 ?_
    simp (disch:=omega) [go_sem,Y7,hlt,hq,hq',Sg4.cs]
    refine Q5 c2 ?_
    simp (disch:=omega) [go_sem,Q3]
    exact⟨k+1,by omega,by omega,by simp[Y7]⟩
 ·rw[balB_iff.2 hbal]at hb1
  refine Qar hm hf (qh rfl) ?_
  unfold L04.c
  simp[go_sem,Y7,show ¬ (8192:Int)<l.length by omega]
  refine Qh (α:=Nat) (λk=>k<=l.length)
   (λk=>⟨[(0,Y7 l),(18,Y7 l),(19,.i .i64 l.length),(20,.i .i64 k)],[]⟩)
   (λk=>l.length-k) 0 (Nat.zero_le _) ?_ ?_
  ·simp[go_sem,Y7]
  intro k hk
  by_cases hkl:k=l.length
  case neg =>
   have hlt:k<l.length:=by omega
   have hq:=W3 hlt
   generalize Qd4 l k=s at hq
   obtain⟨_,hq'⟩:=q8.1 hq
   obtain⟨v1,v2⟩:=Q60 hl (qb hq)
   have c1:=hv s.eg.1
   have c2:=hv s.eg.2
   rw[v1,Qfm]at c1
   rw[v2,Qfl]at c2
   simp (disch:=omega) [go_sem,Y7,hlt,hq,hq',Sg4.cs]
   refine Q5 c1 ?_
   simp (disch:=omega) [go_sem,Y7,hlt,hq,hq',Sg4.cs]
   refine Q5 c2 ?_
   simp (disch:=omega) [go_sem,Q3]
   exact⟨k+1,by omega,by omega,by simp[Y7]⟩
  subst hkl
  have hseg:Y7 l=.l 4 (l.map Sg4.cs):=rfl
  simp[go_sem,Y7]
  refine Q5 hb1 ?_
  simp[go_sem]
  refine Qz [.t 7 2] (α:=Nat × List O × List (P2 × PI))
   (λp=>p.1<=l.length/\UMc p.2.1 p.2.2 (Bv (neE (egs (l.take p.1))))/\Flt p.2.1/\p.2.2.length<=p.1)
   (λp=>⟨[(6,.mp 0),(7,.own 1 (p.2.2.length+1) 0 p.2.2.length),(39,Y7 l),(40,.i .i64 l.length),(41,.i .i64 p.1)],
    .mp (p.2.2.map (asG P2.enc evP))::.arr (p.2.2.length+1) 2 ((p.2.2.map Prod.fst).map P2.cs)::p.2.1⟩)
   (λp=>l.length-p.1) (0,[],[]) ⟨Nat.zero_le _,UMc.nil,by simp[Flt],by simp⟩ ?_ ?_
  ·simp[go_sem,Y7]
   done
  ·rintro⟨k,hx,KJ⟩ ⟨hk,hU,hF,hKl⟩
   simp only at hk hU hF hKl ⊢
   by_cases hkl:k=l.length
   case neg =>
    have hlt:k<l.length:=by omega
    have hq:=W3 hlt
    have hnt:=ne_take hq
    have hR2:(neE (egs (l.take k))).length<=4096:=by
     refine Nat.le_trans (j8 _ _) ?_
     rw[Q2d,qv];omega
    generalize Qd4 l k=s at hq hnt
    obtain⟨_,hq'⟩:=q8.1 hq
    generalize neE (egs (l.take k))=R at *
    cases hee:(s.a.1 == s.b.1 && s.a.2 == s.b.2) with
    | true =>
      have heq:s.eg.1=s.eg.2:=by
       simp only[Bool.and_eq_true,beq_iff_eq]at hee
       exact p2_iff.2 hee
      rw[if_pos heq,List.append_nil]at hnt
      simp (disch:=omega) [go_sem,Y7,hlt,hq,hq',Sg4.cs,hee,Qd,Qg,Qn,Qt,Q3]
      have hU2:=hU.app [O.arr 1 4 [[V.i .i64 s.a.1,.i .i64 s.a.2,.i .i64 s.b.1,.i .i64 s.b.2]]]
      have hF2:=hF.app (Flt.one (Ql9 s))
      refine⟨k+1,hx++[O.arr 1 4 [[V.i .i64 s.a.1,.i .i64 s.a.2,.i .i64 s.b.1,.i .i64 s.b.2]]],KJ,⟨by omega,by rw[hnt];exact hU2,hF2,by omega⟩,by omega,by simp,⟨rfl,by omega⟩,⟨rfl,hU2.cl2 (by simp)⟩,⟨⟨rfl,rfl⟩,?_⟩,hF2.WeakH' _⟩
      rintro el x x1 _ rfl
      exact of_eq_true (Ic x _)
    | false =>
      have hne:s.eg.1≠s.eg.2:=by
       intro hh
       have h5:s.a.1=s.b.1/\s.a.2=s.b.2:=p2_iff.1 hh
       rw[h5.1,h5.2]at hee
       simp at hee
      rw[if_neg hne,show s.eg=(s.eg.1,s.eg.2) from rfl]at hnt
      have hof:Bv (R++[(s.eg.1,s.eg.2)])=_:=Qi2 R s.eg.1 s.eg.2
      rw[<- hnt]at hof
      have hfe:Ql [1,1] (V.a [.i .i64 s.a.1,.i .i64 s.a.2]) (KJ.map (asG P2.enc evP))=_:=Xv W9 evP s.eg.1 KJ
      cases hfn:Z8 s.eg.1 KJ with
      | none =>
        rw[hfn,Option.map_none]at hfe
        simp (disch:=omega) [go_sem,Y7,hlt,hq,hq',Sg4.cs,hee,hfe,Xg,Xf,Qd,Qg,Qn,Qt,Q3]
        have hF2:Flt (hx++[O.arr 1 4 [[V.i .i64 s.a.1,.i .i64 s.a.2,.i .i64 s.b.1,.i .i64 s.b.2]],O.arr 1 2 [[V.i .i64 s.b.1,.i .i64 s.b.2]]]):=hF.app λo ho n=>by
         simp at ho
         rcases ho with rfl | rfl
         ·exact Ql9 s n
         ·exact Jq [s.eg.2] n 1
        have hU2:=hU.new (v:=s.eg.2) hfn (l:=[O.arr 1 4 [[V.i .i64 s.a.1,.i .i64 s.a.2,.i .i64 s.b.1,.i .i64 s.b.2]],O.arr 1 2 [[V.i .i64 s.b.1,.i .i64 s.b.2]]]) (j0:=hx.length+1) (by omega) (by rw[Qd];rfl)
        have hz:=hU.none _ hfn
        rw[hz,List.nil_append]at hof
        refine⟨⟨by omega,by omega⟩,k+1,_,_,⟨by omega,by rw[hof];exact hU2,hF2,by simp;omega⟩,by omega,by simp,⟨by simp,by omega⟩,⟨by rw[qw];rfl,hU2.cl2 (by simp)⟩,⟨⟨by simp,by rw[qw];rfl⟩,?_⟩,hF2.WeakH' _⟩
        rintro el x x1 _ rfl
        exact of_eq_true (Ic x _)
      | some q =>
        obtain⟨i,p⟩:=q
        rw[hfn,Option.map_some]at hfe
        have hi:=Zt hfn
        obtain⟨j,rfl,hF1,hxj⟩:=hU.val i _ p hi
        have hFl:(Bv R s.eg.1).length<=4096:=by
         unfold Bv
         rw[List.length_map]
         exact Nat.le_trans (j8 _ _) hR2
        have hU2:=λl (hl:1<=l.length)=>(hU.old (l:=l) hi rfl hl).app [O.arr 1 4 [[V.i .i64 s.a.1,.i .i64 s.a.2,.i .i64 s.b.1,.i .i64 s.b.2]]]
        generalize Bv R s.eg.1=fl at *
        have hjl:=(q8.1 hxj).1
        have hgj:∀l:List O,(hx++l)[j]?=some (.arr fl.length 2 (fl.map P2.cs)):=λl=>X9 hxj
        have hsj:∀(l:List O) (o:O),(hx++l).set j o=hx.set j o++l:=λl o=>Q0m l hjl o
        have htn:List.take fl.length (fl.map P2.cs)=fl.map P2.cs:=qe (by simp)
        have hFz:¬ fl=[]:=by rintro rfl;simp at hF1
        simp (disch:=omega) [go_sem,Y7,hlt,hq,hq',Sg4.cs,hee,hfe,evP,hgj,hsj,htn,hFz,Xe _ hi,Qd,Qg,Qn,Qt,Q3]
        have hl1:(fl++[s.eg.2]).length=fl.length+1:=by simp
        have hm1:(fl++[s.eg.2]).map P2.cs=fl.map P2.cs++[[V.i .i64 s.b.1,V.i .i64 s.b.2]]:=by rw[qw];rfl
        have hU3:=hU2 (fl++[s.eg.2]) (by simp)
        have hF2:=(hF.set (j:=j) (Jq (fl++[s.eg.2]) · (fl.length+1))).app (Flt.one (Ql9 s))
        rw[hl1,hm1]at hU3
        rw[hm1]at hF2
        have hks:KJ.map Prod.fst=(KJ.set i (s.eg.1,(⟨j+2,fl.length+1,0,fl.length+1⟩:PI))).map Prod.fst:=by
         rw[List.map_set]
         exact(K1 _ _ _ (by rw[qp,hi];rfl)).symm
        have hks2:=congrArg (List.map P2.cs) hks
        rw[List.map_map,List.map_map]at hks2
        refine⟨⟨by omega,by omega⟩,k+1,_,_,⟨by omega,by rw[hof];exact hU3,hF2,by simp;omega⟩,by omega,by simp,⟨by simp,by omega⟩,⟨by rw[List.map_set];rfl,hU3.cl2 (by simp)⟩,⟨⟨by simp,hks2⟩,?_⟩,hF2.WeakH' _⟩
        rintro el x x1 _ rfl
        exact of_eq_true (Ic x _)
   subst hkl
   rw[qi]at hU
   have hR0:(neE (egs l)).length<=4096:=by
    refine Nat.le_trans (j8 _ _) ?_
    rw[Q2d];omega
   have hR0l:(neE (egs l)).length<=l.length:=by
    refine Nat.le_trans (j8 _ _) ?_
    rw[Q2d];omega
   have hRB:Ba (neE (egs l)):=neE_bal hbal
   generalize neE (egs l)=R at *
   have hsort:∀xs:List P2,xs.length<=4096->∃ys:List P2,ys.Perm xs/\∀(h:List O) (id gen:Nat),h[id]?=some (.arr gen 2 (xs.map P2.cs))->ACall P fs [.own id gen 0 xs.length,.f fc []] h (λr h'=>r=.t []/\h'=h.set id (.arr gen 2 (ys.map P2.cs))):=λxs hx=>by
    obtain⟨ys,h1,_,h2⟩:=hs (λp:P2=>[p.x,p.y]) (λ_=>rfl) Q6p Qj8 fc hcal (λa b=>hc a b) xs (by omega)
    exact⟨ys,h1,h2⟩
   obtain⟨ys,hyp,hys⟩:=hsort (KJ.map Prod.fst) (by simp;omega)
   have hyl:ys.length=KJ.length:=by rw[hyp.length_eq,List.length_map]
   rw[List.length_map]at hys
   have hF0:∀k,(Bv R k).length<=4096:=λk=>by
    unfold Bv
    rw[List.length_map]
    exact Nat.le_trans (j8 _ _) hR0
   simp (disch:=omega) [go_sem,Y7]
   refine Qr (hys _ 1 _ (by simp)) ?_
   simp[go_sem]
   refine Qh (α:=Nat × List O × (P2->List P2))
    (λp=>p.1<=ys.length/\UMc p.2.1 KJ p.2.2/\PF p.2.2 R/\Flt p.2.1)
    (λp=>⟨[(6,.mp 0),(7,.own 1 (KJ.length+1) 0 KJ.length),(74,.own 1 (KJ.length+1) 0 KJ.length),(75,.i .i64 KJ.length),(76,.i .i64 p.1)],
     .mp (KJ.map (asG P2.enc evP))::.arr (KJ.length+1) 2 (ys.map P2.cs)::p.2.1⟩)
    (λp=>ys.length-p.1) (0,hx,Bv R) ⟨Nat.zero_le _,hU,outF_ok R,hF⟩ ?_ ?_
   ·simp[go_sem]
    exact⟨hU.cl2 (by omega),λa _=>of_eq_true (Ic a _),hF.WeakH' _⟩
   ·clear hU hF
    rintro⟨k,hx,F⟩ ⟨hk,hU,hPF,hF⟩
    simp only at hk hU hPF hF ⊢
    by_cases hkl:k=ys.length
    case neg =>
     have hlt:k<KJ.length:=by omega
     have hq:ys[k]?=some ys[k]:=q9 (by omega)
     generalize ys[k]=e at hq
     have hem:e∈KJ.map Prod.fst:=hyp.mem_iff.1 (qb hq)
     have hic:(ys.map P2.cs)[k]?=some [V.i .i64 e.x,V.i .i64 e.y]:=by rw[qp,hq];rfl
     obtain⟨hicl,hic'⟩:=q8.1 hic
     have hfe:Ql [1,1] (V.a [.i .i64 e.x,.i .i64 e.y]) (KJ.map (asG P2.enc evP))=_:=Xv W9 evP e KJ
     cases hfn:Z8 e KJ with
     | none=>exact absurd hem (fndG_none.1 hfn)
     | some q =>
       obtain⟨i,p⟩:=q
       rw[hfn,Option.map_some]at hfe
       have hi:=Zt hfn
       obtain⟨j,rfl,hF1,hxj⟩:=hU.val i _ p hi
       obtain⟨zs,hzp,hzs⟩:=hsort (F e) (by rw[(hPF e).length_eq.symm];exact hF0 e)
       have hzl:=hzp.length_eq
       have hjl:=(q8.1 hxj).1
       have hU2:=(hU.old (l:=zs) hi rfl (by omega)).app [O.arr 1 2 [e.cs]]
       rw[hzl]at hU2
       have hks:KJ.set i (e,(⟨j+2,(F e).length,0,(F e).length⟩:PI))=KJ:=K1 _ _ _ hi
       rw[hks]at hU2
       have hF2:=(hF.set (j:=j) (Jq zs · (F e).length)).app (Flt.one (o:=.arr 1 2 [e.cs]) (Jq [e] · 1))
       have hPF2:=hPF.perm hzp
       have hgj:∀l:List O,(hx++l)[j]?=some (.arr (F e).length 2 ((F e).map P2.cs)):=λl=>X9 hxj
       have hsj:∀(l:List O) (o:O),(hx++l).set j o=hx.set j o++l:=λl o=>Q0m l hjl o
       simp (disch:=omega) [go_sem,hlt,hic,hicl,hic',hfe,evP,Qd,Qg,Qn,Qt,Q3]
       refine Qr (hzs _ (j+2) _ (by simpa using hgj _)) ?_
       simp (disch:=omega) [go_sem,hsj,Q3]
       exact⟨k+1,_,⟨by omega,_,hU2,hPF2,hF2⟩,by omega,by simp,by omega,hU2.cl2 (by simp),λa _=>of_eq_true (Ic a _),hF2.WeakH' _⟩
    subst hkl
    have hUcl:=hU.cl2 (Nat.le_refl _)
    simp[go_sem,hyl]
    obtain⟨pa,hpa⟩:∃pa,pa=O.arr (KJ.length+1) 2 (ys.map P2.cs):=⟨_,rfl⟩
    have hpacl:∀n,pa.cl n:=λn=>by rw[hpa];exact Jq ys n _
    obtain⟨g,hg⟩:∃g,g=KJ.length+1:=⟨_,rfl⟩
    have hpa1:∀(o:O) (tl:List O),(o::pa::tl)[1]?=some (.arr g 2 (ys.map P2.cs)):=λo tl=>by rw[hpa,hg];rfl
    refine Qz [.t 12 1] (α:=Nat × O × List (P2 × PI) × (P2->List P2) × List Eg × List (List P2) × List O × List (List V))
     (λp=>p.1<=ys.length/\PhI hx pa R p.2.1 p.2.2.1 p.2.2.2.1 p.2.2.2.2.1 p.2.2.2.2.2.1 p.2.2.2.2.2.2.1 p.2.2.2.2.2.2.2/\∀e∈ys.take p.1,p.2.2.2.1 e=[])
     (λp=>⟨[(6,.mp 0),(12,.own (hx.length+2) (p.2.2.2.2.2.1.length+1) 0 p.2.2.2.2.2.1.length),(85,.own 1 g 0 ys.length),(86,.i .i64 ys.length),(87,.i .i64 p.1)],
      p.2.1::pa::(hx++(.arr (p.2.2.2.2.2.1.length+1) 1 p.2.2.2.2.2.2.2::p.2.2.2.2.2.2.1))⟩)
     (λp=>ys.length-p.1) (0,.mp (KJ.map (asG P2.enc evP)),KJ,F,R,[],[],[]) ⟨Nat.zero_le _,⟨hU.pool pa,hPF,hRB,List.Perm.refl _,HeldR.nil _,by simp[Flt],by simp⟩,by simp⟩ ?_ ?_
    ·simp[go_sem,hpa,hg]
     exact⟨⟨by omega,by omega⟩,hU.cl2 (by omega),λa _=>of_eq_true (Ic a _),Qy (λo ho=>hF o ho _) ⟨.inr ⟨rfl,by simp[O.cl]⟩,trivial⟩⟩
    ·have hst:∀e∈R,e.1∈ys:=λe he=>by
      rw[hyp.mem_iff]
      cases hfn:Z8 e.1 KJ with
      | none=>exact absurd rfl (hPF.none.1 (hU.none _ hfn) e he)
      | some q =>
        exact qo.2 ⟨(e.1,q.2),qb (Zt (show Z8 e.1 KJ=some (q.1,q.2) from hfn)),rfl⟩
     clear hU hPF hUcl
     rintro⟨k,o,KJ1,F1,R1,ps,hy,cells⟩ ⟨hk,hI,hz⟩
     simp only at hk hI hz ⊢
     by_cases hkl:k=ys.length
     ·subst hkl
      rw[qi]at hz
      have hR1:R1=[]:=by
       rw[List.eq_nil_iff_forall_not_mem]
       intro e he
       have heR:e∈R:=hI.perm.mem_iff.1 (qg.2 (.inr he))
       exact hI.pf.none.1 (hz _ (hst e heR)) e he rfl
      subst hR1
      have hfz:=Qna Qlm (rz:=1) (base:=o::pa::(hx++[.arr (ps.length+1) 1 cells])) hI.held (by simp)
      have hP:=hI.perm
      rw[List.append_nil]at hP
      have hval:(V.l 1 (List.map (Qle 2 (λ_:Unit=>[]) P2.cs) (ps.map λp=>((),p))))=Qs ps:=by
       unfold Qs;rw[List.map_map];rfl
      rw[hval]at hfz
      simp only[List.cons_append,qz,List.nil_append,List.length_map]at hfz
      simp[go_sem,L04.r,Q9k,Qg,Qd]
      rw[hfz]
      exact⟨_,rfl,ps,hP,by have:=hI.len;omega,rfl⟩
     ·have hlt:k<ys.length:=by omega
      have hq:ys[k]?=some ys[k]:=q9 (by omega)
      generalize ys[k]=e at hq
      have hic:(ys.map P2.cs)[k]?=some [V.i .i64 e.x,V.i .i64 e.y]:=by rw[qp,hq];rfl
      obtain⟨hicl,hic'⟩:=q8.1 hic
      simp (disch:=omega) [go_sem,hlt,hpa1,hic,hicl,hic',Qd,Qg,Qn,Qt,Q3]
      obtain⟨cp,hcp⟩:∃cp,cp=hx.length+hy.length+3:=⟨_,rfl⟩
      have f14:∀(o out x:O) (hy2 tl:List O),hy2[hy.length]?=some x->(o::pa::(hx++(out::(hy2++tl))))[cp]?=some x:=λo out x hy2 tl h=>by
       rw[hcp,show hx.length+hy.length+3=(hx.length+(hy.length+1))+1+1 by omega]
       simp only[List.getElem?_cons_succ]
       rw[Qd]
       simp only[List.getElem?_cons_succ]
       exact X9 h
      have f14':∀(o out x:O) (hy2:List O),hy2[hy.length]?=some x->(o::pa::(hx++(out::hy2)))[cp]?=some x:=λo out x hy2 h=>by
       have:=f14 o out x hy2 [] h
       rwa [List.append_nil]at this
      refine Qh (α:=O × List (P2 × PI) × (P2->List P2) × List Eg × List (List P2) × List O × List (List V))
       (λp=>PhI hx pa R p.1 p.2.1 p.2.2.1 p.2.2.2.1 p.2.2.2.2.1 p.2.2.2.2.2.1 p.2.2.2.2.2.2/\(∀e∈ys.take k,p.2.2.1 e=[])/\p.2.2.2.2.2.1[hy.length]?=some (.arr 1 2 [e.cs]))
       (λp=>⟨[(6,.mp 0),(12,.own (hx.length+2) (p.2.2.2.2.1.length+1) 0 p.2.2.2.2.1.length),(14,.p cp 1 0 0),(85,.own 1 g 0 ys.length),(86,.i .i64 ys.length),(87,.i .i64 k)],
        p.1::pa::(hx++(.arr (p.2.2.2.2.1.length+1) 1 p.2.2.2.2.2.2::p.2.2.2.2.2.1))⟩)
       (λp=>p.2.2.2.1.length) (o,KJ1,F1,R1,ps,hy++[.arr 1 2 [e.cs]],cells) ⟨⟨hI.pool,hI.pf,hI.bal,hI.perm,hI.held.app _,hI.flt.app (Flt.one (Jq [e] · 1)),hI.len⟩,hz,by rw[Qg];rfl⟩ ?_ ?_
      ·simp[go_sem]
       have hI2:PhI hx pa R o KJ1 F1 R1 ps (hy++[.arr 1 2 [e.cs]]) cells:=⟨hI.pool,hI.pf,hI.bal,hI.perm,hI.held.app _,hI.flt.app (Flt.one (Jq [e] · 1)),hI.len⟩
       exact⟨⟨by omega,by omega⟩,Qay (hI.ocl (by omega)),Qay (hpacl _),hI2.weak' hF (by simp;omega) _⟩
      ·clear hI hz
       rintro⟨o,KJ1,F1,R1,ps,hy2,cells⟩ ⟨hI,hz,h14⟩
       simp only at hI hz h14 ⊢
       have hR1:R1.length<=4096:=by have:=hI.len;omega
       have hps:=hI.len
       have hfe:Ql [1,1] (V.a [.i .i64 e.x,.i .i64 e.y]) (KJ1.map (asG P2.enc evP))=_:=Xv W9 evP e KJ1
       cases hfn:Z8 e KJ1 with
       | none =>
         have hFe:=hI.pool.none _ hfn
         rw[hfn,Option.map_none]at hfe
         simp (disch:=omega) [go_sem,f14' _ _ _ _ h14,hI.ents,hfe,P2.cs,Q3]
         have hz2:∀e'∈ys.take (k+1),F1 e'=[]:=λe' he'=>by
          rw[Qc hq]at he'
          rcases qg.1 he' with h | h
          ·exact hz e' h
          ·rw[qn.1 h];exact hFe
         exact⟨k+1,o,KJ1,F1,R1,ps,hy2,cells,⟨by omega,hI,hz2⟩,by omega,Nat.le_refl _,⟨rfl,by omega⟩,Qlt (hI.ocl (by omega)),Qay (hpacl _),hI.weak' hF (by omega) _⟩
       | some q =>
         obtain⟨i,p⟩:=q
         rw[hfn,Option.map_some]at hfe
         obtain⟨hpn,hp1,els,hpj,_,_⟩:=hI.pool.val i e p (Zt hfn)
         have hpj2:∀tl,(o::pa::(hx++tl))[p.j]?=some (.arr p.g 2 (els.map P2.cs)):=λtl=>X9 (l:=tl) hpj
         have hne:F1 e≠[]:=λhh=>by rw[hh]at hpn;simp at hpn;omega
         have hpp:0<p.n:=hp1
         have hcall:=hp (hx.length+2) (o::pa::hx++(.arr (ps.length+1) 1 cells::hy2)) 0 o KJ1 F1 R1 e (hI.pool.app _) hI.pf hI.bal hne hR1
         simp (disch:=omega) [go_sem,f14' _ _ _ _ h14,hI.ents,hfe,evP,hpj2,hpp,P2.cs,Q3]
         refine ACall.mono hcall ?_
         rintro r h' ⟨vs,o',KJ2,F2,R2,rfl,rfl,hpool,hpf2,hbal2,hperm2,hvs⟩
         have hpool2:PoolAt (hx.length+2) (o'::pa::hx) 0 o' KJ2 F2:=by
          have h9:(o::pa::hx++(.arr (ps.length+1) 1 cells::hy2)).set 0 o'=(o'::pa::hx)++(.arr (ps.length+1) 1 cells::hy2):=rfl
          rw[h9]at hpool
          exact hpool.sub (by simp) (by simp)
         simp (disch:=omega) [go_sem,Qd,Qg,Qn,Qt,Q3]
         have hcc:=hI.held.1
         rw[List.length_map]at hcc
         have h14l:=(q8.1 h14).1
         have htc:List.take ps.length cells=cells:=qe (by omega)
         have hrl:=K2 vs
         have hvl:1<=vs.length:=by
          cases vs with
          | nil=>exact absurd rfl hvs
          | cons a b=>simp
         have hR2:=hperm2.length_eq
         rw[j3,hrl]at hR2
         have hl1:(ps++[vs]).length=ps.length+1:=by simp
         have hHs:Qq0 (hx.length+3) (hy2++[.dead,.dead,.arr vs.length 2 (vs.map P2.cs)]) (ps++[vs]) (cells++[[.own (hx.length+3+(hy2.length+2)) vs.length 0 vs.length]]):=by
          have h9:=(hI.held.app [.dead,.dead,.arr vs.length 2 (vs.map P2.cs)]).snoc (j:=hy2.length+2) (g:=vs.length) (l:=((),vs)) (by rw[Qd];rfl)
          simpa[Qq0]using h9
         have hFs:Flt (hy2++[.dead,.dead,.arr vs.length 2 (vs.map P2.cs)]):=hI.flt.app λo ho n=>by
          simp only[List.mem_cons,List.not_mem_nil,or_false]at ho
          rcases ho with rfl | rfl | rfl
          ·trivial
          ·trivial
          ·exact Jq vs n _
         have hI2:PhI hx pa R o' KJ2 F2 R2 (ps++[vs]) (hy2++[.dead,.dead,.arr vs.length 2 (vs.map P2.cs)]) (cells++[[.own (hx.length+3+(hy2.length+2)) vs.length 0 vs.length]]):=by
          refine⟨hpool2,hpf2,hbal2,?_,hHs,hFs,by rw[hl1];omega⟩
          rw[List.flatMap_append,qz]
          refine List.Perm.trans (List.Perm.append_left _ ?_) hI.perm
          simpa using hperm2
         have hz2:∀e'∈ys.take k,F2 e'=[]:=λe' he'=>by
          rw[hpf2.none]
          intro x hx'
          exact hI.pf.none.1 (hz e' he') x (hperm2.mem_iff.1 (qg.2 (.inr hx')))
         refine⟨⟨by omega,by omega,by omega⟩,o',KJ2,F2,R2,ps++[vs],_,_,⟨hI2,hz2,?_⟩,by omega,by simp,⟨hl1.symm,by simp;omega⟩,Qlt (hpool2.clh2 (by omega)),Qay (hpacl _),?_⟩
         ·rw[X9 h14];rfl
         ·have hw:=hI2.weak hF (n:=hx.length+((hy2++[O.dead,.dead,.arr vs.length 2 (vs.map P2.cs)]).length+1)+1+1) (by omega) (ps.length+1+1) [O.arr 1 1 [[.own (hx.length+3+(hy2.length+2)) vs.length 0 vs.length]]]
          rw[show hx.length+(hy2.length+1)+1+1+2=hx.length+3+(hy2.length+2) by omega,hl1,htc]
          rw[qz]at hw
          exact hw
end
def bdO (l:List Rn) (i:Nat):O:=.arr 1 2 [[Qj l,.i .i64 i]]
def Qgm (P:Program) (f:FuncId):Prop:=∀(h:List O) (id:Nat) (l:List Rn) (i:Nat),l.length<=8192->i<=2*l.length->h[id]?=some (bdO l i)->ACall P f [.p id 1 0 0] h (λr h'=>r=.b (decide (i=2*l.length))/\h'=h)
def OddC (P:Program) (f:FuncId):Prop:=∀(h:List O) (id:Nat) (l:List Rn) (i:Nat),l.length<=8192->i<=2*l.length->h[id]?=some (bdO l i)->ACall P f [.p id 1 0 0] h (λr h'=>r=.b (decide (i % 2=1))/\h'=h)
def NxbC (P:Program) (f:FuncId):Prop:=∀(h:List O) (id:Nat) (l:List Rn) (i:Nat),l.length<=8192->i<=2*l.length->h[id]?=some (bdO l i)->ACall P f [.p id 1 0 0] h (λr h'=>r=.i .i64 (Zu l i)/\h'=h)
def Qpq (P:Program) (f:FuncId):Prop:=∀(h:List O) (id:Nat) (l:List Rn) (i:Nat) (x:Int),l.length<=8192->i<=2*l.length->h[id]?=some (bdO l i)->ACall P f [.p id 1 0 0,.i .i64 x] h (λr h'=>r=.t []/\h'=h.set id (bdO l (swN l i x)))
def U9 (P:Program) (f:FuncId):Prop:=∀l:List Rn,RnsV l->RnI l->CallIs P f [Qj l] (.b true)
def OrBC (P:Program) (f:FuncId):Prop:=Qq P f=true/\∀a b:Bool,CallIs P f [.b a,.b b] (.b (a || b))
def Qew (P:Program) (f:FuncId):Prop:=∀(g:FuncId),OrBC P g->∀a b U:List Rn,RnsV a->RnsV b->RnI a->RnI b->RnsV U->(∀x,Qf U x↔Qf a x∨Qf b x)->CallIs P f [Qj a,Qj b,.f g []] (Qj U)
def Q2e (P:Program) (f:FuncId):Prop:=∀a b U:List Rn,RnsV a->RnsV b->RnI a->RnI b->RnsV U->(∀x,Qf U x↔Qf a x∨Qf b x)->CallIs P f [Qj a,Qj b] (Qj U)
section
variable {P:Program} (hm:P.follows .mixedOrders=true)
include hm
theorem Q1b {f:FuncId} (hf:Q9 P f L19.c L19.r L19.n) (hcb:Qq P f=true):OrBC P f:=by
 refine⟨hcb,λa b=>?_⟩
 refine PureC.is (Q8 hm hf (qh rfl) ?_) rfl
 unfold L19.c
 cases a<;>cases b<;>simp[go_sem,L19.r]
theorem Q4w {f ff:FuncId} (hf:Q9 P f (L1a.c ff) L1a.r L1a.n) (hff:Q9i P ff):U9 P f:=by
 intro l hl hb
 have hll:=hl.len hb
 refine PureC.is (Q8 hm hf (qh rfl) ?_) rfl
 unfold L1a.c
 simp[go_sem,Qj]
 refine Qh (α:=Nat) (λi=>i<=l.length)
  (λi=>⟨[(0,Qj l),(5,Qj l),(6,.i .i64 l.length),(7,.i .i64 i)],[]⟩)
  (λi=>l.length-i) 0 (Nat.zero_le _) ?_ ?_
 ·simp[go_sem,Qj]
 intro i hi
 by_cases hil:i=l.length
 ·subst hil
  simp[go_sem,Qj,L1a.r]
 have hlt:i<l.length:=by omega
 have hq:l[i]?=some l[i]:=q9 hlt
 have h1:=hl.1 _ (qb hq)
 have h2:=hb _ (qb hq)
 have hprev:∀j,i=j+1->∃s,l[j]?=some s/\s.b<(l[i]).a:=λj hj=>by
  subst hj
  exact⟨l[j],q9 (by omega),j4.1 hl.2 j (j+1) (by omega) hlt (by omega)⟩
 generalize l[i]=r at *
 obtain⟨_,hq'⟩:=q8.1 hq
 have hcall:=hff r (by omega)
 simp only[Rn.cs]at hcall
 by_cases hi0:i=0
 ·subst hi0
  simp (disch:=omega) [go_sem,Qj,hlt,hq,hq',Rn.cs,show ¬ r.b<=r.a by omega,Q3]
  refine Qo hcall ?_
  simp (disch:=omega) [go_sem,Qj,hlt,hq,hq',Rn.cs,show ¬ r.b<=r.a by omega,Q3]
  exact⟨1,by omega,by omega,by omega⟩
 ·obtain⟨j,rfl⟩:∃j,i=j+1:=⟨i-1,by omega⟩
  obtain⟨s,hs,hsr⟩:=hprev j rfl
  obtain⟨hjl,hs'⟩:=q8.1 hs
  have hlz:(j:Int)+1<(l.length:Int):=by omega
  simp (disch:=omega) [go_sem,Qj,hlt,hlz,hjl,hq,hq',hs,hs',Rn.cs,show ¬ r.b<=r.a by omega,show ¬ r.a<=s.b by omega,Q3]
  refine⟨by omega,Qo hcall ?_⟩
  simp (disch:=omega) [go_sem,Qj,hlt,hlz,hjl,hq,hq',hs,hs',Rn.cs,show ¬ r.b<=r.a by omega,show ¬ r.a<=s.b by omega,Q3]
  exact⟨j+2,by omega,by omega,by omega⟩
theorem Q7i {f:FuncId} (hf:Q9 P f L1d.c L1d.r L1d.n):Qgm P f:=by
 intro h id l i hl hi hid
 refine U3 hm hf (qh rfl) ?_
 unfold L1d.c
 have hb:(((i:Nat):Int) == 2*(l.length:Int))=decide (i=2*l.length):=by
  by_cases h1:i=2*l.length
  ·simp[h1]
  ·simp[h1];omega
 simp (disch:=omega) [go_sem,hid,bdO,Qj,Q3,hb,L1d.r]
theorem Q32 {f:FuncId} (hf:Q9 P f L1b.c L1b.r L1b.n):OddC P f:=by
 intro h id l i hl hi hid
 refine U3 hm hf (qh rfl) ?_
 unfold L1b.c
 have ht:((i:Nat):Int).tmod 2=((i % 2:Nat):Int):=by rw[jl (by omega)];simp
 have w:=Q3 (z:=((i % 2:Nat):Int)) (by omega) (by omega)
 have hb:((((i % 2:Nat):Int)) == 1)=decide (i % 2=1):=by
  by_cases h1:i % 2=1
  ·simp[h1]
  ·simp[h1];omega
 have hb2:((i:Int) % 2 == 1)=decide (i % 2=1):=by rw[<- hb];simp
 simp (disch:=omega) [go_sem,hid,bdO,Qj,ht,w,hb2,L1b.r]
theorem Q7j {f fo fi:FuncId} (hf:Q9 P f (L1c.c fo fi) L1c.r L1c.n) (ho:Qgm P fo) (hin:OddC P fi):NxbC P f:=by
 intro h id l i hl hi hid
 refine U3 hm hf (qh rfl) ?_
 unfold L1c.c
 have hoc:=ho h id l i hl hi hid
 have hic:=hin h id l i hl hi hid
 simp[go_sem]
 refine Qr hoc ?_
 by_cases h1:i=2*l.length
 ·have e:Zu l i=1048577:=by rw[h1];exact U4 l
  rw[e]
  simp[go_sem,h1,L1c.r]
 ·simp[go_sem,h1]
  refine Qr hic ?_
  have hd:i / 2<l.length:=by omega
  have hq:((i:Nat):Int).tdiv 2=((i / 2:Nat):Int):=by rw[Int.tdiv_eq_ediv_of_nonneg (by omega)];simp
  have w:=Q3 (z:=((i / 2:Nat):Int)) (by omega) (by omega)
  have hr:l[i / 2]?=some l[i / 2]:=q9 hd
  have e:Zu l i=if i % 2=1 then (l[i / 2]).b else (l[i / 2]).a:=by unfold Zu;rw[hr];rfl
  rw[e]
  generalize l[i / 2]=r at *
  obtain⟨_,hr'⟩:=q8.1 hr
  generalize i / 2=k at *
  by_cases h2:i % 2=1
  ·simp (disch:=omega) [go_sem,h2,hid,bdO,Qj,hq,w,hd,hr,hr',Rn.cs,Q3,L1c.r]
  ·simp (disch:=omega) [go_sem,h2,hid,bdO,Qj,hq,w,hd,hr,hr',Rn.cs,Q3,L1c.r]
theorem Q7h {f fn:FuncId} (hf:Q9 P f (L1e.c fn) L1e.r L1e.n) (hn:NxbC P fn):Qpq P f:=by
 intro h id l i x hl hi hid
 refine U3 hm hf (qh rfl) ?_
 unfold L1e.c
 have hnc:=hn h id l i hl hi hid
 obtain⟨hlt,hid'⟩:=q8.1 hid
 simp[go_sem]
 refine Qr hnc ?_
 unfold swN
 by_cases h1:Zu l i=x
 ·rw[if_pos h1]
  simp (disch:=omega) [go_sem,h1,hid,hid',hlt,bdO,Qj,Q3,L1e.r]
 ·rw[if_neg h1]
  have hb:(Zu l i == x)=false:=by simpa using h1
  have hse:h.set id (bdO l i)=h:=Z2 hid
  rw[hse]
  simp (disch:=omega) [go_sem,h1,hb,L1e.r]
theorem Q4v {f fv fo fn fp fi:FuncId} (hf:Q9 P f (L1h.c fv fo fn fp fi) L1h.r L1h.n)
  (hv:U9 P fv) (ho:Qgm P fo) (hn:NxbC P fn) (hp:Qpq P fp) (hin:OddC P fi):Qew P f:=by
 rintro g ⟨hcb,hg⟩ a b U va vb ia ib hU hUx
 have hal:=va.len ia
 have hbl:=vb.len ib
 refine PureC.is (Q8 hm hf (qh rfl) ?_) rfl
 unfold L1h.c
 simp[go_sem]
 refine Q5 (hv a va ia) ?_
 simp[go_sem]
 refine Q5 (hv b vb ib) ?_
 simp[go_sem,Qj]
 refine Qz [.t 9 2] (α:=Nat × Nat × Int × List Rn × Nat) (λp=>SwI a b p.1 p.2.1 p.2.2.1 p.2.2.2.1)
  (λp=>⟨[(2,.f g []),(7,.p 0 1 0 0),(8,.p 1 1 0 0),(9,.own 2 (p.2.2.2.2+1) 0 p.2.2.2.1.length),(10,.b (Uh p.1 p.2.1))],[.arr 1 2 [[Qj a,.i .i64 p.1]],.arr 1 2 [[Qj b,.i .i64 p.2.1]],.arr (p.2.2.2.2+1) 2 (p.2.2.2.1.map Rn.cs)]⟩)
  (λp=>2*a.length+2*b.length-p.1-p.2.1) (0,0,-5000,[],0) (SwI.start va vb ia ib) ?_ ?_
 ·simp[go_sem,Qj,Uh]
 rintro⟨i,j,X,out,gn⟩ hI
 simp only at hI ⊢
 have hil:=hI.pa.le
 have hjl:=hI.pb.le
 have hol:=hI.len
 have k1:=ho [.arr 1 2 [[Qj a,.i .i64 i]],.arr 1 2 [[Qj b,.i .i64 j]],.arr (gn+1) 2 (out.map Rn.cs)] 0 a i hal hil rfl
 have k2:=ho [.arr 1 2 [[Qj a,.i .i64 i]],.arr 1 2 [[Qj b,.i .i64 j]],.arr (gn+1) 2 (out.map Rn.cs)] 1 b j hbl hjl rfl
 by_cases hend:i=2*a.length/\j=2*b.length
 ·obtain⟨h1,h2⟩:=hend
  have hUe:out=U:=by
   rw[h1,h2]at hI
   exact hI.done va vb hU hUx
  subst hUe
  simp[go_sem]
  refine Qr k1 ?_
  simp[go_sem,h1]
  rw[h1]at k2
  refine Qr k2 ?_
  simp[go_sem,h2,L1h.r]
  rw[if_pos (Br out)];rfl
 have hij:i<2*a.length∨j<2*b.length:=by omega
 obtain⟨x,hx⟩:∃x,x=min (Zu a i) (Zu b j):=⟨_,rfl⟩
 have hst:=hI.step va vb ia ib hx hij
 obtain⟨i',hi'⟩:∃i',swN a i x=i':=⟨_,rfl⟩
 obtain⟨j',hj'⟩:∃j',swN b j x=j':=⟨_,rfl⟩
 have n1:=hn [.arr 1 2 [[Qj a,.i .i64 i]],.arr 1 2 [[Qj b,.i .i64 j]],.arr (gn+1) 2 (out.map Rn.cs)] 0 a i hal hil rfl
 have n2:=hn [.arr 1 2 [[Qj a,.i .i64 i]],.arr 1 2 [[Qj b,.i .i64 j]],.arr (gn+1) 2 (out.map Rn.cs)] 1 b j hbl hjl rfl
 have p1:=hp [.arr 1 2 [[Qj a,.i .i64 i]],.arr 1 2 [[Qj b,.i .i64 j]],.arr (gn+1) 2 (out.map Rn.cs)] 0 a i x hal hil rfl
 have p2:=hp [.arr 1 2 [[Qj a,.i .i64 i']],.arr 1 2 [[Qj b,.i .i64 j]],.arr (gn+1) 2 (out.map Rn.cs)] 1 b j x hbl hjl rfl
 rw[hi']at p1
 rw[hj']at p2
 rw[hi',hj']at hst
 have hil':=hst.pa.le
 have hjl':=hst.pb.le
 have q1:=hin [.arr 1 2 [[Qj a,.i .i64 i']],.arr 1 2 [[Qj b,.i .i64 j']],.arr (gn+1) 2 (out.map Rn.cs)] 0 a i' hal hil' rfl
 have q2:=hin [.arr 1 2 [[Qj a,.i .i64 i']],.arr 1 2 [[Qj b,.i .i64 j']],.arr (gn+1) 2 (out.map Rn.cs)] 1 b j' hbl hjl' rfl
 have hgc:=hg (decide (i' % 2=1)) (decide (j' % 2=1))
 rw[show (decide (i' % 2=1) || decide (j' % 2=1))=Uh i' j' from rfl]at hgc
 have hmeas:i+j+1<=i'+j':=by
  have h3:Zu a i=x∨Zu b j=x:=by omega
  rw[<- hi',<- hj']
  unfold swN
  rcases h3 with h3 | h3
  ·rw[if_pos h3];split<;>omega
  ·rw[if_pos h3];split<;>omega
 have hop:=hI.op
 generalize Zu a i=ba at *
 generalize Zu b j=bb at *
 have hmn:(if bb<ba then bb else ba)=x:=by rw[hx];split<;>omega
 have hmn2:(if ba<=bb then ba else bb)=x:=by rw[hx];split<;>omega
 rcases (show i≠2*a.length∨(i=2*a.length/\j≠2*b.length) by omega) with h1 | ⟨h1,h2⟩
 case' inl =>
  rw[decide_eq_false h1]at k1
  simp[go_sem]
  refine Qr k1 ?_
  simp[go_sem]
 case' inr =>
  rw[decide_eq_true h1]at k1
  rw[decide_eq_false h2]at k2
  simp[go_sem]
  refine Qr k1 ?_
  simp[go_sem]
  refine Qr k2 ?_
  simp[go_sem]
 all_goals
  refine Qr n1 ?_
  simp[go_sem]
  refine Qr n2 ?_
  simp[go_sem,<- hx,hmn,hmn2]
  refine Qr p1 ?_
  simp[go_sem,bdO]
  refine Qr p2 ?_
  simp[go_sem,bdO]
  refine Qr q1 ?_
  simp[go_sem]
  refine Qr q2 ?_
  simp[go_sem]
  refine⟨hcb,Q5 hgc ?_⟩
  obtain⟨was,hwas⟩:∃w,Uh i j=w:=⟨_,rfl⟩
  obtain⟨now,hnow⟩:∃w,Uh i' j'=w:=⟨_,rfl⟩
  rw[hwas,hnow]at hst
  rw[hwas]at hop
  have htk:List.take out.length (out.map Rn.cs)=out.map Rn.cs:=qe (by simp)
  cases was<;>cases now
  ·simp (disch:=omega) [go_sem,hwas,hnow,Q3]
   exact⟨i',j',x,out,hst,by omega,gn,⟨⟨rfl,rfl⟩,hnow⟩,⟨rfl,rfl⟩,⟨rfl,rfl⟩,⟨rfl,rfl⟩,Qan _ _⟩
  ·simp (disch:=omega) [go_sem,hwas,hnow,htk,Q3]
   refine⟨⟨by omega,by omega⟩,i',j',x,out++[⟨x,0⟩],hst,by omega,gn+1,⟨⟨rfl,by simp⟩,hnow⟩,⟨rfl,rfl⟩,⟨rfl,rfl⟩,⟨rfl,by simp[Rn.cs]⟩,Qan _ _⟩
  ·obtain⟨o,f0,ho1,_⟩:=hop rfl
   subst ho1
   have hog:∀x:List V,(List.map Rn.cs o++[x])[o.length]?=some x:=λx=>by
    have:=qf (l₁:=List.map Rn.cs o) (l₂:=[x]) (i:=o.length) (by simp)
    rw[this];simp
   have hos:∀x y:List V,(List.map Rn.cs o++[x]).set o.length y=List.map Rn.cs o++[y]:=λx y=>by
    rw[ji _ _ (by simp)];simp
   have hou:Ul x true false (o++[⟨f0,0⟩])=o++[⟨f0,x⟩]:=by simp[Ul]
   rw[hou]at hst
   simp at hol
   simp (disch:=omega) [go_sem,hwas,hnow,hog,hos,Rn.cs,Q3]
   exact⟨i',j',x,o++[⟨f0,x⟩],hst,by omega,gn,⟨⟨rfl,by simp⟩,hnow⟩,⟨rfl,rfl⟩,⟨rfl,rfl⟩,rfl,by simp[Rn.cs]⟩
  ·simp (disch:=omega) [go_sem,hwas,hnow,Q3]
   exact⟨i',j',x,out,hst,by omega,gn,⟨⟨rfl,rfl⟩,hnow⟩,⟨rfl,rfl⟩,⟨rfl,rfl⟩,⟨rfl,rfl⟩,Qan _ _⟩
theorem Q4x {f fs fg:FuncId} (hf:Q9 P f (L18.c fs fg) L18.r L18.n) (hs:Qew P fs) (hg:OrBC P fg):Q2e P f:=by
 intro a b U va vb ia ib hU hUx
 have h:=hs fg hg a b U va vb ia ib hU hUx
 refine PureC.is (Q8 hm hf (qh rfl) ?_) rfl
 unfold L18.c
 simp[go_sem]
 refine Q5 h ?_
 simp[go_sem,Qj,L18.r]
end
theorem Q9s {n:Int} (h1:0<=n) (h2:n<18446744073709551616):IntKind.u64.wrap n=n:=by
 show n % 18446744073709551616=n
 omega
def OkCC (P:Program) (f:FuncId):Prop:=∀x:Int,CallIs P f [.i .i64 x] (.b (decide (-4096<=x) && decide (x<4096)))
def Q2f (P:Program) (f:FuncId):Prop:=Qq P f=true/\∀(w:Rw) (y:Int),CallIs P f [.a w.cs,.i .i64 y] (.i .i64 (Er w.y y))
structure IdxR (g:List Rw) (y:Int) (n:Nat):Prop where
 le:n<=g.length
 lo:∀(k:Nat) (w:Rw),g[k]?=some w->k<n->w.y<y
 hi:∀(k:Nat) (w:Rw),g[k]?=some w->n<=k->y<=w.y
theorem IdxR.ex:∀{g:List Rw},RgV g->∀y:Int,∃n,IdxR g y n
 | [],_,y=>⟨0,by simp,by simp,by simp⟩
 | w::g,hg,y=>by
   have hg2:RgV g:=⟨λu hu=>hg.rs u (by simp[hu]),λu hu=>hg.ne u (by simp[hu]),(j9.1 hg.asc).2⟩
   have hlt:=(j9.1 hg.asc).1
   by_cases h:w.y<y
   ·obtain⟨n,h1,h2,h3⟩:=IdxR.ex hg2 y
    refine⟨n+1,by simp;omega,λk v hk hkn=>?_,λk v hk hkn=>?_⟩
    ·cases k with
     | zero=>simp at hk;subst hk;exact h
     | succ k=>exact h2 k v (by simpa using hk) (by omega)
    ·cases k with
     | zero=>omega
     | succ k=>exact h3 k v (by simpa using hk) (by omega)
   ·refine⟨0,by omega,by omega,λk v hk _=>?_⟩
    cases k with
    | zero=>simp at hk;subst hk;omega
    | succ k =>
      have:=hlt v (qb (i:=k) (by simpa using hk))
      omega
def BsC (P:Program) (f:FuncId):Prop:=∀fg,Q2f P fg->∀(g:List Rw) (y:Int) (n:Nat),g.length<=8192->IdxR g y n->CallIs P f [rwL g,.i .i64 y,.f fg []] (.t [.i .i64 n,.b (decide (∃w,g[n]?=some w/\w.y=y))])
def Qpi (P:Program) (f:FuncId):Prop:=∀(g:List Rw) (y:Int),RgV g->RgB g->CallIs P f [rgV g,.i .i64 y] (Qj (Xn g y))
def Q9o (P:Program) (f:FuncId):Prop:=∀l:List Rn,l≠[]->l.length<=8192->CallIs P f [Qj l] (Qj l)
theorem IdxR.row {g:List Rw} (hg:RgV g) {y:Int} {n:Nat} (h:IdxR g y n):(∀w,g[n]?=some w->w.y=y->Xn g y=w.rs)/\((¬ ∃w,g[n]?=some w/\w.y=y)->Xn g y=[]):=by
 constructor
 ·intro w hw he
  subst he
  exact Bp hg (qb hw)
 ·intro hn
  refine Bq λw hw he=>?_
  obtain⟨k,hk⟩:=qq hw
  by_cases h1:k<n
  ·have:=h.lo k w hk h1;omega
  ·by_cases h2:k=n
   ·subst h2;exact hn ⟨w,hk,he⟩
   ·have hkl:=(q8.1 hk).1
    have hq:g[n]?=some g[n]:=q9 (by omega)
    have h3:=h.hi n _ hq (Nat.le_refl _)
    have h4:=j4.1 hg.asc n k (by omega) hkl (by omega)
    rw[(q8.1 hk).2]at h4
    omega
section
variable {P:Program} (hm:P.follows .mixedOrders=true)
include hm
theorem Q7p {f:FuncId} (hf:Q9 P f L11.c L11.r L11.n):OkCC P f:=by
 intro x
 refine PureC.is (Q8 hm hf (qh rfl) ?_) rfl
 unfold L11.c
 by_cases h1:-4096<=x<;>by_cases h2:x<4096<;>simp[go_sem,h1,h2,L11.r]
theorem Q1d {f fc:FuncId} (hf:Q9 P f (L13.c fc) L13.r L13.n) (hc:CmpC P fc) (hcb:Qq P f=true):Q2f P f:=by
 refine⟨hcb,λw y=>?_⟩
 have h:=hc w.y y
 refine PureC.is (Q8 hm hf (qh rfl) ?_) rfl
 unfold L13.c
 simp[go_sem,Rw.cs]
 refine Q5 h ?_
 simp[go_sem,L13.r]
theorem Bj {f:FuncId} (hf:Q9 P f L1s.c L1s.r L1s.n):Q9o P f:=by
 intro l hl hll
 refine PureC.is (Q8 hm hf (qh rfl) ?_) rfl
 unfold L1s.c
 obtain⟨r,k,rfl⟩:∃r k,l=r::k:=by
  cases l with
  | nil=>exact absurd rfl hl
  | cons r k=>exact⟨r,k,rfl⟩
 simp only[List.length_cons]at hll
 have hd:=Br (r::k)
 have ht:List.take (k.length+1) (r.cs::k.map Rn.cs)=r.cs::k.map Rn.cs:=qe (by simp)
 simp (disch:=omega) [go_sem,Qj,ht,L1s.r]
 refine⟨⟨by omega,by omega⟩,?_⟩
 rw[if_pos ⟨hd r (by simp),λx hx=>hd x (by simp[hx])⟩];rfl
theorem Jp {f:FuncId} (hf:Q9 P f L1r.c L1r.r L1r.n):BsC P f:=by
 rintro fg ⟨hcb,hcmp⟩ g y n hgl hn
 refine PureC.is (Q8 hm hf (qh rfl) ?_) rfl
 unfold L1r.c
 simp[go_sem,rwL]
 refine Qh (α:=Nat × Nat) (λp=>p.1<=n/\n<=p.2/\p.2<=g.length)
  (λp=>⟨[(0,rwL g),(1,.i .i64 y),(2,.f fg []),(8,.i .i64 g.length),(9,.i .i64 p.1),(10,.i .i64 p.2)],[]⟩)
  (λp=>p.2-p.1) (0,g.length) ⟨Nat.zero_le _,hn.le,Nat.le_refl _⟩ ?_ ?_
 ·simp[go_sem,rwL]
 rintro⟨i,j⟩ ⟨h1,h2,h3⟩
 simp only at h1 h2 h3 ⊢
 by_cases hij:i<j
 ·obtain⟨q,hq⟩:∃q,q=(i+j) / 2:=⟨_,rfl⟩
  have hql:q<g.length:=by omega
  have hw:g[q]?=some g[q]:=q9 hql
  have w1:=Q9s (n:=(i:Int)+j) (by omega) (by omega)
  have hlo:=hn.lo q _ hw
  have hhi:=hn.hi q _ hw
  have hcw:=hcmp g[q] y
  generalize g[q]=w at *
  obtain⟨_,hw'⟩:=q8.1 hw
  have hfd:((i:Int)+j).fdiv 2=(q:Int):=by rw[Int.fdiv_eq_ediv_of_nonneg _ (by omega)];omega
  have w2:=Q3 (z:=(q:Int)) (by omega) (by omega)
  have hcn:Er w.y y<0↔w.y<y:=by have:=cmpI_lt w.y y;simpa using this
  generalize Er w.y y=c at *
  simp only[Rw.cs]at hcw
  simp (disch:=omega) [go_sem,rwL,hij,w1,w2,hfd,hql,hw,hw',Rw.cs,Q3]
  refine⟨hcb,Q5 hcw ?_⟩
  by_cases hlt:w.y<y
  ·have hqn:q<n:=j7 λhh=>by have:=hhi (by omega);omega
   simp (disch:=omega) [go_sem,rwL,hcn,hlt,Q3]
   exact⟨q+1,j,⟨by omega,by omega,by omega⟩,by omega,by omega,rfl⟩
  ·have hqn:n<=q:=j7 λhh=>by have:=hlo (by omega);omega
   simp (disch:=omega) [go_sem,rwL,hcn,hlt,Q3]
   exact⟨i,q,⟨by omega,by omega,by omega⟩,by omega,rfl,rfl⟩
 ·obtain rfl:i=n:=by omega
  by_cases hil:i<g.length
  ·have hw:g[i]?=some g[i]:=q9 hil
   have hcw:=hcmp g[i] y
   generalize g[i]=w at *
   obtain⟨_,hw'⟩:=q8.1 hw
   have he:(Er w.y y == 0)=decide (w.y=y):=by
    have h1:(Er w.y y=0)↔w.y=y:=by
     unfold Er
     split
     ·omega
     ·split<;>omega
    by_cases h2:w.y=y
    ·rw[decide_eq_true h2,h1.2 h2];rfl
    ·rw[decide_eq_false h2]
     simpa using λhh=>h2 (h1.1 hh)
   rw[hw]
   simp only[Rw.cs]at hcw
   simp (disch:=omega) [go_sem,rwL,hij,hil,hw,hw',Rw.cs,Q3]
   refine⟨hcb,Q5 hcw ?_⟩
   simp[go_sem,he,L1r.r]
  ·have hn0:g[i]?=none:=qk (by omega)
   rw[hn0]
   simp (disch:=omega) [go_sem,rwL,hij,hil,L1r.r]
theorem Q4y {f fb fg:FuncId} (hf:Q9 P f (L12.c fb fg) L12.r L12.n) (hb:BsC P fb) (hg:Q2f P fg):Qpi P f:=by
 intro g y hv hbd
 obtain⟨n,hn⟩:=IdxR.ex hv y
 have hbc:=hb fg hg g y n (hv.len hbd) hn
 obtain⟨h1,h2⟩:=hn.row hv
 by_cases hex:∃w,g[n]?=some w/\w.y=y
 ·rw[decide_eq_true hex]at hbc
  obtain⟨w,hw,hwy⟩:=hex
  rw[h1 w hw hwy]
  obtain⟨hnl,hw'⟩:=q8.1 hw
  refine PureC.is (Q8 hm hf (qh rfl) ?_) rfl
  unfold L12.c
  simp[go_sem,rgV]
  refine Q5 hbc ?_
  simp[go_sem,hnl,hw,hw',Rw.cs,Qj,L12.r]
 ·rw[decide_eq_false hex]at hbc
  rw[h2 hex]
  refine CallIs.res (r:=.nil) ?_ (.inl (.inl (Le0.nil 2)))
  refine PureC.is (Q8 hm hf (qh rfl) ?_) rfl
  unfold L12.c
  simp[go_sem,rgV]
  refine Q5 hbc ?_
  simp[go_sem,L12.r]
theorem Q1e {f fo fr:FuncId} (hf:Q9 P f (L0z.c fo fr) L0z.r L0z.n) (ho:OkCC P fo) (hr:U9 P fr):Q9d P f:=by
 intro g hg hb
 have hll:=hg.len hb
 refine PureC.is (Q8 hm hf (qh rfl) ?_) rfl
 unfold L0z.c
 simp[go_sem,rgV]
 refine Qh (α:=Nat) (λi=>i<=g.length)
  (λi=>⟨[(1,.p 0 1 0 0),(6,rwL g),(7,.i .i64 g.length),(8,.i .i64 i)],[.arr 1 1 [[rwL g]]]⟩)
  (λi=>g.length-i) 0 (Nat.zero_le _) ?_ ?_
 ·simp[go_sem,rwL]
 intro i hi
 by_cases hil:i=g.length
 ·subst hil
  simp[go_sem,rwL,L0z.r]
 have hlt:i<g.length:=by omega
 have hq:g[i]?=some g[i]:=q9 hlt
 have hy:=hb.yb hg (qb hq)
 have hrs:=hg.rs _ (qb hq)
 have hrb:=hb.rnb hg (qb hq)
 have hne:=hg.ne _ (qb hq)
 have hvc:=hr _ hrs hrb
 have hprev:∀j,i=j+1->∃s,g[j]?=some s/\s.y<(g[i]).y:=λj hj=>by
  subst hj
  exact⟨g[j],q9 (by omega),j4.1 hg.asc j (j+1) (by omega) hlt (by omega)⟩
 have ho1:=ho (g[i]).y
 rw[show (decide (-4096<=(g[i]).y) && decide ((g[i]).y<4096))=true by simp;omega]at ho1
 generalize g[i]=w at *
 obtain⟨_,hq'⟩:=q8.1 hq
 obtain⟨y,rs⟩:=w
 simp only at hy hrs hrb hne hvc hprev ho1
 obtain⟨r0,hr0⟩:∃r,rs[0]?=some r:=by cases rs with | nil=>exact absurd rfl hne | cons a b=>exact⟨a,rfl⟩
 obtain⟨l,hl⟩:∃l,rs.length=l+1:=⟨rs.length-1,by have:=List.length_pos_iff.2 hne;omega⟩
 obtain⟨r1,hr1⟩:∃r,rs[l]?=some r:=⟨rs[l]'(by omega),q9 (by omega)⟩
 have hlb:=hrs.len hrb
 have e0:=hrb r0 (qb hr0)
 have e1:=hrb r1 (qb hr1)
 have f0:=hrs.1 r0 (qb hr0)
 have f1:=hrs.1 r1 (qb hr1)
 obtain⟨_,hr0'⟩:=q8.1 hr0
 obtain⟨_,hr1'⟩:=q8.1 hr1
 have o0:=ho r0.a
 rw[show (decide (-4096<=r0.a) && decide (r0.a<4096))=true by simp;omega]at o0
 have o1:=ho (r1.b-1)
 rw[show (decide (-4096<=r1.b-1) && decide (r1.b-1<4096))=true by simp;omega]at o1
 have hl0:0<rs.length:=by omega
 have hlf:((rs.length:Int) == 0)=false:=by simp;omega
 have hlf2:((l:Int)+1 == 0)=false:=by simp;omega
 simp only[Qj]at hvc
 by_cases hi0:i=0
 case' pos =>
  subst hi0
  simp (disch:=omega) [go_sem,rwL,hlt,hq,hq',Rw.cs,Qj,Q3]
  refine Qo ho1 ?_
  simp (disch:=omega) [go_sem,rwL,hlt,hq,hq',Rw.cs,Qj,hl,hlf2,Q3]
 case' neg =>
  obtain⟨j,rfl⟩:∃j,i=j+1:=⟨i-1,by omega⟩
  obtain⟨s,hs,hsr⟩:=hprev j rfl
  obtain⟨hjl,hs'⟩:=q8.1 hs
  have hlz:(j:Int)+1<(g.length:Int):=by omega
  have hz0:(0:Int)<=(j:Int)+1:=by omega
  simp (disch:=omega) [go_sem,rwL,hlt,hlz,hjl,hz0,hq,hq',hs,hs',Rw.cs,Qj,Q3]
  refine Qo ho1 ?_
  simp (disch:=omega) [go_sem,rwL,hlt,hlz,hjl,hz0,hq,hq',hs,hs',Rw.cs,Qj,hl,hlf2,show ¬ y<=s.y by omega,Q3]
 all_goals
  refine Qo hvc ?_
  simp (disch:=omega) [go_sem,Rn.cs,Qj,hl,hlf2,hl0,hr0,hr0',Q3]
  refine Q5 o0 ?_
  simp (disch:=omega) [go_sem,Rn.cs,Qj,hl,hlf2,hl0,hr1,hr1',Q3]
  refine Q5 o1 ?_
  simp (disch:=omega) [go_sem,Q3]
 case' pos=>exact⟨1,by omega,by omega,by omega⟩
 case' neg=>exact⟨j+2,by omega,by omega,by omega⟩
end
end Go.Abs
