/- Part of the library on which the proof stands: an abstract machine, its values and its soundness against the model; or what functions of the program do to such values. -/
import Derived.Test.YtjggbpiapinceaaGreatGoCtI
import Derived.Test.YtjggbpiapinceaaGreatGoCtE
import Derived.Test.YtjggbpiapinceaaGreatGoSet
import Derived.Test.YtjggbpiapinceaaGreatAbsSS
import Derived.Test.YtjggbpiapinceaaGreatGoSl
import Derived.Test.YtjggbpiapinceaaGreatGoSecH
set_option linter.unusedVariables false
set_option linter.unusedSimpArgs false
set_option maxHeartbeats 16000000
set_option maxRecDepth 20000
namespace Go.Abs
theorem Kg (l:List P2) (n:Nat) (g:Nat):(O.arr g 2 (l.map P2.cs)).cl n:=Qgp Qpd l n
theorem Qoy (s:Sg4) (n:Nat):(O.arr 1 4 [[V.i .i64 s.a.1,.i .i64 s.a.2,.i .i64 s.b.1,.i .i64 s.b.2]]).cl n:=by
 intro el hel x hx
 simp at hel;subst hel
 simp at hx;rcases hx with rfl | rfl | rfl | rfl<;>rfl
theorem PF.perm {F:P2->List P2} {R:List Eg} (h:PF F R) {e:P2} {zs:List P2} (hz:zs.Perm (F e)):PF (Q33 F e zs) R:=λk=>by
 by_cases hk:k=e
 ·subst hk;rw[Jr];exact(h k).trans hz.symm
 ·rw[J4 hk];exact h k
structure PhI (hx:List O) (pa:O) (R:List Eg) (o:O) (KJ:List (P2 × PI)) (F:P2->List P2) (R':List Eg) (ps:List (List P2)) (hy:List O) (cells:List (List V)):Prop where
 pool:PoolAt (hx.length+2) (o::pa::hx) 0 o KJ F
 pf:PF F R'
 bal:Q19 R'
 perm:(ps.flatMap Za++R').Perm R
 held:Qtm (hx.length+3) hy ps cells
 flt:Flt hy
 len:ps.length+R'.length<=R.length
theorem PhI.ents {hx:List O} {pa:O} {R:List Eg} {o:O} {KJ:List (P2 × PI)} {F:P2->List P2} {R':List Eg} {ps:List (List P2)} {hy:List O} {cells:List (List V)} (h:PhI hx pa R o KJ F R' ps hy cells) (tl:List O):Zl (o::tl) (.mp 0)=some (KJ.map (asG P2.enc evP)):=by
 rcases h.pool.mp with rfl | rfl<;>rfl
theorem PoolAt.clh2 {b:Nat} {h:List O} {id:Nat} {o:O} {KJ:List (P2 × PI)} {F:P2->List P2} (H:PoolAt b h id o KJ F) {n:Nat} (hn:b<=n):o.cl n:=by
 have he:∀e∈KJ.map (asG P2.enc evP),e.1.cl n=true/\e.2.cl n=true:=by
  intro e he
  obtain⟨⟨k,p⟩,hm,rfl⟩:=qp.1 he
  obtain⟨i,hi⟩:=qr hm
  have:=H.lt i k p hi
  simp[asG,evP,P2.enc,P2.cs,V.cl,V.cl1,V.cl0]
  omega
 rcases H.mp with rfl | rfl
 ·exact he
 ·exact he
theorem PhI.ocl {hx:List O} {pa:O} {R:List Eg} {o:O} {KJ:List (P2 × PI)} {F:P2->List P2} {R':List Eg} {ps:List (List P2)} {hy:List O} {cells:List (List V)} (h:PhI hx pa R o KJ F R' ps hy cells) {n:Nat} (hn:hx.length+2<=n):o.cl n:=by
 have he:∀e∈KJ.map (asG P2.enc evP),e.1.cl n=true/\e.2.cl n=true:=by
  intro e he
  obtain⟨⟨k,p⟩,hm,rfl⟩:=qp.1 he
  obtain⟨i,hi⟩:=qr hm
  have:=h.pool.lt i k p hi
  simp[asG,evP,P2.enc,P2.cs,V.cl,V.cl1,V.cl0]
  omega
 rcases h.pool.mp with rfl | rfl
 ·exact he
 ·exact he
theorem PhI.weak {hx:List O} {pa:O} {R:List Eg} {o:O} {KJ:List (P2 × PI)} {F:P2->List P2} {R':List Eg} {ps:List (List P2)} {hy:List O} {cells:List (List V)} (h:PhI hx pa R o KJ F R' ps hy cells) (hF:Flt hx) {n:Nat} (hn:hx.length+3+hy.length<=n) (g:Nat) (l:List O):WeakH n (hx++.arr g 1 cells::(hy++l)) (hx++.arr g 1 cells::hy) :=
 Qs (λo ho=>hF o ho _) ⟨.inr ⟨rfl,h.held.cl Qpd hn⟩,h.flt.WeakH _⟩
theorem PhI.weak' {hx:List O} {pa:O} {R:List Eg} {o:O} {KJ:List (P2 × PI)} {F:P2->List P2} {R':List Eg} {ps:List (List P2)} {hy:List O} {cells:List (List V)} (h:PhI hx pa R o KJ F R' ps hy cells) (hF:Flt hx) {n:Nat} (hn:hx.length+3+hy.length<=n) (g:Nat):WeakH n (hx++.arr g 1 cells::hy) (hx++.arr g 1 cells::hy):=by
 have:=h.weak hF hn g []
 rwa [List.append_nil]at this
theorem Qdf {o:O} {n:Nat} (h:o.cl n):o=O.dead∨(match (generalizing:=false) o with | .arr _ _ els=>∀el∈els,∀x∈el,x.cl n=true | .mp es=>∀a b,(a,b)∈es->a.cl n=true/\b.cl n=true | .md es=>∀a b,(a,b)∈es->a.cl n=true/\b.cl n=true | .it mid _ _=>∀i,mid=some i->i<n | .dead=>True):=by
 right
 cases o with
 | arr g s els=>exact h
 | mp es=>exact λa b he=>h (a,b) he
 | md es=>exact λa b he=>h (a,b) he
 | it mid a b=>exact h
 | dead=>trivial
theorem Qpm {o:O} {n:Nat} (h:o.cl n):o=O.dead∨o=o/\(match (generalizing:=false) o with | .arr _ _ els=>∀el∈els,∀x∈el,x.cl n=true | .mp es=>∀a b,(a,b)∈es->a.cl n=true/\b.cl n=true | .md es=>∀a b,(a,b)∈es->a.cl n=true/\b.cl n=true | .it mid _ _=>∀i,mid=some i->i<n | .dead=>True) :=
 (Qdf h).imp id λh=>⟨rfl,h⟩
section
variable {P:Program} (hm:P.follows .mixedOrders=true)
include hm
theorem Q2c {f fv fb fs fc fp:FuncId} (hf:Qa P f (L08.c fv fb fs fc fp) L08.r L08.n) (hv:Qc3 P fv) (hb:Qu9 P fb) (hs:Wc P fs 2) (hc:Qc2 P fc) (hcal:Z3 P fc=true) (hp:Q6v P fp):Qid P f:=by
 intro l hl
 have hlen:=hl.1
 have hb1:=hb l hlen
 refine⟨λhbal=>?_,λhbal=>?_⟩
 ·have hbb:Qez (egs l)=false:=by
   cases h:Qez (egs l) with
   | false=>rfl
   | true=>exact absurd (balB_iff.1 h) hbal
  rw[hbb]at hb1
  refine CallIs.res (r:=.t [.nil,.i .i64 12]) ?_ (Qlc _)
  refine PureC.is (Q8 hm hf (qh rfl) ?_) rfl
  unfold L08.c
  simp[go_sem,Yt,show ¬ (8192:Int)<l.length by omega]
  refine Qf (α:=Nat) (λk=>k<=l.length)
   (λk=>⟨[(0,Yt l),(18,Yt l),(19,.i .i64 l.length),(20,.i .i64 k)],[]⟩)
   (λk=>l.length-k) 0 (Nat.zero_le _) ?_ ?_
  ·simp[go_sem,Yt]
  ·intro k hk
   by_cases hkl:k=l.length
   ·subst hkl
    simp[go_sem,Yt]
    refine Q4 hb1 ?_
    simp[go_sem,L08.r]
   ·have hlt:k<l.length:=by omega
    have hq:=Ug hlt
    generalize Qfx l k=s at hq
    obtain⟨_,hq'⟩:=q8.1 hq
    obtain⟨v1,v2⟩:=Q8h hl (qb hq)
    have c1:=hv s.eg.1
    have c2:=hv s.eg.2
    rw[v1,Qit]at c1
    rw[v2,Qis]at c2
    simp (disch:=omega) [go_sem,Yt,hlt,hq,hq',Sg4.cs]
    refine Q4 c1 ?_
    simp (disch:=omega) [go_sem,Yt,hlt,hq,hq',Sg4.cs]
    refine Q4 c2 ?_
    simp (disch:=omega) [go_sem,Q3]
    exact⟨k+1,by omega,by omega,by simp[Yt]⟩
 ·rw[balB_iff.2 hbal]at hb1
  refine Q57 hm hf (qh rfl) ?_
  unfold L08.c
  simp[go_sem,Yt,show ¬ (8192:Int)<l.length by omega]
  refine Qf (α:=Nat) (λk=>k<=l.length)
   (λk=>⟨[(0,Yt l),(18,Yt l),(19,.i .i64 l.length),(20,.i .i64 k)],[]⟩)
   (λk=>l.length-k) 0 (Nat.zero_le _) ?_ ?_
  ·simp[go_sem,Yt]
  intro k hk
  by_cases hkl:k=l.length
  case neg =>
   have hlt:k<l.length:=by omega
   have hq:=Ug hlt
   generalize Qfx l k=s at hq
   obtain⟨_,hq'⟩:=q8.1 hq
   obtain⟨v1,v2⟩:=Q8h hl (qb hq)
   have c1:=hv s.eg.1
   have c2:=hv s.eg.2
   rw[v1,Qit]at c1
   rw[v2,Qis]at c2
   simp (disch:=omega) [go_sem,Yt,hlt,hq,hq',Sg4.cs]
   refine Q4 c1 ?_
   simp (disch:=omega) [go_sem,Yt,hlt,hq,hq',Sg4.cs]
   refine Q4 c2 ?_
   simp (disch:=omega) [go_sem,Q3]
   exact⟨k+1,by omega,by omega,by simp[Yt]⟩
  subst hkl
  have hseg:Yt l=.l 4 (l.map Sg4.cs):=rfl
  simp[go_sem,Yt]
  refine Q4 hb1 ?_
  simp[go_sem]
  refine Z5 [.t 7 2] (α:=Nat × List O × List (P2 × PI))
   (λp=>p.1<=l.length/\UMc p.2.1 p.2.2 (Q1p (neE (egs (l.take p.1))))/\Flt p.2.1/\p.2.2.length<=p.1)
   (λp=>⟨[(6,.mp 0),(7,.own 1 (p.2.2.length+1) 0 p.2.2.length),(39,Yt l),(40,.i .i64 l.length),(41,.i .i64 p.1)],
    .mp (p.2.2.map (asG P2.enc evP))::.arr (p.2.2.length+1) 2 ((p.2.2.map Prod.fst).map P2.cs)::p.2.1⟩)
   (λp=>l.length-p.1) (0,[],[]) ⟨Nat.zero_le _,UMc.nil,by simp[Flt],by simp⟩ ?_ ?_
  ·simp[go_sem,Yt]
   done
  ·rintro⟨k,hx,KJ⟩ ⟨hk,hU,hF,hKl⟩
   simp only at hk hU hF hKl ⊢
   by_cases hkl:k=l.length
   case neg =>
    have hlt:k<l.length:=by omega
    have hq:=Ug hlt
    have hnt:=ne_take hq
    have hR2:(neE (egs (l.take k))).length<=4096:=by
     refine Nat.le_trans (j9 _ _) ?_
     rw[Q46,qw];omega
    generalize Qfx l k=s at hq hnt
    obtain⟨_,hq'⟩:=q8.1 hq
    generalize neE (egs (l.take k))=R at *
    cases hee:(s.a.1 == s.b.1 && s.a.2 == s.b.2) with
    | true =>
      have heq:s.eg.1=s.eg.2:=by
       simp only[Bool.and_eq_true,beq_iff_eq]at hee
       exact p2_iff.2 hee
      rw[if_pos heq,List.append_nil]at hnt
      simp (disch:=omega) [go_sem,Yt,hlt,hq,hq',Sg4.cs,hee,Q9,Qb,Qk,Ql,Q3]
      have hU2:=hU.app [O.arr 1 4 [[V.i .i64 s.a.1,.i .i64 s.a.2,.i .i64 s.b.1,.i .i64 s.b.2]]]
      have hF2:=hF.app (Flt.one (Qoy s))
      refine⟨k+1,hx++[O.arr 1 4 [[V.i .i64 s.a.1,.i .i64 s.a.2,.i .i64 s.b.1,.i .i64 s.b.2]]],KJ,⟨by omega,by rw[hnt];exact hU2,hF2,by omega⟩,by omega,by simp,⟨rfl,by omega⟩,⟨rfl,hU2.cl2 (by simp)⟩,⟨⟨rfl,rfl⟩,?_⟩,hF2.WeakH' _⟩
      rintro el x x1 _ rfl
      exact of_eq_true (Q08 x _)
    | false =>
      have hne:s.eg.1≠s.eg.2:=by
       intro hh
       have h5:s.a.1=s.b.1/\s.a.2=s.b.2:=p2_iff.1 hh
       rw[h5.1,h5.2]at hee
       simp at hee
      rw[if_neg hne,show s.eg=(s.eg.1,s.eg.2) from rfl]at hnt
      have hof:Q1p (R++[(s.eg.1,s.eg.2)])=_:=Qlf R s.eg.1 s.eg.2
      rw[<- hnt]at hof
      have hfe:Qj [1,1] (V.a [.i .i64 s.a.1,.i .i64 s.a.2]) (KJ.map (asG P2.enc evP))=_:=Zw Kq evP s.eg.1 KJ
      cases hfn:Z2 s.eg.1 KJ with
      | none =>
        rw[hfn,Option.map_none]at hfe
        simp (disch:=omega) [go_sem,Yt,hlt,hq,hq',Sg4.cs,hee,hfe,Ja,J9,Q9,Qb,Qk,Ql,Q3]
        have hF2:Flt (hx++[O.arr 1 4 [[V.i .i64 s.a.1,.i .i64 s.a.2,.i .i64 s.b.1,.i .i64 s.b.2]],O.arr 1 2 [[V.i .i64 s.b.1,.i .i64 s.b.2]]]):=hF.app λo ho n=>by
         simp at ho
         rcases ho with rfl | rfl
         ·exact Qoy s n
         ·exact Kg [s.eg.2] n 1
        have hU2:=hU.new (v:=s.eg.2) hfn (l:=[O.arr 1 4 [[V.i .i64 s.a.1,.i .i64 s.a.2,.i .i64 s.b.1,.i .i64 s.b.2]],O.arr 1 2 [[V.i .i64 s.b.1,.i .i64 s.b.2]]]) (j0:=hx.length+1) (by omega) (by rw[Q9];rfl)
        have hz:=hU.none _ hfn
        rw[hz,List.nil_append]at hof
        refine⟨⟨by omega,by omega⟩,k+1,_,_,⟨by omega,by rw[hof];exact hU2,hF2,by simp;omega⟩,by omega,by simp,⟨by simp,by omega⟩,⟨by rw[qx];rfl,hU2.cl2 (by simp)⟩,⟨⟨by simp,by rw[qx];rfl⟩,?_⟩,hF2.WeakH' _⟩
        rintro el x x1 _ rfl
        exact of_eq_true (Q08 x _)
      | some q =>
        obtain⟨i,p⟩:=q
        rw[hfn,Option.map_some]at hfe
        have hi:=Zm hfn
        obtain⟨j,rfl,hF1,hxj⟩:=hU.val i _ p hi
        have hFl:(Q1p R s.eg.1).length<=4096:=by
         unfold Q1p
         rw[List.length_map]
         exact Nat.le_trans (j9 _ _) hR2
        have hU2:=λl (hl:1<=l.length)=>(hU.old (l:=l) hi rfl hl).app [O.arr 1 4 [[V.i .i64 s.a.1,.i .i64 s.a.2,.i .i64 s.b.1,.i .i64 s.b.2]]]
        generalize Q1p R s.eg.1=fl at *
        have hjl:=(q8.1 hxj).1
        have hgj:∀l:List O,(hx++l)[j]?=some (.arr fl.length 2 (fl.map P2.cs)):=λl=>Yx hxj
        have hsj:∀(l:List O) (o:O),(hx++l).set j o=hx.set j o++l:=λl o=>Ey l hjl o
        have htn:List.take fl.length (fl.map P2.cs)=fl.map P2.cs:=qe (by simp)
        have hFz:¬ fl=[]:=by rintro rfl;simp at hF1
        simp (disch:=omega) [go_sem,Yt,hlt,hq,hq',Sg4.cs,hee,hfe,evP,hgj,hsj,htn,hFz,J8 _ hi,Q9,Qb,Qk,Ql,Q3]
        have hl1:(fl++[s.eg.2]).length=fl.length+1:=by simp
        have hm1:(fl++[s.eg.2]).map P2.cs=fl.map P2.cs++[[V.i .i64 s.b.1,V.i .i64 s.b.2]]:=by rw[qx];rfl
        have hU3:=hU2 (fl++[s.eg.2]) (by simp)
        have hF2:=(hF.set (j:=j) (Kg (fl++[s.eg.2]) · (fl.length+1))).app (Flt.one (Qoy s))
        rw[hl1,hm1]at hU3
        rw[hm1]at hF2
        have hks:KJ.map Prod.fst=(KJ.set i (s.eg.1,(⟨j+2,fl.length+1,0,fl.length+1⟩:PI))).map Prod.fst:=by
         rw[List.map_set]
         exact(Ky _ _ _ (by rw[qq,hi];rfl)).symm
        have hks2:=congrArg (List.map P2.cs) hks
        rw[List.map_map,List.map_map]at hks2
        refine⟨⟨by omega,by omega⟩,k+1,_,_,⟨by omega,by rw[hof];exact hU3,hF2,by simp;omega⟩,by omega,by simp,⟨by simp,by omega⟩,⟨by rw[List.map_set];rfl,hU3.cl2 (by simp)⟩,⟨⟨by simp,hks2⟩,?_⟩,hF2.WeakH' _⟩
        rintro el x x1 _ rfl
        exact of_eq_true (Q08 x _)
   subst hkl
   rw[qi]at hU
   have hR0:(neE (egs l)).length<=4096:=by
    refine Nat.le_trans (j9 _ _) ?_
    rw[Q46];omega
   have hR0l:(neE (egs l)).length<=l.length:=by
    refine Nat.le_trans (j9 _ _) ?_
    rw[Q46];omega
   have hRB:Q19 (neE (egs l)):=neE_bal hbal
   generalize neE (egs l)=R at *
   have hsort:∀xs:List P2,xs.length<=4096->∃ys:List P2,ys.Perm xs/\∀(h:List O) (id gen:Nat),h[id]?=some (.arr gen 2 (xs.map P2.cs))->ACall P fs [.own id gen 0 xs.length,.f fc []] h (λr h'=>r=.t []/\h'=h.set id (.arr gen 2 (ys.map P2.cs))):=λxs hx=>by
    obtain⟨ys,h1,_,h2⟩:=hs (λp:P2=>[p.x,p.y]) (λ_=>rfl) Q9e Qmp fc hcal (λa b=>hc a b) xs (by omega)
    exact⟨ys,h1,h2⟩
   obtain⟨ys,hyp,hys⟩:=hsort (KJ.map Prod.fst) (by simp;omega)
   have hyl:ys.length=KJ.length:=by rw[hyp.length_eq,List.length_map]
   rw[List.length_map]at hys
   have hF0:∀k,(Q1p R k).length<=4096:=λk=>by
    unfold Q1p
    rw[List.length_map]
    exact Nat.le_trans (j9 _ _) hR0
   simp (disch:=omega) [go_sem,Yt]
   refine Yh (hys _ 1 _ (by simp)) ?_
   simp[go_sem]
   refine Qf (α:=Nat × List O × (P2->List P2))
    (λp=>p.1<=ys.length/\UMc p.2.1 KJ p.2.2/\PF p.2.2 R/\Flt p.2.1)
    (λp=>⟨[(6,.mp 0),(7,.own 1 (KJ.length+1) 0 KJ.length),(74,.own 1 (KJ.length+1) 0 KJ.length),(75,.i .i64 KJ.length),(76,.i .i64 p.1)],
     .mp (KJ.map (asG P2.enc evP))::.arr (KJ.length+1) 2 (ys.map P2.cs)::p.2.1⟩)
    (λp=>ys.length-p.1) (0,hx,Q1p R) ⟨Nat.zero_le _,hU,outF_ok R,hF⟩ ?_ ?_
   ·simp[go_sem]
    exact⟨hU.cl2 (by omega),λa _=>of_eq_true (Q08 a _),hF.WeakH' _⟩
   ·clear hU hF
    rintro⟨k,hx,F⟩ ⟨hk,hU,hPF,hF⟩
    simp only at hk hU hPF hF ⊢
    by_cases hkl:k=ys.length
    case neg =>
     have hlt:k<KJ.length:=by omega
     have hq:ys[k]?=some ys[k]:=q9 (by omega)
     generalize ys[k]=e at hq
     have hem:e∈KJ.map Prod.fst:=hyp.mem_iff.1 (qb hq)
     have hic:(ys.map P2.cs)[k]?=some [V.i .i64 e.x,V.i .i64 e.y]:=by rw[qq,hq];rfl
     obtain⟨hicl,hic'⟩:=q8.1 hic
     have hfe:Qj [1,1] (V.a [.i .i64 e.x,.i .i64 e.y]) (KJ.map (asG P2.enc evP))=_:=Zw Kq evP e KJ
     cases hfn:Z2 e KJ with
     | none=>exact absurd hem (fndG_none.1 hfn)
     | some q =>
       obtain⟨i,p⟩:=q
       rw[hfn,Option.map_some]at hfe
       have hi:=Zm hfn
       obtain⟨j,rfl,hF1,hxj⟩:=hU.val i _ p hi
       obtain⟨zs,hzp,hzs⟩:=hsort (F e) (by rw[(hPF e).length_eq.symm];exact hF0 e)
       have hzl:=hzp.length_eq
       have hjl:=(q8.1 hxj).1
       have hU2:=(hU.old (l:=zs) hi rfl (by omega)).app [O.arr 1 2 [e.cs]]
       rw[hzl]at hU2
       have hks:KJ.set i (e,(⟨j+2,(F e).length,0,(F e).length⟩:PI))=KJ:=Ky _ _ _ hi
       rw[hks]at hU2
       have hF2:=(hF.set (j:=j) (Kg zs · (F e).length)).app (Flt.one (o:=.arr 1 2 [e.cs]) (Kg [e] · 1))
       have hPF2:=hPF.perm hzp
       have hgj:∀l:List O,(hx++l)[j]?=some (.arr (F e).length 2 ((F e).map P2.cs)):=λl=>Yx hxj
       have hsj:∀(l:List O) (o:O),(hx++l).set j o=hx.set j o++l:=λl o=>Ey l hjl o
       simp (disch:=omega) [go_sem,hlt,hic,hicl,hic',hfe,evP,Q9,Qb,Qk,Ql,Q3]
       refine Yh (hzs _ (j+2) _ (by simpa using hgj _)) ?_
       simp (disch:=omega) [go_sem,hsj,Q3]
       exact⟨k+1,_,⟨by omega,_,hU2,hPF2,hF2⟩,by omega,by simp,by omega,hU2.cl2 (by simp),λa _=>of_eq_true (Q08 a _),hF2.WeakH' _⟩
    subst hkl
    have hUcl:=hU.cl2 (Nat.le_refl _)
    simp[go_sem,hyl]
    obtain⟨pa,hpa⟩:∃pa,pa=O.arr (KJ.length+1) 2 (ys.map P2.cs):=⟨_,rfl⟩
    have hpacl:∀n,pa.cl n:=λn=>by rw[hpa];exact Kg ys n _
    obtain⟨g,hg⟩:∃g,g=KJ.length+1:=⟨_,rfl⟩
    have hpa1:∀(o:O) (tl:List O),(o::pa::tl)[1]?=some (.arr g 2 (ys.map P2.cs)):=λo tl=>by rw[hpa,hg];rfl
    refine Z5 [.t 12 1] (α:=Nat × O × List (P2 × PI) × (P2->List P2) × List Eg × List (List P2) × List O × List (List V))
     (λp=>p.1<=ys.length/\PhI hx pa R p.2.1 p.2.2.1 p.2.2.2.1 p.2.2.2.2.1 p.2.2.2.2.2.1 p.2.2.2.2.2.2.1 p.2.2.2.2.2.2.2/\∀e∈ys.take p.1,p.2.2.2.1 e=[])
     (λp=>⟨[(6,.mp 0),(12,.own (hx.length+2) (p.2.2.2.2.2.1.length+1) 0 p.2.2.2.2.2.1.length),(85,.own 1 g 0 ys.length),(86,.i .i64 ys.length),(87,.i .i64 p.1)],
      p.2.1::pa::(hx++(.arr (p.2.2.2.2.2.1.length+1) 1 p.2.2.2.2.2.2.2::p.2.2.2.2.2.2.1))⟩)
     (λp=>ys.length-p.1) (0,.mp (KJ.map (asG P2.enc evP)),KJ,F,R,[],[],[]) ⟨Nat.zero_le _,⟨hU.pool pa,hPF,hRB,List.Perm.refl _,HeldR.nil _,by simp[Flt],by simp⟩,by simp⟩ ?_ ?_
    ·simp[go_sem,hpa,hg]
     exact⟨⟨by omega,by omega⟩,hU.cl2 (by omega),λa _=>of_eq_true (Q08 a _),Qs (λo ho=>hF o ho _) ⟨.inr ⟨rfl,by simp[O.cl]⟩,trivial⟩⟩
    ·have hst:∀e∈R,e.1∈ys:=λe he=>by
      rw[hyp.mem_iff]
      cases hfn:Z2 e.1 KJ with
      | none=>exact absurd rfl (hPF.none.1 (hU.none _ hfn) e he)
      | some q =>
        exact qp.2 ⟨(e.1,q.2),qb (Zm (show Z2 e.1 KJ=some (q.1,q.2) from hfn)),rfl⟩
     clear hU hPF hUcl
     rintro⟨k,o,KJ1,F1,R1,ps,hy,cells⟩ ⟨hk,hI,hz⟩
     simp only at hk hI hz ⊢
     by_cases hkl:k=ys.length
     ·subst hkl
      rw[qi]at hz
      have hR1:R1=[]:=by
       rw[List.eq_nil_iff_forall_not_mem]
       intro e he
       have heR:e∈R:=hI.perm.mem_iff.1 (qg.2 (.inr he))
       exact hI.pf.none.1 (hz _ (hst e heR)) e he rfl
      subst hR1
      have hfz:=Qqx Qpd (rz:=1) (base:=o::pa::(hx++[.arr (ps.length+1) 1 cells])) hI.held (by simp)
      have hP:=hI.perm
      rw[List.append_nil]at hP
      have hval:(V.l 1 (List.map (Qp4 2 (λ_:Unit=>[]) P2.cs) (ps.map λp=>((),p))))=Qw ps:=by
       unfold Qw;rw[List.map_map];rfl
      rw[hval]at hfz
      simp only[List.cons_append,j3,List.nil_append,List.length_map]at hfz
      simp[go_sem,L08.r,Kl,Qb,Q9]
      rw[hfz]
      exact⟨_,rfl,ps,hP,by have:=hI.len;omega,rfl⟩
     ·have hlt:k<ys.length:=by omega
      have hq:ys[k]?=some ys[k]:=q9 (by omega)
      generalize ys[k]=e at hq
      have hic:(ys.map P2.cs)[k]?=some [V.i .i64 e.x,V.i .i64 e.y]:=by rw[qq,hq];rfl
      obtain⟨hicl,hic'⟩:=q8.1 hic
      simp (disch:=omega) [go_sem,hlt,hpa1,hic,hicl,hic',Q9,Qb,Qk,Ql,Q3]
      obtain⟨cp,hcp⟩:∃cp,cp=hx.length+hy.length+3:=⟨_,rfl⟩
      have f14:∀(o out x:O) (hy2 tl:List O),hy2[hy.length]?=some x->(o::pa::(hx++(out::(hy2++tl))))[cp]?=some x:=λo out x hy2 tl h=>by
       rw[hcp,show hx.length+hy.length+3=(hx.length+(hy.length+1))+1+1 by omega]
       simp only[List.getElem?_cons_succ]
       rw[Q9]
       simp only[List.getElem?_cons_succ]
       exact Yx h
      have f14':∀(o out x:O) (hy2:List O),hy2[hy.length]?=some x->(o::pa::(hx++(out::hy2)))[cp]?=some x:=λo out x hy2 h=>by
       have:=f14 o out x hy2 [] h
       rwa [List.append_nil]at this
      refine Qf (α:=O × List (P2 × PI) × (P2->List P2) × List Eg × List (List P2) × List O × List (List V))
       (λp=>PhI hx pa R p.1 p.2.1 p.2.2.1 p.2.2.2.1 p.2.2.2.2.1 p.2.2.2.2.2.1 p.2.2.2.2.2.2/\(∀e∈ys.take k,p.2.2.1 e=[])/\p.2.2.2.2.2.1[hy.length]?=some (.arr 1 2 [e.cs]))
       (λp=>⟨[(6,.mp 0),(12,.own (hx.length+2) (p.2.2.2.2.1.length+1) 0 p.2.2.2.2.1.length),(14,.p cp 1 0 0),(85,.own 1 g 0 ys.length),(86,.i .i64 ys.length),(87,.i .i64 k)],
        p.1::pa::(hx++(.arr (p.2.2.2.2.1.length+1) 1 p.2.2.2.2.2.2::p.2.2.2.2.2.1))⟩)
       (λp=>p.2.2.2.1.length) (o,KJ1,F1,R1,ps,hy++[.arr 1 2 [e.cs]],cells) ⟨⟨hI.pool,hI.pf,hI.bal,hI.perm,hI.held.app _,hI.flt.app (Flt.one (Kg [e] · 1)),hI.len⟩,hz,by rw[Qb];rfl⟩ ?_ ?_
      ·simp[go_sem]
       have hI2:PhI hx pa R o KJ1 F1 R1 ps (hy++[.arr 1 2 [e.cs]]) cells:=⟨hI.pool,hI.pf,hI.bal,hI.perm,hI.held.app _,hI.flt.app (Flt.one (Kg [e] · 1)),hI.len⟩
       exact⟨⟨by omega,by omega⟩,Qdf (hI.ocl (by omega)),Qdf (hpacl _),hI2.weak' hF (by simp;omega) _⟩
      ·clear hI hz
       rintro⟨o,KJ1,F1,R1,ps,hy2,cells⟩ ⟨hI,hz,h14⟩
       simp only at hI hz h14 ⊢
       have hR1:R1.length<=4096:=by have:=hI.len;omega
       have hps:=hI.len
       have hfe:Qj [1,1] (V.a [.i .i64 e.x,.i .i64 e.y]) (KJ1.map (asG P2.enc evP))=_:=Zw Kq evP e KJ1
       cases hfn:Z2 e KJ1 with
       | none =>
         have hFe:=hI.pool.none _ hfn
         rw[hfn,Option.map_none]at hfe
         simp (disch:=omega) [go_sem,f14' _ _ _ _ h14,hI.ents,hfe,P2.cs,Q3]
         have hz2:∀e'∈ys.take (k+1),F1 e'=[]:=λe' he'=>by
          rw[Qd hq]at he'
          rcases qg.1 he' with h | h
          ·exact hz e' h
          ·rw[qo.1 h];exact hFe
         exact⟨k+1,o,KJ1,F1,R1,ps,hy2,cells,⟨by omega,hI,hz2⟩,by omega,Nat.le_refl _,⟨rfl,by omega⟩,Qpm (hI.ocl (by omega)),Qdf (hpacl _),hI.weak' hF (by omega) _⟩
       | some q =>
         obtain⟨i,p⟩:=q
         rw[hfn,Option.map_some]at hfe
         obtain⟨hpn,hp1,els,hpj,_,_⟩:=hI.pool.val i e p (Zm hfn)
         have hpj2:∀tl,(o::pa::(hx++tl))[p.j]?=some (.arr p.g 2 (els.map P2.cs)):=λtl=>Yx (l:=tl) hpj
         have hne:F1 e≠[]:=λhh=>by rw[hh]at hpn;simp at hpn;omega
         have hpp:0<p.n:=hp1
         have hcall:=hp (hx.length+2) (o::pa::hx++(.arr (ps.length+1) 1 cells::hy2)) 0 o KJ1 F1 R1 e (hI.pool.app _) hI.pf hI.bal hne hR1
         simp (disch:=omega) [go_sem,f14' _ _ _ _ h14,hI.ents,hfe,evP,hpj2,hpp,P2.cs,Q3]
         refine ACall.mono hcall ?_
         rintro r h' ⟨vs,o',KJ2,F2,R2,rfl,rfl,hpool,hpf2,hbal2,hperm2,hvs⟩
         have hpool2:PoolAt (hx.length+2) (o'::pa::hx) 0 o' KJ2 F2:=by
          have h9:(o::pa::hx++(.arr (ps.length+1) 1 cells::hy2)).set 0 o'=(o'::pa::hx)++(.arr (ps.length+1) 1 cells::hy2):=rfl
          rw[h9]at hpool
          exact hpool.sub (by simp) (by simp)
         simp (disch:=omega) [go_sem,Q9,Qb,Qk,Ql,Q3]
         have hcc:=hI.held.1
         rw[List.length_map]at hcc
         have h14l:=(q8.1 h14).1
         have htc:List.take ps.length cells=cells:=qe (by omega)
         have hrl:=Kz vs
         have hvl:1<=vs.length:=by
          cases vs with
          | nil=>exact absurd rfl hvs
          | cons a b=>simp
         have hR2:=hperm2.length_eq
         rw[j4,hrl]at hR2
         have hl1:(ps++[vs]).length=ps.length+1:=by simp
         have hHs:Qtm (hx.length+3) (hy2++[.dead,.dead,.arr vs.length 2 (vs.map P2.cs)]) (ps++[vs]) (cells++[[.own (hx.length+3+(hy2.length+2)) vs.length 0 vs.length]]):=by
          have h9:=(hI.held.app [.dead,.dead,.arr vs.length 2 (vs.map P2.cs)]).snoc (j:=hy2.length+2) (g:=vs.length) (l:=((),vs)) (by rw[Q9];rfl)
          simpa[Qtm]using h9
         have hFs:Flt (hy2++[.dead,.dead,.arr vs.length 2 (vs.map P2.cs)]):=hI.flt.app λo ho n=>by
          simp only[List.mem_cons,List.not_mem_nil,or_false]at ho
          rcases ho with rfl | rfl | rfl
          ·trivial
          ·trivial
          ·exact Kg vs n _
         have hI2:PhI hx pa R o' KJ2 F2 R2 (ps++[vs]) (hy2++[.dead,.dead,.arr vs.length 2 (vs.map P2.cs)]) (cells++[[.own (hx.length+3+(hy2.length+2)) vs.length 0 vs.length]]):=by
          refine⟨hpool2,hpf2,hbal2,?_,hHs,hFs,by rw[hl1];omega⟩
          rw[List.flatMap_append,j3]
          refine List.Perm.trans (List.Perm.append_left _ ?_) hI.perm
          simpa using hperm2
         have hz2:∀e'∈ys.take k,F2 e'=[]:=λe' he'=>by
          rw[hpf2.none]
          intro x hx'
          exact hI.pf.none.1 (hz e' he') x (hperm2.mem_iff.1 (qg.2 (.inr hx')))
         refine⟨⟨by omega,by omega,by omega⟩,o',KJ2,F2,R2,ps++[vs],_,_,⟨hI2,hz2,?_⟩,by omega,by simp,⟨hl1.symm,by simp;omega⟩,Qpm (hpool2.clh2 (by omega)),Qdf (hpacl _),?_⟩
         ·rw[Yx h14];rfl
         ·have hw:=hI2.weak hF (n:=hx.length+((hy2++[O.dead,.dead,.arr vs.length 2 (vs.map P2.cs)]).length+1)+1+1) (by omega) (ps.length+1+1) [O.arr 1 1 [[.own (hx.length+3+(hy2.length+2)) vs.length 0 vs.length]]]
          rw[show hx.length+(hy2.length+1)+1+1+2=hx.length+3+(hy2.length+2) by omega,hl1,htc]
          rw[j3]at hw
          exact hw
end
def Qc7 (P:Program) (f:FuncId):Prop:=∀(h:List O) (id id2 g:Nat) (v:V) (ts more:List T3),id≠id2->h[id]?=some (.arr 1 2 [[v,.own id2 g 0 ts.length]])->h[id2]?=some (.arr g 3 (ts.map T3.cs))->ts.length<=4096->more.length<=100000 ->
 ACall P f [.p id 1 0 0,tsV more] h (λr h'=>(4096<ts.length+more.length/\r=.b false/\h'=h) ∨
  (ts.length+more.length<=4096/\r=.b true/\h'=(h.set id2 (.arr (g+1) 3 ((ts++more).map T3.cs))).set id (.arr 1 2 [[v,.own id2 (g+1) 0 (ts++more).length]])))
theorem Q6e (e:Int):Le (.t [.a [.nil,.nil],.i .i64 0,.i .i64 e]) (Q0s (Zb,0,e)) :=
 .inr ⟨_,_,rfl,rfl,.inr ⟨_,_,rfl,rfl,Le0.nil 3,Le0.nil 3,trivial⟩,Le1.refl _,Le1.refl _,trivial⟩
theorem Qoa:∀(ls:List (List Int)) (w:List Int),w∈ls->w.length<=(ls.map List.length).sum
 | [],w,hw=>by simp at hw
 | a::l,w,hw=>by
   rw[List.map_cons,List.sum_cons]
   rcases List.mem_cons.1 hw with rfl | hw
   ·omega
   ·have:=Qoa l w hw;omega
theorem Qiq:∀(ls:List (List Int)),(∀w∈ls,1<=w.length)->ls.length<=(ls.map List.length).sum
 | [],_=>by simp
 | a::l,h=>by
   rw[List.map_cons,List.sum_cons,List.length_cons]
   have:=Qiq l (λw hw=>h w (by simp[hw]))
   have:=h a (by simp)
   omega
def trK (m:Mesh) (ls:List (List Int)) (k:Nat):List T3:=m.tris++(ls.take k).flatMap Kj
theorem Qgr {m:Mesh} (h:m.loops.2=0):∀w∈m.loops.1,w.length<=12288:=by
 intro w hw
 have h1:=Q8u h
 have h2:=Bq m
 have h3:w.length<=(m.loops.1.map List.length).sum:=by
  exact Qoa _ w hw
 omega
theorem Qlt {m:Mesh} (h:m.loops.2=0):m.loops.1.length<=12288:=by
 obtain⟨hz,hs,hls⟩:=Qdm h
 have h1:=Q8u h
 have h2:=Bq m
 have hL:=Q8v hz hs
 rw[<- hls]at hL
 have:m.loops.1.length<=(m.loops.1.map List.length).sum:=by
  have hne:∀w∈m.loops.1,1<=w.length:=λw hw=>List.length_pos_iff.2 (hL.cyc w hw).1
  exact Qiq _ hne
 omega
theorem Qmd (w:List Int):(Kj w).length=w.length-2:=by unfold Kj;exact Qej _ _
section
variable {P:Program} (hm:P.follows .mixedOrders=true)
include hm
theorem Q3t {f:FuncId} (hf:Qa P f L0e.c L0e.r L0e.n):Qc7 P f:=by
 intro h id id2 g v ts more hne h1 h2 ht hmo
 refine Q2g hm hf (qh rfl) ?_
 unfold L0e.c
 obtain⟨hid2,h2'⟩:=q8.1 h2
 obtain⟨hid,h1'⟩:=q8.1 h1
 have hs1:∀o:O,(h.set id2 o)[id]?=some (.arr 1 2 [[v,.own id2 g 0 ts.length]]):=λo=>by rw[qu (λhh=>hne hh.symm)];exact h1
 have htk:List.take ts.length (ts.map T3.cs)=ts.map T3.cs:=qe (by simp)
 by_cases hlt:4096<ts.length+more.length
 ·simp (disch:=omega) [go_sem,h1,h1',h2,h2',tsV,Q3,show (4096:Int)<(ts.length:Int)+more.length by omega,L0e.r]
  exact hlt
 ·simp (disch:=omega) [go_sem,h1,h1',h2,h2',hs1,htk,tsV,Q3,show ¬ (4096:Int)<(ts.length:Int)+more.length by omega,L0e.r]
  exact⟨⟨by omega,by omega⟩,by omega⟩
theorem Q7v {f fc fl fcv fct ff fe:FuncId} (hf:Qa P f (L0d.c fc fl fcv fct ff fe) L0d.r L0d.n) (hc:Ys P fc) (hl:Qi7 P fl) (hcv:Jj P fcv 3) (hct:Jj P fct 3) (hff:FanC P ff) (he:Qc7 P fe):Qu0 P f:=by
 intro m
 by_cases hz:m.check=0
 case neg =>
  have hlp:m.loops=([],m.check):=by simp[Mesh.loops,hz]
  have hR:Zc m=(Zb,0,m.check):=by unfold Zc;rw[hlp,if_neg hz]
  rw[hR]
  refine CallIs.res ?_ (Q6e _)
  refine PureC.is (Q8 hm hf (qh rfl) ?_) rfl
  unfold L0d.c
  simp[go_sem,Mesh.enc,Mesh.cs]
  refine Q4 (hc m) ?_
  simp[go_sem,hz,L0d.r]
 have hl1:=hl m
 by_cases h0:m.loops.2=0
 case neg =>
  have hR:Zc m=(Zb,0,m.loops.2):=by unfold Zc;rw[if_neg h0]
  rw[hR]
  refine CallIs.res ?_ (Q6e _)
  refine PureC.is (Q8 hm hf (qh rfl) ?_) rfl
  unfold L0d.c
  simp[go_sem,Mesh.enc,Mesh.cs]
  refine Q4 (hc m) ?_
  simp[go_sem,hz]
  refine Q4 hl1 ?_
  simp[go_sem,h0,L0d.r]
 obtain⟨z1,z2,z3,z4⟩:=Mesh.check_zero.1 hz
 have hnum:=Qlt h0
 have heach:=Qgr h0
 have hmain:PureC P f [m.enc] (·=if m.fillM.tris.length<=4096 then Q0s (m.fillM,m.loops.1.length,0) else .t [.a [.nil,.nil],.i .i64 0,.i .i64 2]):=by
  refine Q8 hm hf (qh rfl) ?_
  unfold L0d.c
  rw[h0]at hl1
  have hfm:m.fillM=⟨m.verts,trK m m.loops.1 m.loops.1.length⟩:=by unfold trK;rw[qi];rfl
  rw[hfm]
  generalize m.loops.1=ls at *
  have hok:(trK m ls ls.length).length<=4096->(if (trK m ls ls.length).length<=4096 then Q0s (⟨m.verts,trK m ls ls.length⟩,(ls.length:Int),0) else V.t [.a [.nil,.nil],.i .i64 0,.i .i64 2])=Q0s (⟨m.verts,trK m ls ls.length⟩,(ls.length:Int),0):=λh=>if_pos h
  have hno:¬ (trK m ls ls.length).length<=4096->(if (trK m ls ls.length).length<=4096 then Q0s (⟨m.verts,trK m ls ls.length⟩,(ls.length:Int),0) else V.t [.a [.nil,.nil],.i .i64 0,.i .i64 2])=V.t [.a [.nil,.nil],.i .i64 0,.i .i64 2]:=λh=>if_neg h
  simp only
  generalize (if (trK m ls ls.length).length<=4096 then Q0s (⟨m.verts,trK m ls ls.length⟩,(ls.length:Int),0) else V.t [.a [.nil,.nil],.i .i64 0,.i .i64 2])=RR at *
  simp[go_sem,Mesh.enc,Mesh.cs,vsV,tsV]
  refine Q4 (hc m) ?_
  simp[go_sem,hz]
  refine Q4 hl1 ?_
  simp[go_sem]
  refine Wd (hcv (m.verts.map V3.cs) (by simp[Kf]) (by simp;omega)) (by simp[V.cl,V.cl1,V.cl0]) ?_
  simp[go_sem]
  refine Wd (hct (m.tris.map T3.cs) (by simp[Xj]) (by simp;omega)) (by simp[V.cl,V.cl1,V.cl0]) ?_
  have hsv:∀(n:Nat) (a:V3),List.map (V.sh1 n) a.cs=a.cs:=λn a=>by simp[vcs,V.sh1,V.sh0]
  have hst:∀(n:Nat) (a:T3),List.map (V.sh1 n) a.cs=a.cs:=λn a=>by simp[tcs,V.sh1,V.sh0]
  simp[go_sem,lsV,hsv,hst]
  refine Qf (α:=Nat) (λk=>k<=ls.length/\(trK m ls k).length<=4096)
   (λk=>⟨[(2,.p 1 1 0 0),(6,lsV ls),(8,.p 4 1 0 0),(33,lsV ls),(34,.i .i64 ls.length),(35,.i .i64 k)],
    [.dead,.arr 1 2 [[.nil,.nil]],.arr 1 3 (m.verts.map V3.cs),.arr (k+1) 3 ((trK m ls k).map T3.cs),.arr 1 2 [[.own 2 1 0 m.verts.length,.own 3 (k+1) 0 (trK m ls k).length]]]⟩)
   (λk=>ls.length-k) 0 ⟨Nat.zero_le _,by simpa[trK]using z2⟩ ?_ ?_
  ·have h00:trK m ls 0=m.tris:=by simp[trK]
   simp[go_sem,lsV,h00,hsv,hst,U1,Zy]
  ·rintro k ⟨hk,hT⟩
   by_cases hkl:k=ls.length
   ·subst hkl
    rw[hok hT]
    have htkl:List.take (trK m ls ls.length).length ((trK m ls ls.length).map T3.cs)=(trK m ls ls.length).map T3.cs:=qe (by simp)
    generalize trK m ls ls.length=T at *
    simp[go_sem,lsV,L0d.r,Q0s,Mesh.enc,Mesh.cs,vsV,tsV,Kf,Xj]
   ·have hlt:k<ls.length:=by omega
    have hp:ls[k]?=some ls[k]:=q9 hlt
    have hmw:ls[k]∈ls:=List.getElem_mem _
    have htk:=Qd hp
    have hpre:ls.flatMap Kj=(ls.take k).flatMap Kj++(Kj ls[k]++(ls.drop (k+1)).flatMap Kj):=by
     have h1:=List.take_append_drop k ls
     rw[List.drop_eq_getElem_cons hlt]at h1
     have h2:=congrArg (List.flatMap Kj) h1
     rw[List.flatMap_append,List.flatMap_cons]at h2
     exact h2.symm
    generalize ls[k]=w at hp hmw htk hpre
    obtain⟨_,hp'⟩:=q8.1 hp
    have hwl:=heach w hmw
    have hfl:=Qmd w
    have hts:trK m ls (k+1)=trK m ls k++Kj w:=by
     unfold trK
     rw[htk,List.flatMap_append,<- j3];simp
    have hov:4096<(trK m ls k).length+(Kj w).length->¬ (trK m ls ls.length).length<=4096:=by
     intro hh
     unfold trK at hh ⊢
     rw[qi,hpre]
     simp only[j4]at hh ⊢
     omega
    have hff1:=hff w (by omega)
    generalize hTk:trK m ls k=T at *
    simp[go_sem,lsV,hlt,hp,hp']
    refine Q4 hff1 ?_
    simp[go_sem]
    refine (he _ 4 3 (k+1) (.own 2 1 0 m.verts.length) T (Kj w) (by omega) rfl rfl hT (by omega)).mono ?_
    rintro r h' (⟨q1,rfl,rfl⟩ | ⟨q1,rfl,rfl⟩)
    ·rw[hno (hov q1)]
     simp[go_sem,lsV,L0d.r]
    ·simp (disch:=omega) [go_sem,lsV,Q3]
     refine⟨k+1,⟨by omega,by rw[hts];simpa using q1⟩,by omega,by simp,?_⟩
     rw[hts]
     simp[or_imp,forall_and,U1,Zy]
 by_cases hT:m.fillM.tris.length<=4096
 ·have hR:Zc m=(m.fillM,(m.loops.1.length:Int),0):=by unfold Zc;rw[if_pos h0,if_pos hT]
  rw[if_pos hT]at hmain
  rw[hR]
  exact PureC.is hmain rfl
 ·have hR:Zc m=(Zb,0,2):=by unfold Zc;rw[if_pos h0,if_neg hT]
  rw[if_neg hT]at hmain
  rw[hR]
  exact CallIs.res (PureC.is hmain rfl) (Q6e _)
end
end Go.Abs
