/- Part of the library on which the proof stands: an abstract machine, its values and its soundness against the model; or what functions of the program do to such values. -/
import Derived.Test.YtjggbpiapinceaaGreatGoSkN
import Derived.Test.YtjggbpiapinceaaGreatGoRw
import Derived.Test.YtjggbpiapinceaaGreatGoSkE
import Derived.Test.YtjggbpiapinceaaGreatGoSkC
import Derived.Test.YtjggbpiapinceaaGreatGoTpE
import Derived.Test.YtjggbpiapinceaaGreatGoSet
import Derived.Test.YtjggbpiapinceaaGreatAbsSS
set_option linter.unusedVariables false
set_option linter.unusedSimpArgs false
set_option maxHeartbeats 8000000
set_option maxRecDepth 20000
namespace Go.Abs
def Qcz (m:Mesh):Bool:=decide (m.verts.length<=60) && decide (m.tris.length<=60)
def Qf5 (P:Program) (f:FuncId):Prop:=∀m:Mesh,CallIs P f [m.enc] (.b (Qcz m))
def Qby (P:Program) (f:FuncId):Prop:=∀x y n:Int,(-10000<=x/\x<=10000)->(-10000<=y/\y<=10000)->(0<=n/\n<=10000)->CallIs P f [.i .i64 x,.i .i64 y,.i .i64 n] (rgV (Uk x y n n))
def exBox:Mesh:=⟨Qi ⟨40,80,0⟩ ⟨120,120,20⟩,Qn⟩
theorem exBox_ok:exBox.check=0/\W9 exBox=0:=box_ok (by decide) (by decide) (by decide) (by decide) (by decide)
theorem Qek:Wn exBox 10 40=(Uk 1 2 3 3,0):=by
 have hc:=(Q9h (p:=⟨40,80,0⟩) (s:=⟨120,120,20⟩) (by decide) (by decide) (by decide) (by decide) (by decide)).a
 have h:=Wm (m:=exBox) (z:=10) (k:=40) hc (by omega) (by decide)
 rw[h]
 congr 1
 exact box_ras (x:=1) (y:=2) (w:=3) (d:=3) (p:=⟨40,80,0⟩) (s:=⟨120,120,20⟩) (by omega) (by omega) (by omega) (by omega) (by omega) rfl rfl rfl rfl (by decide) (by decide) (by decide) (by decide) (by decide)
section
variable {P:Program} (hm:P.follows .mixedOrders=true)
include hm
theorem Ud {f:FuncId} (hf:Qa P f L03.c L03.r L03.n):Qby P f:=by
 intro x y w hx hy hd
 obtain⟨D,rfl⟩:∃D:Nat,w=D:=⟨w.toNat,by omega⟩
 refine PureC.is (Qpb hm hf (qh rfl) ?_) rfl
 unfold L03.c
 simp[go_sem]
 refine Z5 [.c 1 0 0 2] (α:=Nat) (λi=>i<=D)
  (λi=>⟨[(0,.i .i64 x),(1,.i .i64 y),(2,.i .i64 D),(6,.p 0 1 0 0),(7,.p 1 1 0 0),(8,.i .i64 i)],.arr 1 1 [[.nil]]::.arr 1 1 [[.own 2 (i+1) 0 i]]::.arr (i+1) 2 ((List.range i).map (rcE x y D))::List.replicate i (rcO x D)⟩)
  (λi=>D-i) 0 (Nat.zero_le _) ?_ ?_
 ·simp[go_sem]
 intro i hi
 by_cases hil:i=D
 ·subst hil
  simp[go_sem,L03.r]
  have ht:List.take i ((List.range i).map (rcE x y i))=(List.range i).map (rcE x y i):=qe (by simp)
  rw[ht,Q8s (k:=λ(j:Nat)=>[.i .i64 (y+j),.l 2 [[.i .i64 x,.i .i64 (x+i)]]]) λj hj=>by
   have hji:=qz.1 hj
   have hg:∀A B C:O,(A::B::C::List.replicate i (rcO x i))[3+j]?=some (rcO x i):=λA B C=>by
    rw[show 3+j=j+1+1+1 by omega]
    simp[hji]
   simp only[rcE,List.mapM_cons,List.mapM_nil,Ia,Ji,hg,V.isD]
   simp[rcO,V.isD]]
  simp[rgV,Uk,Rw.cs,Zj,Rn.cs,Y6]
 have hlt:i<D:=by omega
 have ht:List.take i ((List.range i).map (rcE x y D))=(List.range i).map (rcE x y D):=qe (by simp)
 have hgi:∀a b:O,(List.replicate i (rcO x D)++[a,b])[i+1]?=some b:=λa b=>by
  rw[qf (by simp)];simp
 simp (disch:=omega) [go_sem,hlt,ht,hgi,Q3]
 refine⟨⟨by omega,by omega⟩,i+1,by omega,by omega,by omega,by omega,rfl,⟨⟨rfl,?_⟩,λa ha c hc=>rcE_cl x y D (i:=i+1) (by omega) _ (List.mem_map_of_mem (qz.2 ha)) c hc⟩,?_⟩
 ·rw[List.range_succ,qx]
  simp[rcE]
  omega
 ·have e:∀b:O,List.replicate i (rcO x D)++[rcO x D,b]=List.replicate (i+1) (rcO x D)++[b]:=λb=>by
   rw[List.replicate_succ'];simp
  have e2:=e (O.arr 1 2 [[V.i IntKind.i64 (y+↑i),V.own (i+1+1+1) 1 0 1]])
  have:=Qp9 x D (i+1) (i+1+1+1+1) [O.arr 1 2 [[V.i IntKind.i64 (y+↑i),V.own (i+1+1+1) 1 0 1]]]
  rw[<- e2]at this
  exact this
theorem Ic {f:FuncId} (hf:Qa P f L02.c L02.r L02.n):Qf5 P f:=by
 intro m
 refine PureC.is (Q8 hm hf (qh rfl) ?_) rfl
 unfold L02.c
 obtain⟨p,hp⟩:∃p:Bool,decide ((m.verts.length:Int)<=60)=p:=⟨_,rfl⟩
 obtain⟨q,hq⟩:∃q:Bool,decide ((m.tris.length:Int)<=60)=q:=⟨_,rfl⟩
 have hB:Qcz m=(p && q):=by
  unfold Qcz
  rw[<- hp,<- hq]
  congr 1<;>exact decide_eq_decide.2 (by omega)
 rw[hB]
 cases p<;>cases q<;>simp only[decide_eq_true_eq,decide_eq_false_iff_not]at hp hq<;>simp[go_sem,Mesh.enc,Mesh.cs,vsV,tsV,hp,hq,L02.r]
theorem Ue {f fb fs fq fe fc:FuncId} (hf:Qa P f (L01.c fb fs fq fe fc) L01.r L01.n) (hb:BoxC P fb) (hs:Q6s P fs) (hq:Qby P fq) (he:Qi2 P fe) (hc:ChkC P fc):Q6x P f:=by
 have c2:=hb ⟨40,80,0⟩ ⟨120,120,20⟩ (by decide) (by decide)
 rw[show Qew ⟨40,80,0⟩ ⟨120,120,20⟩=Q5w exBox 0 by rfl]at c2
 have c3:=hs exBox 10 40
 rw[Qek]at c3
 have c4:=hq 1 2 3 (by omega) (by omega) (by omega)
 have hv:RgV (Uk 1 2 3 3)/\RgB (Uk 1 2 3 3):=⟨Qiw (by omega),rectR_b (by omega) (by omega)⟩
 have c5:=he _ _ hv.1 hv.1 hv.2 hv.2
 rw[decide_eq_true rfl]at c5
 have c6:=hc exBox
 rw[exBox_ok.2]at c6
 have hmc:exBox.cs.length=2:=rfl
 have hmt:List.take 2 exBox.cs=exBox.cs:=rfl
 have hmd:∀x∈exBox.cs,x.isD=true:=by
  intro x hx
  simp[Mesh.cs]at hx
  rcases hx with rfl | rfl<;>rfl
 have hmcl:∀n,∀x∈exBox.cs,x.cl n=true:=λn x hx=>Wt n (hmd x hx)
 unfold Q5w Mesh.enc at c2
 simp only[Mesh.enc]at c3 c6
 simp only[rgV]at c3 c4 c5
 simp only[V3.enc,V3.cs]at c2
 generalize exBox=m at *
 generalize Uk 1 2 3 3=R at *
 refine PureC.is (Q8 hm hf (qh rfl) ?_) rfl
 unfold L01.c
 simp[go_sem]
 refine Q4 c2 ?_
 simp[go_sem,V.cells,V.okA,hmc,hmt]
 refine Q4 c3 ?_
 simp[go_sem,V.cells,V.okA,hmc,hmt]
 refine Qp c4 ?_
 simp[go_sem,V.cells,V.okA,hmc,hmt]
 refine Qp c5 ?_
 simp[go_sem,V.cells,V.okA,hmc,hmt]
 refine Qp c6 ?_
 simp[go_sem,V.cells,V.okA,hmc,hmt,L01.r]
end
def Rep.cs (r:Rep):List V:=[.i .i64 r.me,.i .i64 r.de,.i .i64 r.du,.i .i64 r.fl,.i .i64 r.ho,.i .i64 r.iv,.i .i64 r.sh]
def Jh (m:Mesh) (r:Rep):O:=.arr 1 9 [m.cs++r.cs]
def Q2o (P:Program) (f:FuncId) (ok:Mesh->Rep->Prop) (g:Mesh->Rep->Mesh × Rep × Int):Prop:=∀(h:List O) (id:Nat) (m:Mesh) (r:Rep),ok m r->h[id]?=some (Jh m r) ->
 ACall P f [.p id 1 0 0] h (λr' h'=>r'=.i .i64 (g m r).2.2/\h'=h.set id (Jh (g m r).1 (g m r).2.1))
theorem Zd {h l:List O} {id:Nat} (hid:id<h.length):(h++l)[id]?=h[id]?:=qd hid
theorem Zx {h l:List O} {id:Nat} (hid:id<h.length) (o:O):(h++l).set id o=h.set id o++l:=List.set_append_left _ _ hid
theorem Wb (h l:List O) (id:Nat) (o:O):(h.set id o++l)[h.length]?=l[0]?:=by
 have:=Qb (h.set id o) l
 rwa [List.length_set]at this
theorem Wa (h l:List O) (id:Nat) (o o':O):(h.set id o++l).set h.length o'=h.set id o++l.set 0 o':=by
 have:=Ql (h.set id o) l o'
 rwa [List.length_set]at this
theorem Qjb (m:Mesh) (r:Rep) (n:Nat):(Jh m r).cl n:=by
 simp[Jh,O.cl,Mesh.cs,Rep.cs,vsV,tsV,V.cl,V.cl1,V.cl0,vcs,tcs]
theorem Us {h:List O} {id:Nat} {m m':Mesh} {r r':Rep} {l:List O} {e:Int} (hcl:∀n,h.length<=n->∀o∈h,o.cl n) :
  WeakH (h.set id (Jh m r)).length (h.set id (Jh m r)++l) (h.set id (Jh m r)):=by
 have:=Qs (n:=(h.set id (Jh m r)).length) (a:=l) (b:=[]) (h:=h.set id (Jh m r)) (λo ho=>by
  rcases List.mem_or_eq_of_mem_set ho with ho | rfl
  ·exact hcl _ (by rw[List.length_set];exact Nat.le_refl _) o ho
  ·exact Qjb _ _ _) (by cases l<;>trivial)
 rwa [List.append_nil]at this
theorem Q88 (m:Mesh):0<=(Qe m).2.1/\(Qe m).2.1<=4096:=by
 unfold Qe
 by_cases h:m.check=0
 ·rw[if_pos h]
  have h1:=Q4a h
  have h2:=(Mesh.check_zero.1 h).1
  simp only[];omega
 ·rw[if_neg h];simp
section
variable {P:Program} (hm:P.follows .mixedOrders=true)
include hm
theorem Uj {f fo:FuncId} (hf:Qa P f (L1d.c fo) L1d.r L1d.n) (ho:Qc4 P fo) :
  Q2o P f (λ_ _=>True) (λm r=>((Zz m).1,{ r with fl:=(Zz m).2.1 },(Zz m).2.2)):=by
 intro h id m r _ hid
 refine Yb λhcl=>?_
 obtain⟨hlt,hid'⟩:=q8.1 hid
 refine X9 hm hf (qh rfl) ?_
 unfold L1d.c
 generalize hK:Eb h.length L1d.r _=K
 have ho1:=ho m
 have hjd:=λm' r' l=>Us (id:=id) (m:=m') (r:=r') (m':=m') (r':=r') (e:=0) (l:=l) hcl
 generalize hq:Zz m=q at ho1
 obtain⟨a,b,c⟩:=q
 simp only[Jh,Mesh.cs,Rep.cs]at hid hid' hjd
 simp[go_sem,hid,hid',hlt,Q9,Qb,Qk,Ql,Zd hlt,Zx hlt]
 refine Q4 ho1 ?_
 simp[go_sem,Q7t,Mesh.enc,Mesh.cs,hid,hid',hlt,Q9,Qb,Qk,Ql,Zd hlt,Zx hlt,Wb,Wa]
 rw[<- hK,Km]
 refine⟨[.i .i64 c],h.set id (Jh a { r with fl:=b }),?_,rfl,?_,?_,?_,hjd a { r with fl:=b } _,by simp[hq,Y6],by simp[hq]⟩
 ·simp[L1d.r,Yc,go_sem]
 ·simp[V.cl,V.cl1,V.cl0]
 ·simp
 ·simp
theorem Iw {f fo:FuncId} (hf:Qa P f (L1c.c fo) L1c.r L1c.n) (ho:Qu0 P fo) :
  Q2o P f (λ_ _=>True) (λm r=>((Zc m).1,{ r with ho:=(Zc m).2.1 },(Zc m).2.2)):=by
 intro h id m r _ hid
 refine Yb λhcl=>?_
 obtain⟨hlt,hid'⟩:=q8.1 hid
 refine X9 hm hf (qh rfl) ?_
 unfold L1c.c
 generalize hK:Eb h.length L1c.r _=K
 have ho1:=ho m
 have hjd:=λm' r' l=>Us (id:=id) (m:=m') (r:=r') (m':=m') (r':=r') (e:=0) (l:=l) hcl
 generalize hq:Zc m=q at ho1
 obtain⟨a,b,c⟩:=q
 simp only[Jh,Mesh.cs,Rep.cs]at hid hid' hjd
 simp[go_sem,hid,hid',hlt,Q9,Qb,Qk,Ql,Zd hlt,Zx hlt]
 refine Q4 ho1 ?_
 simp[go_sem,Q0s,Mesh.enc,Mesh.cs,hid,hid',hlt,Q9,Qb,Qk,Ql,Zd hlt,Zx hlt,Wb,Wa]
 rw[<- hK,Km]
 refine⟨[.i .i64 c],h.set id (Jh a { r with ho:=b }),?_,rfl,?_,?_,?_,hjd a { r with ho:=b } _,by simp[hq,Y6],by simp[hq]⟩
 ·simp[L1c.r,Yc,go_sem]
 ·simp[V.cl,V.cl1,V.cl0]
 ·simp
 ·simp
theorem U8 {f fo:FuncId} (hf:Qa P f (L1e.c fo) L1e.r L1e.n) (ho:Q6t P fo) :
  Q2o P f (λ_ _=>True) (λm r=>((Yu m).1,{ r with iv:=(Yu m).2.1 },(Yu m).2.2)):=by
 intro h id m r _ hid
 refine Yb λhcl=>?_
 obtain⟨hlt,hid'⟩:=q8.1 hid
 refine X9 hm hf (qh rfl) ?_
 unfold L1e.c
 generalize hK:Eb h.length L1e.r _=K
 have ho1:=ho m
 have hjd:=λm' r' l=>Us (id:=id) (m:=m') (r:=r') (m':=m') (r':=r') (e:=0) (l:=l) hcl
 generalize hq:Yu m=q at ho1
 obtain⟨a,b,c⟩:=q
 simp only[Jh,Mesh.cs,Rep.cs]at hid hid' hjd
 simp[go_sem,hid,hid',hlt,Q9,Qb,Qk,Ql,Zd hlt,Zx hlt]
 refine Q4 ho1 ?_
 simp[go_sem,Q7t,Mesh.enc,Mesh.cs,hid,hid',hlt,Q9,Qb,Qk,Ql,Zd hlt,Zx hlt,Wb,Wa]
 rw[<- hK,Km]
 refine⟨[.i .i64 c],h.set id (Jh a { r with iv:=b }),?_,rfl,?_,?_,?_,hjd a { r with iv:=b } _,by simp[hq,Y6],by simp[hq]⟩
 ·simp[L1e.r,Yc,go_sem]
 ·simp[V.cl,V.cl1,V.cl0]
 ·simp
 ·simp
theorem I4 {f fo:FuncId} (hf:Qa P f (L1b.c fo) L1b.r L1b.n) (ho:Qic P fo) :
  Q2o P f (λ_ _=>True) (λm r=>((Qh m).1,{ r with de:=(Qh m).2.1,du:=(Qh m).2.2.1 },(Qh m).2.2.2)):=by
 intro h id m r _ hid
 refine Yb λhcl=>?_
 obtain⟨hlt,hid'⟩:=q8.1 hid
 refine X9 hm hf (qh rfl) ?_
 unfold L1b.c
 generalize hK:Eb h.length L1b.r _=K
 have ho1:=ho m
 have hjd:=λm' r' l=>Us (id:=id) (m:=m') (r:=r') (m':=m') (r':=r') (e:=0) (l:=l) hcl
 generalize hq:Qh m=q at ho1
 obtain⟨a,b,b2,c⟩:=q
 simp only[Jh,Mesh.cs,Rep.cs]at hid hid' hjd
 simp[go_sem,hid,hid',hlt,Q9,Qb,Qk,Ql,Zd hlt,Zx hlt]
 refine Q4 ho1 ?_
 simp[go_sem,Qbk,Mesh.enc,Mesh.cs,hid,hid',hlt,Q9,Qb,Qk,Ql,Zd hlt,Zx hlt,Wb,Wa]
 rw[<- hK,Km]
 refine⟨[.i .i64 c],h.set id (Jh a { r with de:=b,du:=b2 }),?_,rfl,?_,?_,?_,hjd a { r with de:=b,du:=b2 } _,by simp[hq,Y6],by simp[hq]⟩
 ·simp[L1b.r,Yc,go_sem]
 ·simp[V.cl,V.cl1,V.cl0]
 ·simp
 ·simp
theorem Iv {f fo:FuncId} (hf:Qa P f (L1f.c fo) L1f.r L1f.n) (ho:Qsq P fo) :
  Q2o P f (λ_ r=>0<=r.me/\r.me<=1000000) (λm r=>((Qe m).1,{ r with me:=r.me+(Qe m).2.1 },(Qe m).2.2)):=by
 intro h id m r hok hid
 refine Yb λhcl=>?_
 obtain⟨hlt,hid'⟩:=q8.1 hid
 refine X9 hm hf (qh rfl) ?_
 unfold L1f.c
 generalize hK:Eb h.length L1f.r _=K
 have ho1:=ho m
 have hjd:=λm' r' l=>Us (id:=id) (m:=m') (r:=r') (m':=m') (r':=r') (e:=0) (l:=l) hcl
 have hbd:=Q88 m
 generalize hq:Qe m=q at ho1 hbd
 obtain⟨a,b,c⟩:=q
 have hw64:IntKind.i64.wrap (r.me+b)=r.me+b:=Q3 (by simp only[]at hbd;omega) (by simp only[]at hbd;omega)
 simp only[Jh,Mesh.cs,Rep.cs]at hid hid' hjd
 simp[go_sem,hid,hid',hlt,Q9,Qb,Qk,Ql,Zd hlt,Zx hlt]
 refine Q4 ho1 ?_
 simp[go_sem,Qih,hw64,Mesh.enc,Mesh.cs,hid,hid',hlt,Q9,Qb,Qk,Ql,Zd hlt,Zx hlt,Wb,Wa]
 rw[<- hK,Km]
 refine⟨[.i .i64 c],h.set id (Jh a { r with me:=r.me+b }),?_,rfl,?_,?_,?_,hjd a { r with me:=r.me+b } _,by simp[hq,Y6],by simp[hq]⟩
 ·simp[L1f.r,Yc,go_sem]
 ·simp[V.cl,V.cl1,V.cl0]
 ·simp
 ·simp
theorem I5 {f fs fc:FuncId} (hf:Qa P f (L1a.c fs fc) L1a.r L1a.n) (hs:Q14 P fs) (hc:ChkC P fc) :
  Q2o P f (λ_ _=>True) (λm r=>(m,{ r with sh:=(m.shells.length:Int) },W9 m)):=by
 intro h id m r _ hid
 obtain⟨hlt,hid'⟩:=q8.1 hid
 refine Q2g hm hf (qh rfl) ?_
 unfold L1a.c
 have hs1:=hs m
 have hc1:=hc m
 simp only[Jh,Mesh.cs,Rep.cs]at hid hid'
 simp[go_sem,hid,hid',hlt]
 refine Q4 hs1 ?_
 simp[go_sem,lsV,hid,hid',hlt]
 refine Q4 hc1 ?_
 simp[go_sem,L1a.r,Jh,Mesh.cs,Rep.cs]
end
def Qg4 (p:Mesh × Rep × Int):V:=.t [p.1.enc,.a p.2.1.cs,.i .i64 p.2.2]
def RepC (P:Program) (f:FuncId):Prop:=∀m:Mesh,CallIs P f [m.enc] (Qg4 (W0 m))
theorem repV_no (e:Int):Le (.t [.a [.nil,.nil],.a Rep.zero.cs,.i .i64 e]) (Qg4 (Zb,Rep.zero,e)) :=
 .inr ⟨_,_,rfl,rfl,.inr ⟨_,_,rfl,rfl,Le0.nil 3,Le0.nil 3,trivial⟩,Le1.refl _,Le1.refl _,trivial⟩
def zpB (m:Mesh) (z k:Int):Prop:=Qcz m=true/\(-65536<=z/\z<=65536)/\(32<=k/\k<=1024)/\k.tmod 2=0
section
variable {P:Program} (hm:P.follows .mixedOrders=true)
include hm
theorem Qbw {f fl fa fr fs fv fb fc:FuncId} (hf:Qa P f (L00.c fl fa fr fs fv fb fc) L00.r L00.n) (hl:Qf5 P fl) (ha:Q6x P fa) (m:Mesh) (z k:Int) (hn:¬ zpB m z k) :
  PureC P f [m.enc,.i .i64 z,.i .i64 k] (·=.b true):=by
 have l1:=hl m
 simp only[Mesh.enc,Mesh.cs]at l1
 refine Q8 hm hf (qh rfl) ?_
 unfold L00.c
 simp[go_sem,Mesh.enc,Mesh.cs]
 refine Q4 l1 ?_
 unfold zpB at hn
 cases h0:Qcz m with
 | false =>
   simp[go_sem]
   refine Q4 ha ?_
   simp[go_sem,L00.r]
 | true =>
 by_cases h1:z < -65536
 ·simp[go_sem,h1]
  refine Q4 ha ?_
  simp[go_sem,L00.r]
 by_cases h2:65536<z
 ·simp[go_sem,h1,h2]
  refine Q4 ha ?_
  simp[go_sem,L00.r]
 by_cases h3:k<32
 ·simp[go_sem,h1,h2,h3]
  refine Q4 ha ?_
  simp[go_sem,L00.r]
 by_cases h4:1024<k
 ·simp[go_sem,h1,h2,h3,h4]
  refine Q4 ha ?_
  simp[go_sem,L00.r]
 have h5:¬ k.tmod 2=0:=λh=>hn ⟨h0,by omega,by omega,h⟩
 have h5':(k.tmod 2 != 0)=true:=by simpa using h5
 simp[go_sem,h1,h2,h3,h4,h5,h5']
 refine Q4 ha ?_
 simp[go_sem,L00.r]
theorem Q85 {f fl fa fr fs fv fb fc:FuncId} (hf:Qa P f (L00.c fl fa fr fs fv fb fc) L00.r L00.n) (hl:Qf5 P fl) (ha:Q6x P fa) (hr:RepC P fr) (hs:Q6s P fs) (hv:Q15 P fv) (hb:Qjw P fb) (hc:Q17 P fc) (m:Mesh) (z k:Int) (hn:zpB m z k) :
  PureC P f [m.enc,.i .i64 z,.i .i64 k] (·=.b true):=by
 have l1:=hl m
 have r1:=hr m
 obtain⟨h0,⟨h1,h2⟩,⟨h3,h4⟩,h5⟩:=hn
 have hk:Xn k 32 1024=true:=by unfold Xn;have:k.tmod 2=k % 2:=jn (by omega);simp;omega
 rw[h0]at l1
 simp only[Mesh.enc,Mesh.cs]at l1 r1
 refine Q8 hm hf (qh rfl) ?_
 unfold L00.c
 simp[go_sem,Mesh.enc,Mesh.cs]
 refine Q4 l1 ?_
 simp[go_sem,show ¬ z < -65536 by omega,show ¬ 65536<z by omega,show ¬ k<32 by omega,show ¬ 1024<k by omega,h5]
 refine Q4 r1 ?_
 rcases Q51 m with⟨he,h2⟩ | ⟨he,hw,hsnd,hshl⟩
 ·rw[h2]
  generalize (W0 m).2.2=e at *
  have he':(e != 0)=true:=by simpa using he
  simp[go_sem,Qg4,Zb,Rep.zero,Mesh.enc,Mesh.cs,vsV,tsV,Rep.cs,he,he']
  refine Q4 ha ?_
  simp[go_sem,L00.r]
 generalize W0 m=R at *
 obtain⟨a,r,e⟩:=R
 simp only[]at he hsnd
 subst he
 have s1:=hs a z k
 rw[Wm hsnd.clo ⟨h1,h2⟩ hk]at s1
 have hgv:RgV (W2 (egs (Zk a z a.tris)) k)/\RgB (W2 (egs (Zk a z a.tris)) k):=by
  have:=Qow a z k
  rwa [Wm hsnd.clo ⟨h1,h2⟩ hk]at this
 have v1:=hv _ hgv.1 hgv.2
 have b1:=hb a hsnd.z
 have hout:=Qkx (m:=a) (z:=z) (k:=k) hsnd.z
 simp only[Mesh.enc,Mesh.cs,V3.enc,V3.cs]at s1 b1
 unfold Q17 at hc
 simp only[rgV,List.map_nil]at s1 v1 hc
 simp[go_sem,Qg4,Mesh.enc,Mesh.cs,Rep.cs]
 refine Q4 s1 ?_
 simp[go_sem]
 refine Q4 v1 ?_
 simp[go_sem]
 refine Q4 b1 ?_
 by_cases c0:a.verts=[]
 ·rw[hout (.inl c0)]
  simp[go_sem,V3.cs,c0]
  refine Q4 hc ?_
  simp[go_sem]
  refine Q4 ha ?_
  simp[go_sem,L00.r]
 by_cases c1:z<(bLo a.verts).z
 ·rw[hout (.inr (.inl c1))]
  simp[go_sem,V3.cs,c0,show ¬ (bLo a.verts).z<=z by omega]
  refine Q4 hc ?_
  simp[go_sem]
  refine Q4 ha ?_
  simp[go_sem,L00.r]
 by_cases c2:z<(bHi a.verts).z
 ·simp[go_sem,V3.cs,c0,show (bLo a.verts).z<=z by omega,c2]
  refine Q4 ha ?_
  simp[go_sem,L00.r]
 ·rw[hout (.inr (.inr (by omega)))]
  simp[go_sem,V3.cs,c0,show (bLo a.verts).z<=z by omega,c2]
  refine Q4 hc ?_
  simp[go_sem]
  refine Q4 ha ?_
  simp[go_sem,L00.r]
theorem TopSlices_ok {f fl fa fr fs fv fb fc:FuncId} (hf:Qa P f (L00.c fl fa fr fs fv fb fc) L00.r L00.n) (hl:Qf5 P fl) (ha:Q6x P fa) (hr:RepC P fr) (hs:Q6s P fs) (hv:Q15 P fv) (hb:Qjw P fb) (hc:Q17 P fc) (m:Mesh) (z k:Int) :
  PureC P f [m.enc,.i .i64 z,.i .i64 k] (·=.b true):=by
 by_cases hn:zpB m z k
 ·exact Q85 hm hf hl ha hr hs hv hb hc m z k hn
 ·exact Qbw hm hf hl ha m z k hn
end
theorem Qlc (e:Int):Le (.t [.nil,.i .i64 e]) (.t [Qw [],.i .i64 e]):=.inr ⟨_,_,rfl,rfl,.inl (Le0.nil 1),Le1.refl _,trivial⟩
theorem Qd8 {p:P2} (h:(-65536<=p.x/\p.x<=65536)/\-65536<=p.y/\p.y<=65536):p.valid=true:=P2.valid_iff.2 ⟨by omega,by omega,by omega,by omega⟩
theorem Q8h {l:List Sg4} (h:Qjs l) {s:Sg4} (hs:s∈l):s.eg.1.valid=true/\s.eg.2.valid=true:=by
 obtain⟨a,b,c,d⟩:=h.2 s.eg (qp.2 ⟨s,hs,rfl⟩)
 exact⟨Qd8 ⟨a,b⟩,Qd8 ⟨c,d⟩⟩
theorem Qit (s:Sg4):s.eg.1.enc=.a [.i .i64 s.a.1,.i .i64 s.a.2]:=rfl
theorem Qis (s:Sg4):s.eg.2.enc=.a [.i .i64 s.b.1,.i .i64 s.b.2]:=rfl
def Q9e (a b:P2):Int:=if a.x<b.x∨(a.x=b.x/\a.y<b.y) then -1 else if a=b then 0 else 1
theorem Ka (a b:P2):ltC Q9e a b=decide (a.x<b.x∨(a.x=b.x/\a.y<b.y)):=by
 unfold ltC Q9e
 by_cases h:a.x<b.x∨(a.x=b.x/\a.y<b.y)
 ·simp[h]
 ·rw[if_neg h]
  by_cases h2:a=b<;>simp[h,h2]
theorem Qmp:Go.Sort.SWO (ltC Q9e) where
 irrefl x:=by rw[Ka];simp
 trans x y z:=by
  rw[Ka,Ka,Ka]
  simp only[decide_eq_true_eq]
  omega
 ntrans x y z:=by
  rw[Ka,Ka,Ka]
  simp only[decide_eq_false_iff_not]
  omega
def Qc2 (P:Program) (f:FuncId):Prop:=∀a b:P2,CallIs P f [a.enc,b.enc] (.i .i64 (Q9e a b))
def Qqr (o:O) (ents:List (V × V)):Prop:=o=.mp ents∨o=.md ents
def Qbx (P:Program) (f:FuncId):Prop:=∀(h:List O) (id:Nat) (o:O) (ents:List (V × V)) (e:P2) (i q g off n:Nat) (els:List (List V)) (v:P2),Qqr o ents->h[id]?=some o ->
 Qj [1,1] e.enc ents=some (some (i,.own q g off n))->h[q]?=some (.arr g 2 els)->1<=n->off+n<=els.length->els[off]?=some v.cs ->
 ACall P f [.mp id,e.enc] h (λr h'=>r=v.enc/\((n=1/\h'=h.set id (.md (ents.eraseIdx i)))∨(n≠1/\∃o',Qqr o' (ents.set i (e.enc,.own q g (off+1) (n-1)))/\h'=h.set id o')))
section
variable {P:Program} (hm:P.follows .mixedOrders=true)
include hm
theorem Q0u {f:FuncId} (hf:Qa P f L09.c L09.r L09.n):Qc2 P f:=by
 intro a b
 refine PureC.is (Q8 hm hf (qh rfl) ?_) rfl
 unfold L09.c Q9e
 by_cases h1:a.x<b.x
 ·simp[go_sem,P2.enc,P2.cs,h1,L09.r]
 ·by_cases h2:a.x=b.x
  ·by_cases h3:a.y<b.y
   ·simp[go_sem,P2.enc,P2.cs,h2,h3,L09.r]
   ·by_cases h4:a.y=b.y
    ·simp[go_sem,P2.enc,P2.cs,h2,h4,p2_iff,L09.r]
    ·simp[go_sem,P2.enc,P2.cs,h2,h3,h4,p2_iff,L09.r]
  ·have h2':(a.x == b.x)=false:=by simpa using h2
   simp[go_sem,P2.enc,P2.cs,h1,h2,h2',p2_iff,L09.r]
theorem Q3v {f:FuncId} (hf:Qa P f L0b.c L0b.r L0b.n):Qbx P f:=by
 intro h id o ents e i q g off n els v ho hid hfe hq hn hol hv
 refine Yb λhcl=>?_
 obtain⟨hlt,hid'⟩:=q8.1 hid
 obtain⟨hqt,hq'⟩:=q8.1 hq
 have hvl:=(q8.1 hv).1
 obtain⟨_,hv'⟩:=q8.1 hv
 have hqid:q≠id:=by
  rintro rfl
  rw[hid]at hq
  rcases ho with rfl | rfl<;>simp at hq
 have hqs:∀o',(h.set id o')[q]?=some (.arr g 2 els):=λo'=>by rw[qu (λhh=>hqid hh.symm)];exact hq
 have hqs':∀o' (hh:q<(h.set id o').length),(h.set id o')[q]=.arr g 2 els:=λo' hh=>(q8.1 (hqs o')).2
 have hentcl:∀N,h.length<=N->∀x∈ents,x.1.cl N=true/\x.2.cl N=true:=λN hN x hx=>by
  have:=hcl N hN o (qb hid)
  rcases ho with rfl | rfl<;>exact this x hx
 have hpad:∀(o':O) (l:List O) (N:Nat),h.length<=N->o'.cl N->WeakH N (h.set id o'++l) (h.set id o'):=λo' l N hN ho'=>by
  have:=Qs (n:=N) (a:=l) (b:=[]) (h:=h.set id o') (λo1 h1=>by
   rcases List.mem_or_eq_of_mem_set h1 with h1 | rfl
   ·exact hcl N hN o1 h1
   ·exact ho') (by cases l<;>trivial)
  rwa [List.append_nil]at this
 refine X9 hm hf (qh rfl) ?_
 unfold L0b.c
 generalize hK:Eb h.length L0b.r _=K
 simp only[P2.enc,P2.cs]at hfe hv
 have hqa:∀(o':O) (l:List O),(h.set id o'++l)[q]?=some (.arr g 2 els):=λo' l=>by
  rw[qd (by rw[List.length_set];exact hqt)];exact hqs o'
 have g0:∀(o':O) (l:List O),(h.set id o'++l)[h.length]?=l[0]?:=λo' l=>by
  have:=Qb (h.set id o') l
  rwa [List.length_set]at this
 have gk:∀(o':O) (l:List O) (k:Nat),(h.set id o'++l)[h.length+k]?=l[k]?:=λo' l k=>by
  have:=Q9 (h.set id o') l k
  rwa [List.length_set]at this
 have sk:∀(o':O) (l:List O) (k:Nat) (x:O),(h.set id o'++l).set (h.length+k) x=h.set id o'++l.set k x:=λo' l k x=>by
  have:=Qk (h.set id o') l k x
  rwa [List.length_set]at this
 have fin:∀(env:List (Nat × V)) (o':O) (x:O),get 4 env=.p (h.length+1) 1 0 0->(∀N,h.length<=N->o'.cl N) ->
   ((n=1/\o'=.md (ents.eraseIdx i))∨(n≠1/\Qqr o' (ents.set i (e.enc,.own q g (off+1) (n-1))))) ->
   K .r ⟨env,h.set id o'++[x,.arr 1 2 [v.cs]]⟩:=by
  intro env o' x henv hocl hor
  rw[<- hK,Km]
  refine⟨[v.enc],h.set id o',?_,rfl,?_,by simp,by simp,hpad o' _ _ (by simp) (hocl _ (by simp)),rfl,?_⟩
  ·simp[L0b.r,Yc,henv,gk,X5,Jk,P2.cs,P2.enc]
  ·simp[P2.enc,P2.cs,V.cl,V.cl1,V.cl0]
  ·rcases hor with⟨a,rfl⟩ | ⟨a,b⟩
   ·exact .inl ⟨a,rfl⟩
   ·exact .inr ⟨a,o',b,rfl⟩
 have hecl:∀N,h.length<=N->(O.md (ents.eraseIdx i)).cl N:=λN hN x hx=>hentcl N hN x (List.mem_of_mem_eraseIdx hx)
 have hscl:∀N,h.length<=N->∀x∈ents.set i (e.enc,.own q g (off+1) (n-1)),x.1.cl N=true/\x.2.cl N=true:=λN hN x hx=>by
  rcases List.mem_or_eq_of_mem_set hx with h1 | rfl
  ·exact hentcl N hN x h1
  ·simp[P2.enc,P2.cs,V.cl,V.cl1,V.cl0];omega
 simp only[P2.enc,P2.cs]at fin hscl
 by_cases h1:n=1
 ·subst h1
  rcases ho with rfl | rfl
  ·simp (disch:=omega) [go_sem,P2.enc,P2.cs,hid,hid',hlt,hqt,hq,hq',hfe,hv,hv',hvl,hqa,gk,g0,sk,Q9,Qb,Qk,Ql,Zd hlt,Zx hlt,Zd hqt]
   exact fin _ _ _ (by simp[go_sem]) hecl (.inl ⟨rfl,rfl⟩)
  ·simp (disch:=omega) [go_sem,P2.enc,P2.cs,hid,hid',hlt,hqt,hq,hq',hfe,hv,hv',hvl,hqa,gk,g0,sk,Q9,Qb,Qk,Ql,Zd hlt,Zx hlt,Zd hqt]
   exact fin _ _ _ (by simp[go_sem]) hecl (.inl ⟨rfl,rfl⟩)
 ·have hn1:¬ ((n:Int)=1):=by omega
  have hn2:(n == 1)=false:=by simpa using h1
  rcases ho with rfl | rfl
  ·simp (disch:=omega) [go_sem,P2.enc,P2.cs,hid,hid',hlt,hqt,hq,hq',hfe,hv,hv',hvl,hqa,gk,g0,sk,h1,hn1,hn,Q9,Qb,Qk,Ql,Zd hlt,Zx hlt,Zd hqt]
   refine⟨by omega,fin _ _ _ ?_ ?_ ?_⟩
   ·simp[go_sem]
   ·exact λN hN=>hscl N hN
   ·exact .inr ⟨h1,.inl rfl⟩
  ·simp (disch:=omega) [go_sem,P2.enc,P2.cs,hid,hid',hlt,hqt,hq,hq',hfe,hv,hv',hvl,hqa,gk,g0,sk,h1,hn1,hn,Q9,Qb,Qk,Ql,Zd hlt,Zx hlt,Zd hqt]
   refine⟨by omega,fin _ _ _ ?_ ?_ ?_⟩
   ·simp[go_sem]
   ·exact λN hN=>hscl N hN
   ·exact .inr ⟨h1,.inr rfl⟩
end
end Go.Abs
