/- What Orient does to values. -/
import Derived.Test.YtcdjgldeiaiaoaaGreatGoQd
set_option linter.unusedVariables false
set_option linter.unusedSimpArgs false
set_option maxHeartbeats 16000000
set_option maxRecDepth 20000
namespace Go.Abs
noncomputable def Qao (m:Mesh):V:=match Zx m.tris with
 | none=>.t [.a [.nil,.nil],.i .i64 0,.i .i64 13]
 | some us=>Q43 (⟨m.verts,us⟩,Q0t m.tris us,0)
theorem oriV_le {m:Mesh} (hz:m.check=0):Le (Qao m) (Q43 (Zm m)):=by
 unfold Qao Zm
 rw[if_neg (by simpa using hz)]
 cases Zx m.tris with
 | none=>exact I4 13
 | some us=>exact Le.refl _
theorem e3_cl (t:T3) (n:Nat):∀x∈t.cs,x.cl n=true:=of_eq_true (Zp t n)
theorem Qjv (t:T3) (n:Nat):(O.arr 1 3 [t.cs]).cl n:=by
 intro el hel x hx
 simp at hel;subst hel
 exact e3_cl t n x hx
theorem Qhy {id g off len g' n:Nat} (h:id<n):(O.arr g' 1 [[.own id g off len]]).cl n:=by
 intro el hel x hx
 simp at hel;subst hel
 simp at hx;subst hx
 simpa[V.cl,V.cl1,V.cl0]using h
theorem int_cl (z:Int) (g' n:Nat):(O.arr g' 1 [[.i .i64 z]]).cl n:=by
 intro el hel x hx
 simp at hel;subst hel
 simp at hx;subst hx
 rfl
section
variable {P:Program} (hm:P.follows .mixedOrders=true)
include hm
theorem B8 {f fc fct fe fb fv fh fcv:FuncId} (hf:Qb P f (L0c.c fc fct fe fb fv fh fcv) L0c.r L0c.n) (hc:Y3 P fc) (hct:Xt P fct 3) (he:Km P fe) (hu:Qgg P fb) (hv:Qc1 P fv) (hcal:Zf P fv=true) (hh:Qlj P fh) (hcv:Xt P fcv 3):Q7e P f:=by
 intro m
 by_cases hz:m.check=0
 case neg =>
  have hR:Zm m=(⟨[],[]⟩,0,m.check):=by unfold Zm;rw[if_pos hz]
  rw[hR]
  refine CallIs.res ?_ (I4 _)
  refine PureC.is (Q9 hm hf (qh rfl) ?_) rfl
  unfold L0c.c
  simp[go_sem,Mesh.enc,Mesh.cs]
  refine Q6 (hc m) ?_
  simp[go_sem,hz,L0c.r]
 refine CallIs.res ?_ (oriV_le hz)
 obtain⟨z1,z2,z3,z4⟩:=Mesh.check_zero.1 hz
 obtain⟨L,hL⟩:=E8 m.tris
 have hend:∀(us:List T3) (X:List Int) (n:Nat),OrI m.tris us L X n->(∀i:Nat,i<m.tris.length->(i:Int)∈X) ->
   (Xw us=true->Qao m=Q43 (⟨m.verts,us⟩,n,0))/\(Xw us=false->Qao m=.t [.a [.nil,.nil],.i .i64 0,.i .i64 13]):=by
  intro us X n hO hall
  obtain⟨h1,h2⟩:=hO.done hL hall
  constructor
  ·intro hcu
   obtain⟨h3,h4⟩:=h1 (cohB_iff.1 hcu)
   unfold Qao;rw[h3,h4]
  ·intro hcu
   have h3:=h2 (λhh=>by rw[cohB_iff.2 hh]at hcu;simp at hcu)
   unfold Qao;rw[h3]
 generalize Qao m=RR at hend
 have hLl:=hL.len
 refine PureC.is (Q9 hm hf (qh rfl) ?_) rfl
 unfold L0c.c
 simp[go_sem,Mesh.enc,Mesh.cs,tsV]
 refine Q6 (hc m) ?_
 simp[go_sem,hz]
 refine K7 (hct (m.tris.map T3.cs) (by simp[X0]) (by simp;omega)) (by simp[V.cl,V.cl1,V.cl0]) ?_
 have hst:∀(n:Nat) (a:T3),List.map (V.sh1 n) a.cs=a.cs:=λn a=>by simp[tcs,V.sh1,V.sh0]
 simp[go_sem,hst]
 refine Ql (α:=Nat × List O × List (P2 × (Nat × Nat))) (λp=>p.1<=m.tris.length/\UM p.2.1 p.2.2 (Jr m.tris p.1)/\Flt p.2.1)
  (λp=>⟨[(1,.p 0 1 0 0),(2,.p 1 1 0 0),(6,.p 3 1 0 0),(7,.mp 4),(32,.own 2 1 0 m.tris.length),(33,.i .i64 m.tris.length),(34,.i .i64 p.1)],
   .arr 1 2 [m.cs]::.arr 1 2 [[.nil,.nil]]::.arr 1 3 (m.tris.map T3.cs)::.arr 1 1 [[.own 2 1 0 m.tris.length]]::.mp (p.2.2.map (asG P2.enc (evN 5)))::p.2.1⟩)
  (λp=>m.tris.length-p.1) (0,[],[]) ⟨Nat.zero_le _,UM.nil,by simp[Flt]⟩ ?_ ?_
 ·simp[go_sem,Mesh.cs,vsV,tsV,Zp,hst]
 ·rintro⟨i,hx,KJ⟩ ⟨hi,hU,hF⟩
  simp only at hi hU hF ⊢
  by_cases hil:i=m.tris.length
  ·subst hil
   have hmcs:m.cs=[vsV m.verts,.l 3 (m.tris.map T3.cs)]:=rfl
   obtain⟨n,hn⟩:∃n,n=m.tris.length:=⟨_,rfl⟩
   obtain⟨N0,hN0⟩:∃N0,N0=hx.length+5:=⟨_,rfl⟩
   obtain⟨N,hN⟩:∃N,N=hx.length+10:=⟨_,rfl⟩
   obtain⟨H,hH⟩:∃H:O->O->O->O->O->List O,H=λs t u v w=>.arr 1 2 [m.cs]::.arr 1 2 [[.nil,.nil]]::t::.arr 1 1 [[.own 2 1 0 n]]::.mp (KJ.map (asG P2.enc (evN 5)))::(hx++[s,.arr 1 1 [[.own N0 1 0 n]],u,v,w]):=⟨_,rfl⟩
   have hHB:HB H n (N0+1) N0 3 2 (N0+2) (N0+3) (N0+4):=by
    rw[hH,hN0]
    refine⟨⟨hx.length+10,?_⟩,?_,?_,?_,?_,?_,?_,?_,?_,?_,?_,?_,?_⟩<;>intros<;>simp[Qf,Qd,Z2,Z4]
   obtain⟨hp,hhp⟩:∃hp:OS->List O,hp=oH H n (N0+4):=⟨_,rfl⟩
   have hlenp:∀s,(hp s).length=N:=λs=>by rw[hhp,hN];unfold oH;rw[hH];simp
   have a0:∀s l,(hp s++l)[0]?=some (.arr 1 2 [m.cs]):=λs l=>by rw[hhp];unfold oH;rw[hH];rfl
   have a2:∀s l,(hp s++l)[2]?=some (.arr 1 3 (s.us.map T3.cs)):=λs l=>by rw[hhp];unfold oH;rw[hH];rfl
   have a3:∀s l,(hp s++l)[3]?=some (.arr 1 1 [[.own 2 1 0 n]]):=λs l=>by rw[hhp];unfold oH;rw[hH];rfl
   have a4:∀s l,(hp s++l)[4]?=some (.mp (KJ.map (asG P2.enc (evN 5)))):=λs l=>by rw[hhp];unfold oH;rw[hH];rfl
   have au:∀s l j o,hx[j]?=some o->(hp s++l)[j+5]?=some o:=λs l j o h=>by
    rw[hhp];unfold oH;rw[hH]
    simp only[List.cons_append,List.getElem?_cons_succ,j2]
    exact U3 h
   have ac:∀s l,(hp s++l)[N0+2]?=some (.arr 1 1 [[.i .i64 s.fl]]):=λs l=>by rw[hhp];exact hHB.gc _ _ _ _ _ _
   have ad:∀s l,(hp s++l)[N0+3]?=some (.arr 1 1 [[.own (N0+4) s.g s.off (s.Q.length-s.off)]]):=λs l=>by rw[hhp];exact hHB.gd _ _ _ _ _ _
   have aq:∀s l,(hp s++l)[N0+4]?=some (.arr s.g 1 (ics s.Q)):=λs l=>by rw[hhp];exact hHB.gq _ _ _ _ _ _
   have sd:∀s l,(hp s++l).set (N0+3) (.arr 1 1 [[.own (N0+4) s.g (s.off+1) (s.Q.length-s.off-1)]])=hp { s with off:=s.off+1 }++l:=λs l=>by
    rw[hhp];unfold oH
    rw[hHB.sd]
    simp only[Nat.sub_sub]
   have k0:∀s l,(hp s++l)[N]?=l[0]?:=λs l=>by rw[<- hlenp s];exact Qf _ _
   have kk:∀s l k,(hp s++l)[N+k]?=l[k]?:=λs l k=>by rw[<- hlenp s];exact Qd _ _ _
   have ks0:∀s l o,(hp s++l).set N o=hp s++l.set 0 o:=λs l o=>by rw[<- hlenp s];exact Z2 _ _ _
   have a0':∀s,(hp s)[0]?=some (.arr 1 2 [m.cs]):=λs=>by simpa using a0 s []
   have a2':∀s,(hp s)[2]?=some (.arr 1 3 (s.us.map T3.cs)):=λs=>by simpa using a2 s []
   have a3':∀s,(hp s)[3]?=some (.arr 1 1 [[.own 2 1 0 n]]):=λs=>by simpa using a3 s []
   have a4':∀s,(hp s)[4]?=some (.mp (KJ.map (asG P2.enc (evN 5)))):=λs=>by simpa using a4 s []
   have ad':∀s,(hp s)[N0+3]?=some (.arr 1 1 [[.own (N0+4) s.g s.off (s.Q.length-s.off)]]):=λs=>by simpa using ad s []
   have aq':∀s,(hp s)[N0+4]?=some (.arr s.g 1 (ics s.Q)):=λs=>by simpa using aq s []
   have sd':∀s,(hp s).set (N0+3) (.arr 1 1 [[.own (N0+4) s.g (s.off+1) (s.Q.length-s.off-1)]])=hp { s with off:=s.off+1 }:=λs=>by simpa using sd s []
   have hvis:∀(s:OS) (l:List O) (k:Nat) (e:P2),s.us.length=n->k<n->s.fl<=4096->s.off<=s.Q.length->s.Q.length-s.off<=8192 ->
     ACall P fv [.i .i64 k,.a [.i .i64 e.x,.i .i64 e.y],.p (N0+1) 1 0 0,.p 3 1 0 0,.p (N0+2) 1 0 0,.p (N0+3) 1 0 0] (hp s++l) (λr h'=>r=.t []/\h'=hp (s.visit k e)++(l++[.arr 1 2 [e.cs]])):=λs l k e h1 h2 h3 h4 h5=>by
    rw[hhp]
    exact hv H n _ _ _ _ _ _ _ hHB s l k e h1 h2 (by omega) h3 h4 h5
   have pcl:∀s n',N<=n'->∀o∈hp s,o.cl n':=by
    intro s n' hn' o ho
    rw[hhp]at ho
    unfold oH at ho
    rw[hH]at ho
    simp only[List.mem_cons,qg,List.not_mem_nil,or_false]at ho
    rcases ho with rfl | rfl | rfl | rfl | rfl | ho | rfl | rfl | rfl | rfl | rfl
    ·intro el hel x hx'
     simp at hel;subst hel;exact Bh m n' x hx'
    ·intro el hel x hx'
     simp at hel;subst hel
     simp at hx';subst hx';rfl
    ·intro el hel x hx'
     obtain⟨t,_,rfl⟩:=qp.1 hel
     exact e3_cl t n' x hx'
    ·intro el hel x hx'
     simp at hel;subst hel
     simp at hx';subst hx'
     simp[V.cl,V.cl1,V.cl0];omega
    ·exact hU.clN (by omega)
    ·exact hF o ho n'
    ·exact Qd1 _ _ _
    ·intro el hel x hx'
     simp at hel;subst hel
     simp at hx';subst hx'
     simp[V.cl,V.cl1,V.cl0];omega
    ·intro el hel x hx'
     simp at hel;subst hel
     simp at hx';subst hx';rfl
    ·intro el hel x hx'
     simp at hel;subst hel
     simp at hx';subst hx'
     simp[V.cl,V.cl1,V.cl0];omega
    ·exact Jc _ _
   have hwk:∀(s:OS) (l:List O) (n':Nat),N<=n'->WeakH n' (hp s++l) (hp s):=λs l n' hn'=>Q3f (pcl s n' hn')
   have hws:∀(s:OS) (n':Nat),N<=n'->WeakH n' (hp s) (hp s):=λs n' hn'=>by simpa using hwk s [] n' hn'
   have hwe:∀(s:OS) (e:P2) (l:List O) (n':Nat),N<=n'->WeakH n' (hp s++(.arr 1 2 [e.cs]::l)) (hp s++[.arr 1 2 [e.cs]]):=λs e l n' hn'=>Zc (pcl s n' hn') ⟨.inr ⟨rfl,Q97 e n'⟩,by cases l<;>trivial⟩
   simp[go_sem,Mesh.cs,tsV,Qia]
   refine⟨⟨by omega,by omega⟩,?_⟩
   refine Zv [.c (hx.length+8) 0 0 1] (α:=Nat × OS) (λp=>p.1<=n/\Old m.tris L p.2.X p.1/\Wk m.tris L p.2.X [] 0 p.2)
    (λp=>⟨[(1,.p 0 1 0 0),(2,.p 1 1 0 0),(6,.p 3 1 0 0),(7,.mp 4),(13,.p (N0+2) 1 0 0),(14,.p (N0+3) 1 0 0),(15,.f fv [.p (N0+1) 1 0 0,.p 3 1 0 0,.p (N0+2) 1 0 0,.p (N0+3) 1 0 0]),(63,.i .i64 n),(64,.i .i64 p.1)],hp p.2⟩)
    (λp=>n-p.1) (0,⟨[],m.tris,0,1,0,[]⟩) ⟨Nat.zero_le _,old0 hL,⟨rfl,rfl,OrI.start _ _,rfl,Nat.le_refl _⟩⟩ ?_ ?_
   ·have hp0:=pcl ⟨[],m.tris,0,1,0,[]⟩ N (Nat.le_refl _)
    have hpe:hp ⟨[],m.tris,0,1,0,[]⟩=.arr 1 2 [m.cs]::.arr 1 2 [[.nil,.nil]]::.arr 1 3 (m.tris.map T3.cs)::.arr 1 1 [[.own 2 1 0 m.tris.length]]::.mp (KJ.map (asG P2.enc (evN 5)))::(hx++[.arr 1 1 (mk m.tris.length []),.arr 1 1 [[.own (hx.length+5) 1 0 m.tris.length]],.arr 1 1 [[.i .i64 0]],.arr 1 1 [[.own (hx.length+9) 1 0 0]],.arr 1 1 []]):=by
     rw[hhp];unfold oH;rw[hH,hN0,hn];rfl
    rw[hpe]at hp0
    simp only[hpe]
    simp[go_sem,hN0,hn,hmcs,Qf,Qd]
    refine⟨rfl,hU.clN2 (by omega),Zc (λo ho=>hF o ho _) ⟨.inr ⟨rfl,Qd1 _ _ _⟩,.inr ⟨rfl,Qhy (by omega)⟩,.inr ⟨rfl,int_cl _ _ _⟩,.inr ⟨rfl,Qhy (by omega)⟩,.inr ⟨rfl,Jc [] _⟩,trivial⟩⟩
   ·rintro⟨i,s⟩ ⟨hi,hD,hW⟩
    simp only at hi hD hW ⊢
    have hpx:∀s:OS,hp s=.arr 1 2 [m.cs]::.arr 1 2 [[.nil,.nil]]::.arr 1 3 (s.us.map T3.cs)::.arr 1 1 [[.own 2 1 0 n]]::.mp (KJ.map (asG P2.enc (evN 5)))::(hx++[.arr 1 1 (mk n s.X),.arr 1 1 [[.own (hx.length+5) 1 0 n]],.arr 1 1 [[.i .i64 s.fl]],.arr 1 1 [[.own (hx.length+9) s.g s.off (s.Q.length-s.off)]],.arr s.g 1 (ics s.Q)]):=λs=>by
     rw[hhp];unfold oH;rw[hH,hN0]
    clear hH
    by_cases hil:i=n
    ·subst hil
     have hall:∀i:Nat,i<m.tris.length->(i:Int)∈s.X:=λi hi=>by
      rw[hn]at hD
      exact hD.all hL i hi
     obtain⟨hc1,hc2⟩:=hend s.us s.X s.fl hW.ori hall
     have hwl:=hW.len
     have hh1:=hh s.us (by omega) []
     simp (disch:=omega) [go_sem,a3']
     refine Qcf (vs:=[tsV s.us]) (Qbc (a2' s) (by simp;omega) (by simp[or_imp,forall_and,X0]) rfl) hh1 rfl ?_
     cases hcu:Xw s.us
     ·rw[hc2 hcu,hpx]
      simp (disch:=omega) [go_sem,L0c.r,hmcs]
     ·rw[hc1 hcu,hpx,hN0]
      have htk:List.take m.tris.length (s.us.map T3.cs)=s.us.map T3.cs:=qe (by simp;omega)
      simp (disch:=omega) [go_sem,hmcs,vsV]
      refine K3 (hcv (m.verts.map V3.cs) (by simp[Jn]) (by simp;omega)) (by simp[V.cl,V.cl1,V.cl0]) ?_
      have hsv:∀(n:Nat) (a:V3),List.map (V.sh1 n) a.cs=a.cs:=λn a=>by simp[vcs,V.sh1,V.sh0]
      have hmv:∀n:Nat,List.map ((λel=>List.map (V.sh1 n) el) ∘ V3.cs) m.verts=m.verts.map V3.cs:=λn=>ji λa _=>hsv n a
      have htk2:List.take m.verts.length (m.verts.map V3.cs)=m.verts.map V3.cs:=qe (by simp)
      simp (disch:=omega) [go_sem,L0c.r,Qf,Qd,hmv]
      have hi2:i<=s.us.length:=by omega
      have htk3:List.take i (s.us.map T3.cs)=s.us.map T3.cs:=qe (by simp;omega)
      simp[htk3,hi2,X0,Q43,Mesh.enc,Mesh.cs,vsV,tsV,Y6]
    ·have hlt:i<n:=by omega
     have hXl:=hD.xlen
     have hfl:=hW.ori.num
     have hql:=hW.ql
     have hwl:=hW.len
     have hwo:=hW.off
     simp only[List.length_nil,Nat.zero_sub]at hql
     by_cases hd:(i:Int)∈s.X
     ·obtain⟨hD2,hne⟩:=hD.skip hL hd
      have hsame:=hW.same (e:=⟨-1,-1⟩) (by simpa using hd)
      have hv1:=hvis s [] i ⟨-1,-1⟩ (by omega) hlt (by omega) hwo (by omega)
      rw[List.append_nil,hsame]at hv1
      simp (disch:=omega) [go_sem,hlt,hcal]
      refine K6 hv1 ?_
      simp (disch:=omega) [go_sem]
      refine Ql (α:=Unit) (λ_=>True)
       (λ_=>⟨[(1,.p 0 1 0 0),(2,.p 1 1 0 0),(6,.p 3 1 0 0),(7,.mp 4),(13,.p (N0+2) 1 0 0),(14,.p (N0+3) 1 0 0),(15,.f fv [.p (N0+1) 1 0 0,.p 3 1 0 0,.p (N0+2) 1 0 0,.p (N0+3) 1 0 0]),(63,.i .i64 n),(64,.i .i64 i)],hp s⟩)
       (λ_=>0) () trivial ?_ ?_
      ·simp[go_sem,hlenp]
       exact⟨by omega,hwk s _ N (Nat.le_refl _)⟩
      ·intro _ _
       simp (disch:=omega) [go_sem,ad',aq',hql,hlenp,Q3]
       exact⟨i+1,s,⟨by omega,hD2,hW⟩,by omega,by omega,hws s N (Nat.le_refl _)⟩
     ·have hLi:=hD.own hL (by omega) hd
      have hP0:=Part.one hD (by omega) hd
      have hW2:=hW.top (by omega) hLi hd
      have hv1:=hvis s [] i ⟨-1,-1⟩ (by omega) hlt (by omega) hwo (by omega)
      rw[List.append_nil]at hv1
      obtain⟨D,hDX⟩:∃D,D=s.X:=⟨_,rfl⟩
      rw[<- hDX]at hD hd hP0 hW2
      generalize s.visit i ⟨-1,-1⟩=s1 at *
      simp (disch:=omega) [go_sem,hlt,hcal]
      refine K6 hv1 ?_
      simp (disch:=omega) [go_sem]
      refine Ql (α:=Nat × List Int × OS) (λp=>p.1<=p.2.1.length/\Part m.tris D p.2.1 i/\BfK m.tris D p.2.1 p.1/\Wk m.tris L D p.2.1 p.1 p.2.2)
       (λp=>⟨[(1,.p 0 1 0 0),(2,.p 1 1 0 0),(6,.p 3 1 0 0),(7,.mp 4),(13,.p (N0+2) 1 0 0),(14,.p (N0+3) 1 0 0),(15,.f fv [.p (N0+1) 1 0 0,.p 3 1 0 0,.p (N0+2) 1 0 0,.p (N0+3) 1 0 0]),(63,.i .i64 n),(64,.i .i64 i)],hp p.2.2⟩)
       (λp=>n-p.1) (0,[(i:Int)],s1) ⟨by simp,hP0,λ_ _ h=>by omega,hW2⟩ ?_ ?_
      ·simp[go_sem,hlenp]
       exact⟨by omega,hwk s1 _ N (Nat.le_refl _)⟩
      ·clear hW2 hP0 hv1 hW hql hwl hwo hfl hXl
       rintro⟨k,S,s⟩ ⟨hk,hP,hB,hW⟩
       simp only at hk hP hB hW ⊢
       have hSl:=hP.len
       have hql:=hW.ql
       have hwl:=hW.len
       have hwo:=hW.off
       by_cases hkl:k=S.length
       ·subst hkl
        have hall:=hP.all hL hD (by omega) hLi λv hv j hj=>by
         obtain⟨k',hk'⟩:=qr hv
         exact hB k' v (q8.1 hk').1 hk' j hj
        have hon:=hD.next hL hP.nodup hall
        have hwn:Wk m.tris L s.X [] 0 s:=⟨by simp,hW.len,hW.ori,by rw[hW.q];simp,hW.off⟩
        rw[<- hW.x]at hon
        have hq0:s.Q.length-s.off=0:=by omega
        simp (disch:=omega) [go_sem,ad',aq',hq0,hlenp,Q3]
        exact⟨i+1,s,⟨by omega,hon,hwn⟩,by omega,by omega,hws s N (Nat.le_refl _)⟩
       ·have hkS:k<S.length:=by omega
        have hvS:S[k]?=some S[k]:=q9 hkS
        generalize S[k]=v at hvS
        obtain⟨hv0,hvc⟩:=hP.mem v (qb hvS)
        have hvl:=hvc.lt.2
        obtain⟨hWp,hQv⟩:=hW.pop hvS
        have hic:(ics s.Q)[s.off]?=some [V.i .i64 v]:=by simp[ics,hQv]
        obtain⟨hicl,hic'⟩:=q8.1 hic
        have hq1:0<s.Q.length-s.off:=by omega
        have hut:=Qi (ts:=s.us) (i:=v.toNat) (by omega)
        generalize htt:tAt s.us v.toNat=t at hut
        obtain⟨hul,hut'⟩:=q8.1 hut
        have hvl2:v<n:=by omega
        have hvl3:v.toNat<n:=by omega
        simp (disch:=omega) [go_sem,ad',aq',a2',a3',sd',hq1,hic,hic',hicl,hul,hut,hut',hvl2,hvl3,hv0,tcs,Q3]
        refine⟨by omega,?_⟩
        have he1:=he t
        simp[go_sem,T3.enc,tcs]at he1
        refine Q6 he1 ?_
        have hfv:=hW.ori.fl.tat hvl
        rw[htt]at hfv
        have hfv2:tAt m.tris v.toNat=t∨tAt m.tris v.toNat=t.rev:=by
         rcases hfv with h | h
         ·exact .inl h.symm
         ·exact .inr (by rw[h];rfl)
        have htt2:tAt ({ s with off:=s.off+1 }:OS).us v.toNat=t:=htt
        have hlen:(Q5 t).length<=3:=Y2 t 3
        have hnx:∀S',BfI m.tris D S' i k v (Q5 t)->BfK m.tris D S' (k+1):=λS' h=>h.next' λa ha=>Fl.edge hfv ha
        have hadjU:∀e∈Q5 t,∀w∈usL (Jr m.tris m.tris.length) e.und,∃j:Nat,j<m.tris.length/\w=(j:Int)/\adjI m.tris v.toNat j/\∃b∈Q5 (tAt m.tris j),b.und=e.und:=by
         intro e hee w hw
         obtain⟨j,h1,h2,a,ha,hab⟩:=mem_allP.1 (mem_usL.1 hw)
         obtain⟨e0,h3,h4⟩:=Fl.edge hfv2 hee
         exact⟨j,h1,h2,Ip hvl h1 h3 ha (h4.trans hab.symm),a,ha,hab⟩
        have hel:∀e∈Q5 t,e∈Q5 t:=λe h=>h
        have hvm:=qb hvS
        have hkk:k+1<=S.length:=by omega
        have hSl0:=hSl
        generalize ({ s with off:=s.off+1 }:OS)=s2 at hWp htt2 ⊢
        clear hic hicl hic' hut hut' hul hQv hq1 hW hql hwl hwo htt
        generalize hEE:Q5 t=E at hlen hnx hadjU hel
        simp[go_sem,psV]
        refine Ql (α:=Nat × List Int × OS) (λp=>p.1<=E.length/\BfI m.tris D p.2.1 i k v (E.take p.1)/\Wk m.tris L D p.2.1 (k+1) p.2.2/\tAt p.2.2.us v.toNat=t)
         (λp=>⟨[(1,.p 0 1 0 0),(2,.p 1 1 0 0),(6,.p 3 1 0 0),(7,.mp 4),(13,.p (N0+2) 1 0 0),(14,.p (N0+3) 1 0 0),(15,.f fv [.p (N0+1) 1 0 0,.p 3 1 0 0,.p (N0+2) 1 0 0,.p (N0+3) 1 0 0]),(63,.i .i64 n),(64,.i .i64 i),(83,psV E),(84,.i .i64 E.length),(85,.i .i64 p.1)],hp p.2.2⟩)
         (λp=>E.length-p.1) (0,S,s2) ⟨Nat.zero_le _,⟨hP,hB,hvS,by simp⟩,hWp,htt2⟩ ?_ ?_
        ·simp[go_sem,psV,hlenp]
         exact⟨by omega,hws s2 N (Nat.le_refl _)⟩
        ·clear hP hB hvS hWp htt2 hvm hkl hk hkS hSl hkk
         rintro⟨q,S,s⟩ ⟨hq,hI,hW,htt⟩
         simp only at hq hI hW htt ⊢
         have hSl:=hI.part.len
         have hkS:=(q8.1 hI.at_).1
         have hXl:=hI.part.xlen hD
         have hfl:=hW.ori.num
         rw[hW.x]at hfl
         have hql:=hW.ql
         have hwl:=hW.len
         have hwo:=hW.off
         by_cases hqE:q=E.length
         ·subst hqE
          rw[qi]at hI
          have hB:=hnx S hI
          simp (disch:=omega) [go_sem,psV,Q3,hlenp]
          exact⟨k+1,S,s,⟨by omega,hI.part,hB,hW⟩,by omega,by omega,hws s N (Nat.le_refl _)⟩
         ·have hqt:q<E.length:=by omega
          have hee:E[q]?=some E[q]:=q9 hqt
          generalize E[q]=e at hee
          have heE:e∈E:=qb hee
          have htk:=Qj hee
          obtain⟨_,hee'⟩:=q8.1 hee
          have hfe:Qh [1,1] (V.a [.i .i64 e.und.x,.i .i64 e.und.y]) (KJ.map (asG P2.enc (evN 5)))=_:=X3 Q68 (evN 5) e.und KJ
          have hue:=hu e
          simp only[P2.enc,P2.cs]at hue
          simp (disch:=omega) [go_sem,psV,hqt,hee,hee',pcs,hlenp,k0,ks0]
          refine Q6 hue ?_
          cases hfn:Zb e.und KJ with
          | none =>
            rw[hfn,Option.map_none]at hfe
            have hus:=hU.none _ hfn
            simp (disch:=omega) [go_sem,a4,hfe,Q3]
            refine Ql (α:=Unit) (λ_=>True)
             (λ_=>⟨[(1,.p 0 1 0 0),(2,.p 1 1 0 0),(6,.p 3 1 0 0),(7,.mp 4),(13,.p (N0+2) 1 0 0),(14,.p (N0+3) 1 0 0),(15,.f fv [.p (N0+1) 1 0 0,.p 3 1 0 0,.p (N0+2) 1 0 0,.p (N0+3) 1 0 0]),(63,.i .i64 n),(64,.i .i64 i),(83,psV E),(84,.i .i64 E.length),(85,.i .i64 q),(93,.i .i64 0),(94,.i .i64 0)],hp s⟩)
             (λ_=>0) () trivial ?_ ?_
            ·simp[go_sem,psV,hlenp]
             exact⟨by omega,hwk s _ N (Nat.le_refl _)⟩
            ·intro _ _
             simp (disch:=omega) [go_sem,psV,hlenp,Q3]
             exact⟨q+1,S,s,⟨by omega,by rw[htk];exact hI.more (by rw[hus];simp),hW,htt⟩,by omega,by omega,hws s N (Nat.le_refl _)⟩
          | some w =>
            obtain⟨p,jj,nn⟩:=w
            rw[hfn,Option.map_some]at hfe
            obtain⟨hnn,hjj⟩:=hU.val p e.und jj nn (J0 hfn)
            have hjjl:=(q8.1 hjj).1
            have gU:=λs l=>au s l jj _ hjj
            have gU':∀s,(hp s)[jj+5]?=some (.arr nn 1 (ics (usL (Jr m.tris m.tris.length) e.und))):=λs=>by simpa using gU s []
            have hmU:=hadjU e (by rw[<- hEE]at heE;rw[<- hEE];exact heE)
            have hmore:=λS' (h:BfI m.tris D S' i k v (E.take q))=>h.more (e:=e)
            have hUl:=Q0v (Jr m.tris m.tris.length) e.und
            have hAl:=Io m.tris m.tris.length
            generalize usL (Jr m.tris m.tris.length) e.und=U at hnn hjj gU gU' hmU hmore hUl
            subst hnn
            simp (disch:=omega) [go_sem,a4,hfe,evN,gU,Q3]
            refine Ql (α:=Nat × List Int × OS) (λp=>p.1<=U.length/\BfI m.tris D p.2.1 i k v (E.take q)/\(∀w∈U.take p.1,w∈D++p.2.1)/\Wk m.tris L D p.2.1 (k+1) p.2.2/\tAt p.2.2.us v.toNat=t)
             (λp=>⟨[(1,.p 0 1 0 0),(2,.p 1 1 0 0),(6,.p 3 1 0 0),(7,.mp 4),(13,.p (N0+2) 1 0 0),(14,.p (N0+3) 1 0 0),(15,.f fv [.p (N0+1) 1 0 0,.p 3 1 0 0,.p (N0+2) 1 0 0,.p (N0+3) 1 0 0]),(19,.p N 1 0 0),(63,.i .i64 n),(64,.i .i64 i),(83,psV E),(84,.i .i64 E.length),(85,.i .i64 q),(92,.own (jj+5) U.length 0 U.length),(93,.i .i64 U.length),(94,.i .i64 p.1)],hp p.2.2++[.arr 1 2 [e.cs]]⟩)
             (λp=>U.length-p.1) (0,S,s) ⟨Nat.zero_le _,hI,by simp,hW,htt⟩ ?_ ?_
            ·simp[go_sem,psV,hlenp]
             exact⟨by omega,hwe s e [] (N+1) (by omega)⟩
            ·clear hI hSl hkS hXl hfl hql hwl hwo hW htt
             rintro⟨r,S,s⟩ ⟨hr,hI,hmr,hW,htt⟩
             simp only at hr hI hmr hW htt ⊢
             have hSl:=hI.part.len
             have hXl:=hI.part.xlen hD
             have hfl:=hW.ori.num
             rw[hW.x]at hfl
             have hql:=hW.ql
             have hwl:=hW.len
             have hwo:=hW.off
             by_cases hrl:r=U.length
             ·subst hrl
              rw[qi]at hmr
              simp (disch:=omega) [go_sem,psV,hlenp,Q3]
              exact⟨q+1,S,s,⟨by omega,by rw[htk];exact hmore S hI hmr,hW,htt⟩,by omega,by omega,hwk s _ N (Nat.le_refl _)⟩
             ·have hrU:r<U.length:=by omega
              have hur:U[r]?=some U[r]:=q9 hrU
              obtain⟨j,hjl,hju,hadj,b,hb,hbe⟩:=hmU _ (qb hur)
              rw[hju]at hur
              have htr:=Qj hur
              have hicU:(ics U)[r]?=some [V.i .i64 (j:Int)]:=by simp[ics,hur]
              obtain⟨hiclU,hicU'⟩:=q8.1 hicU
              have hvc1:=hvis s [.arr 1 2 [e.cs]] j e (by omega) (by omega) (by omega) hwo (by omega)
              have hnew:=λhn=>hW.visit hL hLi hI (by omega) hadj (by rw[htt,hEE];exact heE) hb hbe hn
              have hsame:=λh=>hW.same (j:=j) (e:=e) h
              generalize s.visit j e=s3 at hvc1 hnew hsame
              simp (disch:=omega) [go_sem,psV,gU,hrU,hur,hicU,hicU',hiclU,hlenp,k0,kk,pcs,hcal,Q3]
              refine K6 hvc1 ?_
              simp (disch:=omega) [go_sem,psV,hlenp,Q3]
              by_cases hjm:(j:Int)∈D++S
              ·obtain rfl:=hsame hjm
               have hmr2:∀w∈U.take (r+1),w∈D++S:=λw hw=>by
                rw[htr]at hw
                rcases qg.1 hw with h | h
                ·exact hmr w h
                ·simp at h;subst h;exact hjm
               exact⟨r+1,S,_,⟨by omega,hI,λw hw=>qg.1 (hmr2 w hw),hW,htt⟩,by omega,by omega,hwe _ e _ (N+1) (by omega)⟩
              ·obtain⟨hW2,htt2⟩:=hnew hjm
               have hI2:=hI.add (u:=(j:Int)) (by omega) (by rw[Int.toNat_natCast];exact hadj) hjm
               have hmr2:∀w∈U.take (r+1),w∈D++(S++[(j:Int)]):=λw hw=>by
                rw[htr]at hw
                rcases qg.1 hw with h | h
                ·exact I5 (hmr w h)
                ·simp at h;subst h;simp
               exact⟨r+1,S++[(j:Int)],s3,⟨by omega,hI2,λw hw=>qg.1 (hmr2 w hw),hW2,htt2.trans htt⟩,by omega,by omega,hwe s3 e _ (N+1) (by omega)⟩
  ·have hlt:i<m.tris.length:=by omega
   have hp:=Qi hlt
   have hps:=Bs m.tris i
   have hal:=Io m.tris i
   generalize tAt m.tris i=t at hp hps
   obtain⟨_,hp'⟩:=q8.1 hp
   generalize hQ:Jr m.tris i=Q at *
   simp[go_sem,Mesh.cs,tsV,hlt,hp,hp',tcs,Qf,Qd]
   refine Q6 (he t) ?_
   have hlen:(Q5 t).length<=3:=Y2 t 3
   simp[go_sem,psV]
   refine Ql (α:=Nat × List O × List (P2 × (Nat × Nat))) (λp=>p.1<=(Q5 t).length/\UM p.2.1 p.2.2 (Q++((Q5 t).take p.1).map λe=>(e.und,(i:Int)))/\Flt p.2.1)
    (λp=>⟨[(1,.p 0 1 0 0),(2,.p 1 1 0 0),(6,.p 3 1 0 0),(7,.mp 4),(8,.i .i64 i),(32,.own 2 1 0 m.tris.length),(33,.i .i64 m.tris.length),(34,.i .i64 i),(40,psV (Q5 t)),(41,.i .i64 (Q5 t).length),(42,.i .i64 p.1)],
     .arr 1 2 [m.cs]::.arr 1 2 [[.nil,.nil]]::.arr 1 3 (m.tris.map T3.cs)::.arr 1 1 [[.own 2 1 0 m.tris.length]]::.mp (p.2.2.map (asG P2.enc (evN 5)))::p.2.1⟩)
    (λp=>(Q5 t).length-p.1) (0,hx++[.arr 1 3 [t.cs]],KJ) ⟨Nat.zero_le _,by simpa using hU.app _,hF.app (Flt.one (Qjv t))⟩ ?_ ?_
   ·simp[go_sem,Mesh.cs,tsV,vsV,psV,Zp]
    exact⟨hU.clN2 (by omega),(hF.app (Flt.one (Qjv t))).WeakH' _⟩
   ·rintro⟨j,hx,KJ⟩ ⟨hj,hU,hF⟩
    simp only at hj hU hF ⊢
    by_cases hjl:j=(Q5 t).length
    ·subst hjl
     rw[qi,<- hps]at hU
     simp (disch:=omega) [go_sem,Mesh.cs,tsV,vsV,psV,Q3]
     exact⟨i+1,hx,KJ,⟨by omega,hU,hF⟩,by omega,by omega,by simp,⟨rfl,hU.clN2 (by omega)⟩,hF.WeakH' _⟩
    ·have hjt:j<(Q5 t).length:=by omega
     have hq:(Q5 t)[j]?=some (Q5 t)[j]:=q9 hjt
     have htk:((Q5 t).take (j+1)).map (λe=>(e.und,(i:Int)))=((Q5 t).take j).map (λe=>(e.und,(i:Int)))++[((Q5 t)[j].und,(i:Int))]:=by rw[Qj hq,qx];rfl
     generalize (Q5 t)[j]=e at hq htk
     obtain⟨_,hq'⟩:=q8.1 hq
     have hQs:Q++((Q5 t).take (j+1)).map (λe=>(e.und,(i:Int)))=(Q++((Q5 t).take j).map λe=>(e.und,(i:Int)))++[(e.und,(i:Int))]:=by rw[htk,<- j2]
     have hQl:(Q++((Q5 t).take j).map λe=>(e.und,(i:Int))).length<=12300:=by rw[j3,List.length_map,qw];omega
     generalize (Q++((Q5 t).take j).map λe=>(e.und,(i:Int)))=Q1 at *
     have hul:=Q0v Q1 e.und
     have hfe:Qh [1,1] (V.a [.i .i64 e.und.x,.i .i64 e.und.y]) (KJ.map (asG P2.enc (evN 5)))=_:=X3 Q68 (evN 5) e.und KJ
     simp[go_sem,psV,hjt,hq,hq',pcs,Qf,Qd]
     refine Qp (hu e) ?_
     simp[go_sem,P2.enc,P2.cs,Qf,Qd]
     refine Qp (hu e) ?_
     cases hfn:Zb e.und KJ with
     | none =>
       rw[hfn,Option.map_none]at hfe
       simp (disch:=omega) [go_sem,P2.enc,P2.cs,hfe,Qf,Qd,Q3]
       have hF2:Flt (hx++[.arr 1 2 [[.i .i64 e.x,.i .i64 e.y]],.arr 1 1 (ics [(i:Int)])]):=hF.app λo ho n=>by
        simp at ho
        rcases ho with rfl | rfl
        ·exact Q97 e n
        ·exact Jc _ _
       have hU2:=hU.new (v:=(i:Int)) hfn (l:=[.arr 1 2 [[.i .i64 e.x,.i .i64 e.y]],.arr 1 1 (ics [(i:Int)])]) (j0:=hx.length+1) (by omega) (by rw[Qd];rfl)
       refine⟨j+1,_,_,⟨by omega,by rw[<- List.map_take,hQs];exact hU2,hF2⟩,by omega,by simp,by omega,Bh m _,⟨by rw[qx];rfl,hU2.clN2 (by simp)⟩,hF2.WeakH' _⟩
     | some q =>
       obtain⟨p,jj,n⟩:=q
       rw[hfn,Option.map_some]at hfe
       obtain⟨hn,hjj⟩:=hU.val p e.und jj n (J0 hfn)
       have hjjl:=(q8.1 hjj).1
       have hgj:∀l:List O,(hx++l)[jj]?=some (.arr n 1 (ics (usL Q1 e.und))):=λl=>U3 hjj
       have hsj:∀(l:List O) (o:O),(hx++l).set jj o=hx.set jj o++l:=λl o=>Q57 l hjjl o
       have htn:List.take n (ics (usL Q1 e.und))=ics (usL Q1 e.und):=qe (by simp[ics,hn])
       have hnl:n<=(ics (usL Q1 e.und)).length:=by simp[ics,hn]
       simp (disch:=omega) [go_sem,P2.enc,P2.cs,hfe,evN,hgj,hsj,htn,hnl,Qf,Qd,Q3]
       have hF2:Flt (hx.set jj (.arr (n+1) 1 (ics (usL Q1 e.und)++[[.i .i64 (i:Int)]]))++[.arr 1 2 [[.i .i64 e.x,.i .i64 e.y]]]):=(hF.set λn'=>by
        have:ics (usL Q1 e.und)++[[V.i .i64 (i:Int)]]=ics (usL Q1 e.und++[(i:Int)]):=by simp[ics]
        rw[this];exact Jc _ _).app (Flt.one (Q97 e))
       have hU2:=(hU.old (v:=(i:Int)) hfn).app [.arr 1 2 [[.i .i64 e.x,.i .i64 e.y]]]
       refine⟨⟨by omega,by omega⟩,λo ho=>?_,j+1,_,_,⟨by omega,by rw[<- List.map_take,hQs];exact hU2,hF2⟩,by omega,by simp,?_⟩
       rotate_left
       ·exact⟨by omega,Bh m _,⟨by rw[List.map_set];rfl,hU2.clN2 (by simp)⟩,hF2.WeakH' _⟩
       rw[List.drop_eq_nil_of_le (by simp)]at ho
       simp at ho
end
end Go.Abs
