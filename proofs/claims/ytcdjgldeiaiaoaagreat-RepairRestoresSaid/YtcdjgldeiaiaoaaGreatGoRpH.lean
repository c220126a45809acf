/- Part of the library on which the proof stands: an abstract machine, its values and its soundness against the model; or what functions of the program do to such values. -/
import Derived.Test.YtcdjgldeiaiaoaaGreatGoRpA
import Derived.Test.YtcdjgldeiaiaoaaGreatGoSch
import Derived.Test.YtcdjgldeiaiaoaaGreatGoShpN
set_option linter.unusedVariables false
set_option linter.unusedSimpArgs false
set_option maxHeartbeats 8000000
set_option maxRecDepth 20000
namespace Go.Abs
def Rep.cs (r:Rep):List V:=[.i .i64 r.me,.i .i64 r.de,.i .i64 r.du,.i .i64 r.fl,.i .i64 r.ho,.i .i64 r.iv,.i .i64 r.sh]
def Xs (m:Mesh) (r:Rep):O:=.arr 1 9 [m.cs++r.cs]
def By (P:Program) (f:FuncId) (ok:Mesh->Rep->Prop) (g:Mesh->Rep->Mesh × Rep × Int):Prop:=∀(h:List O) (id:Nat) (m:Mesh) (r:Rep),ok m r->h[id]?=some (Xs m r) ->
 ACall P f [.p id 1 0 0] h (λr' h'=>r'=.i .i64 (g m r).2.2/\h'=h.set id (Xs (g m r).1 (g m r).2.1))
theorem Ym {h l:List O} {id:Nat} (hid:id<h.length):(h++l)[id]?=h[id]?:=qd hid
theorem Yl {h l:List O} {id:Nat} (hid:id<h.length) (o:O):(h++l).set id o=h.set id o++l:=List.set_append_left _ _ hid
theorem K2 (h l:List O) (id:Nat) (o:O):(h.set id o++l)[h.length]?=l[0]?:=by
 have:=Qf (h.set id o) l
 rwa [List.length_set]at this
theorem K1 (h l:List O) (id:Nat) (o o':O):(h.set id o++l).set h.length o'=h.set id o++l.set 0 o':=by
 have:=Z2 (h.set id o) l o'
 rwa [List.length_set]at this
theorem Qd6 (m:Mesh) (r:Rep) (n:Nat):(Xs m r).cl n:=by
 simp[Xs,O.cl,Mesh.cs,Rep.cs,vsV,tsV,V.cl,V.cl1,V.cl0,vcs,tcs]
theorem Wa {h:List O} {id:Nat} {m m':Mesh} {r r':Rep} {l:List O} {e:Int} (hcl:∀n,h.length<=n->∀o∈h,o.cl n) :
  WeakH (h.set id (Xs m r)).length (h.set id (Xs m r)++l) (h.set id (Xs m r)):=by
 have:=Zc (n:=(h.set id (Xs m r)).length) (a:=l) (b:=[]) (h:=h.set id (Xs m r)) (λo ho=>by
  rcases List.mem_or_eq_of_mem_set ho with ho | rfl
  ·exact hcl _ (by rw[List.length_set];exact Nat.le_refl _) o ho
  ·exact Qd6 _ _ _) (by cases l<;>trivial)
 rwa [List.append_nil]at this
theorem Q4e (m:Mesh):0<=(Q8 m).2.1/\(Q8 m).2.1<=4096:=by
 unfold Q8
 by_cases h:m.check=0
 ·rw[if_pos h]
  have h1:=Q14 h
  have h2:=(Mesh.check_zero.1 h).1
  simp only[];omega
 ·rw[if_neg h];simp
section
variable {P:Program} (hm:P.follows .mixedOrders=true)
include hm
theorem W5 {f fo:FuncId} (hf:Qb P f (L0x.c fo) L0x.r L0x.n) (ho:Q7e P fo) :
  By P f (λ_ _=>True) (λm r=>((Zm m).1,{ r with fl:=(Zm m).2.1 },(Zm m).2.2)):=by
 intro h id m r _ hid
 refine X8 λhcl=>?_
 obtain⟨hlt,hid'⟩:=q8.1 hid
 refine Jj hm hf (qh rfl) ?_
 unfold L0x.c
 generalize hK:Ir h.length L0x.r _=K
 have ho1:=ho m
 have hjd:=λm' r' l=>Wa (id:=id) (m:=m') (r:=r') (m':=m') (r':=r') (e:=0) (l:=l) hcl
 generalize hq:Zm m=q at ho1
 obtain⟨a,b,c⟩:=q
 simp only[Xs,Mesh.cs,Rep.cs]at hid hid' hjd
 simp[go_sem,hid,hid',hlt,Qd,Qf,Z4,Z2,Ym hlt,Yl hlt]
 refine Q6 ho1 ?_
 simp[go_sem,Q43,Mesh.enc,Mesh.cs,hid,hid',hlt,Qd,Qf,Z4,Z2,Ym hlt,Yl hlt,K2,K1]
 rw[<- hK,U4]
 refine⟨[.i .i64 c],h.set id (Xs a { r with fl:=b }),?_,rfl,?_,?_,?_,hjd a { r with fl:=b } _,by simp[hq,Y6],by simp[hq]⟩
 ·simp[L0x.r,Y7,go_sem]
 ·simp[V.cl,V.cl1,V.cl0]
 ·simp
 ·simp
theorem Un {f fo:FuncId} (hf:Qb P f (L0w.c fo) L0w.r L0w.n) (ho:Qlh P fo) :
  By P f (λ_ _=>True) (λm r=>((Qy m).1,{ r with ho:=(Qy m).2.1 },(Qy m).2.2)):=by
 intro h id m r _ hid
 refine X8 λhcl=>?_
 obtain⟨hlt,hid'⟩:=q8.1 hid
 refine Jj hm hf (qh rfl) ?_
 unfold L0w.c
 generalize hK:Ir h.length L0w.r _=K
 have ho1:=ho m
 have hjd:=λm' r' l=>Wa (id:=id) (m:=m') (r:=r') (m':=m') (r':=r') (e:=0) (l:=l) hcl
 generalize hq:Qy m=q at ho1
 obtain⟨a,b,c⟩:=q
 simp only[Xs,Mesh.cs,Rep.cs]at hid hid' hjd
 simp[go_sem,hid,hid',hlt,Qd,Qf,Z4,Z2,Ym hlt,Yl hlt]
 refine Q6 ho1 ?_
 simp[go_sem,Ie,Mesh.enc,Mesh.cs,hid,hid',hlt,Qd,Qf,Z4,Z2,Ym hlt,Yl hlt,K2,K1]
 rw[<- hK,U4]
 refine⟨[.i .i64 c],h.set id (Xs a { r with ho:=b }),?_,rfl,?_,?_,?_,hjd a { r with ho:=b } _,by simp[hq,Y6],by simp[hq]⟩
 ·simp[L0w.r,Y7,go_sem]
 ·simp[V.cl,V.cl1,V.cl0]
 ·simp
 ·simp
theorem Kx {f fo:FuncId} (hf:Qb P f (L0y.c fo) L0y.r L0y.n) (ho:Q3g P fo) :
  By P f (λ_ _=>True) (λm r=>((Zz m).1,{ r with iv:=(Zz m).2.1 },(Zz m).2.2)):=by
 intro h id m r _ hid
 refine X8 λhcl=>?_
 obtain⟨hlt,hid'⟩:=q8.1 hid
 refine Jj hm hf (qh rfl) ?_
 unfold L0y.c
 generalize hK:Ir h.length L0y.r _=K
 have ho1:=ho m
 have hjd:=λm' r' l=>Wa (id:=id) (m:=m') (r:=r') (m':=m') (r':=r') (e:=0) (l:=l) hcl
 generalize hq:Zz m=q at ho1
 obtain⟨a,b,c⟩:=q
 simp only[Xs,Mesh.cs,Rep.cs]at hid hid' hjd
 simp[go_sem,hid,hid',hlt,Qd,Qf,Z4,Z2,Ym hlt,Yl hlt]
 refine Q6 ho1 ?_
 simp[go_sem,Q43,Mesh.enc,Mesh.cs,hid,hid',hlt,Qd,Qf,Z4,Z2,Ym hlt,Yl hlt,K2,K1]
 rw[<- hK,U4]
 refine⟨[.i .i64 c],h.set id (Xs a { r with iv:=b }),?_,rfl,?_,?_,?_,hjd a { r with iv:=b } _,by simp[hq,Y6],by simp[hq]⟩
 ·simp[L0y.r,Y7,go_sem]
 ·simp[V.cl,V.cl1,V.cl0]
 ·simp
 ·simp
theorem U9 {f fo:FuncId} (hf:Qb P f (L0v.c fo) L0v.r L0v.n) (ho:Qcd P fo) :
  By P f (λ_ _=>True) (λm r=>((Qc m).1,{ r with de:=(Qc m).2.1,du:=(Qc m).2.2.1 },(Qc m).2.2.2)):=by
 intro h id m r _ hid
 refine X8 λhcl=>?_
 obtain⟨hlt,hid'⟩:=q8.1 hid
 refine Jj hm hf (qh rfl) ?_
 unfold L0v.c
 generalize hK:Ir h.length L0v.r _=K
 have ho1:=ho m
 have hjd:=λm' r' l=>Wa (id:=id) (m:=m') (r:=r') (m':=m') (r':=r') (e:=0) (l:=l) hcl
 generalize hq:Qc m=q at ho1
 obtain⟨a,b,b2,c⟩:=q
 simp only[Xs,Mesh.cs,Rep.cs]at hid hid' hjd
 simp[go_sem,hid,hid',hlt,Qd,Qf,Z4,Z2,Ym hlt,Yl hlt]
 refine Q6 ho1 ?_
 simp[go_sem,Q70,Mesh.enc,Mesh.cs,hid,hid',hlt,Qd,Qf,Z4,Z2,Ym hlt,Yl hlt,K2,K1]
 rw[<- hK,U4]
 refine⟨[.i .i64 c],h.set id (Xs a { r with de:=b,du:=b2 }),?_,rfl,?_,?_,?_,hjd a { r with de:=b,du:=b2 } _,by simp[hq,Y6],by simp[hq]⟩
 ·simp[L0v.r,Y7,go_sem]
 ·simp[V.cl,V.cl1,V.cl0]
 ·simp
 ·simp
theorem Um {f fo:FuncId} (hf:Qb P f (L0z.c fo) L0z.r L0z.n) (ho:Qki P fo) :
  By P f (λ_ r=>0<=r.me/\r.me<=1000000) (λm r=>((Q8 m).1,{ r with me:=r.me+(Q8 m).2.1 },(Q8 m).2.2)):=by
 intro h id m r hok hid
 refine X8 λhcl=>?_
 obtain⟨hlt,hid'⟩:=q8.1 hid
 refine Jj hm hf (qh rfl) ?_
 unfold L0z.c
 generalize hK:Ir h.length L0z.r _=K
 have ho1:=ho m
 have hjd:=λm' r' l=>Wa (id:=id) (m:=m') (r:=r') (m':=m') (r':=r') (e:=0) (l:=l) hcl
 have hbd:=Q4e m
 generalize hq:Q8 m=q at ho1 hbd
 obtain⟨a,b,c⟩:=q
 have hw64:IntKind.i64.wrap (r.me+b)=r.me+b:=Q3 (by simp only[]at hbd;omega) (by simp only[]at hbd;omega)
 simp only[Xs,Mesh.cs,Rep.cs]at hid hid' hjd
 simp[go_sem,hid,hid',hlt,Qd,Qf,Z4,Z2,Ym hlt,Yl hlt]
 refine Q6 ho1 ?_
 simp[go_sem,Qch,hw64,Mesh.enc,Mesh.cs,hid,hid',hlt,Qd,Qf,Z4,Z2,Ym hlt,Yl hlt,K2,K1]
 rw[<- hK,U4]
 refine⟨[.i .i64 c],h.set id (Xs a { r with me:=r.me+b }),?_,rfl,?_,?_,?_,hjd a { r with me:=r.me+b } _,by simp[hq,Y6],by simp[hq]⟩
 ·simp[L0z.r,Y7,go_sem]
 ·simp[V.cl,V.cl1,V.cl0]
 ·simp
 ·simp
theorem Ua {f fs fc:FuncId} (hf:Qb P f (L0u.c fs fc) L0u.r L0u.n) (hs:Iq P fs) (hc:ChkC P fc) :
  By P f (λ_ _=>True) (λm r=>(m,{ r with sh:=(m.shells.length:Int) },Jy m)):=by
 intro h id m r _ hid
 obtain⟨hlt,hid'⟩:=q8.1 hid
 refine Bp hm hf (qh rfl) ?_
 unfold L0u.c
 have hs1:=hs m
 have hc1:=hc m
 simp only[Xs,Mesh.cs,Rep.cs]at hid hid'
 simp[go_sem,hid,hid',hlt]
 refine Q6 hs1 ?_
 simp[go_sem,lsV,hid,hid',hlt]
 refine Q6 hc1 ?_
 simp[go_sem,L0u.r,Xs,Mesh.cs,Rep.cs]
end
def Qag (p:Mesh × Rep × Int):V:=.t [p.1.enc,.a p.2.1.cs,.i .i64 p.2.2]
def RepC (P:Program) (f:FuncId):Prop:=∀m:Mesh,CallIs P f [m.enc] (Qag (Jm m))
theorem repV_no (e:Int):Le (.t [.a [.nil,.nil],.a Rep.zero.cs,.i .i64 e]) (Qag (Z0,Rep.zero,e)) :=
 .inr ⟨_,_,rfl,rfl,.inr ⟨_,_,rfl,rfl,Le0.nil 3,Le0.nil 3,trivial⟩,Le1.refl _,Le1.refl _,trivial⟩
noncomputable def Wb:Nat->Mesh->Rep->Mesh × Rep × Int
 | 0=>λm r=>((Q8 m).1,{ r with me:=r.me+(Q8 m).2.1 },(Q8 m).2.2)
 | 1=>λm r=>((Qc m).1,{ r with de:=(Qc m).2.1,du:=(Qc m).2.2.1 },(Qc m).2.2.2)
 | 2=>λm r=>((Q8 m).1,{ r with me:=r.me+(Q8 m).2.1 },(Q8 m).2.2)
 | 3=>λm r=>((Zm m).1,{ r with fl:=(Zm m).2.1 },(Zm m).2.2)
 | 4=>λm r=>((Qy m).1,{ r with ho:=(Qy m).2.1 },(Qy m).2.2)
 | 5=>λm r=>((Zz m).1,{ r with iv:=(Zz m).2.1 },(Zz m).2.2)
 | _=>λm r=>(m,{ r with sh:=(m.shells.length:Int) },Jy m)
noncomputable def Qg (m:Mesh):Nat->Mesh × Rep
 | 0=>(m,Rep.zero)
 | k+1=>((Wb k (Qg m k).1 (Qg m k).2).1,(Wb k (Qg m k).1 (Qg m k).2).2.1)
noncomputable def Xi (m:Mesh) (k:Nat):Int:=(Wb k (Qg m k).1 (Qg m k).2).2.2
theorem jobG_me (k:Nat) (m:Mesh) (r:Rep):(Wb k m r).2.1.me=r.me∨(Wb k m r).2.1.me=r.me+(Q8 m).2.1:=by
 match k with
 | 0=>exact .inr rfl
 | 1=>exact .inl rfl
 | 2=>exact .inr rfl
 | 3=>exact .inl rfl
 | 4=>exact .inl rfl
 | 5=>exact .inl rfl
 | k+6=>exact .inl rfl
theorem Z1 (m:Mesh) (k:Nat):Qg m (k+1)=((Wb k (Qg m k).1 (Qg m k).2).1,(Wb k (Qg m k).1 (Qg m k).2).2.1):=rfl
theorem Qd5 (m:Mesh):∀k:Nat,0<=(Qg m k).2.me/\(Qg m k).2.me<=4096*k
 | 0=>by simp[Qg,Rep.zero]
 | k+1=>by
   have ih:=Qd5 m k
   have hw:=Q4e (Qg m k).1
   have hg:=jobG_me k (Qg m k).1 (Qg m k).2
   rw[Z1]
   simp only[]
   omega
theorem Ke (m:Mesh) (k:Nat):Xi m k=(Wb k (Qg m k).1 (Qg m k).2).2.2:=rfl
theorem jM0 (m:Mesh):(Qg m 0).1=m:=rfl
theorem jM1 (m:Mesh):(Qg m 1).1=(Q8 m).1:=by
 have h:(Qg m (0+1)).1=(Q8 (Qg m 0).1).1:=by
  rw[Z1];generalize Qg m 0=s;rfl
 rw[show 1=0+1 from rfl,h,jM0]
theorem jM2 (m:Mesh):(Qg m 2).1=(Qc (Q8 m).1).1:=by
 have h:(Qg m (1+1)).1=(Qc (Qg m 1).1).1:=by
  rw[Z1];generalize Qg m 1=s;rfl
 rw[show 2=1+1 from rfl,h,jM1]
theorem jM3 (m:Mesh):(Qg m 3).1=(Q8 (Qc (Q8 m).1).1).1:=by
 have h:(Qg m (2+1)).1=(Q8 (Qg m 2).1).1:=by
  rw[Z1];generalize Qg m 2=s;rfl
 rw[show 3=2+1 from rfl,h,jM2]
theorem jM4 (m:Mesh):(Qg m 4).1=(Zm (Q8 (Qc (Q8 m).1).1).1).1:=by
 have h:(Qg m (3+1)).1=(Zm (Qg m 3).1).1:=by
  rw[Z1];generalize Qg m 3=s;rfl
 rw[show 4=3+1 from rfl,h,jM3]
theorem jM5 (m:Mesh):(Qg m 5).1=(Qy (Zm (Q8 (Qc (Q8 m).1).1).1).1).1:=by
 have h:(Qg m (4+1)).1=(Qy (Qg m 4).1).1:=by
  rw[Z1];generalize Qg m 4=s;rfl
 rw[show 5=4+1 from rfl,h,jM4]
theorem jM6 (m:Mesh):(Qg m 6).1=(Zz (Qy (Zm (Q8 (Qc (Q8 m).1).1).1).1).1).1:=by
 have h:(Qg m (5+1)).1=(Zz (Qg m 5).1).1:=by
  rw[Z1];generalize Qg m 5=s;rfl
 rw[show 6=5+1 from rfl,h,jM5]
theorem jM7 (m:Mesh):(Qg m 7).1=(Zz (Qy (Zm (Q8 (Qc (Q8 m).1).1).1).1).1).1:=by
 have h:(Qg m (6+1)).1=(Qg m 6).1:=by
  rw[Z1];generalize Qg m 6=s;rfl
 rw[show 7=6+1 from rfl,h,jM6]
theorem jE0 (m:Mesh):Xi m 0=(Q8 m).2.2:=by
 have h:Xi m 0=(Q8 (Qg m 0).1).2.2:=by
  rw[Ke];generalize Qg m 0=s;rfl
 rw[h,jM0]
theorem jE1 (m:Mesh):Xi m 1=(Qc (Q8 m).1).2.2.2:=by
 have h:Xi m 1=(Qc (Qg m 1).1).2.2.2:=by
  rw[Ke];generalize Qg m 1=s;rfl
 rw[h,jM1]
theorem jE2 (m:Mesh):Xi m 2=(Q8 (Qc (Q8 m).1).1).2.2:=by
 have h:Xi m 2=(Q8 (Qg m 2).1).2.2:=by
  rw[Ke];generalize Qg m 2=s;rfl
 rw[h,jM2]
theorem jE3 (m:Mesh):Xi m 3=(Zm (Q8 (Qc (Q8 m).1).1).1).2.2:=by
 have h:Xi m 3=(Zm (Qg m 3).1).2.2:=by
  rw[Ke];generalize Qg m 3=s;rfl
 rw[h,jM3]
theorem jE4 (m:Mesh):Xi m 4=(Qy (Zm (Q8 (Qc (Q8 m).1).1).1).1).2.2:=by
 have h:Xi m 4=(Qy (Qg m 4).1).2.2:=by
  rw[Ke];generalize Qg m 4=s;rfl
 rw[h,jM4]
theorem jE5 (m:Mesh):Xi m 5=(Zz (Qy (Zm (Q8 (Qc (Q8 m).1).1).1).1).1).2.2:=by
 have h:Xi m 5=(Zz (Qg m 5).1).2.2:=by
  rw[Ke];generalize Qg m 5=s;rfl
 rw[h,jM5]
theorem jE6 (m:Mesh):Xi m 6=Jy (Zz (Qy (Zm (Q8 (Qc (Q8 m).1).1).1).1).1).1:=by
 have h:Xi m 6=Jy (Qg m 6).1:=by
  rw[Ke];generalize Qg m 6=s;rfl
 rw[h,jM6]
theorem jR0 (m:Mesh):(Qg m 0).2=Rep.zero:=rfl
theorem jR1 (m:Mesh):(Qg m 1).2=⟨0+(Q8 m).2.1,0,0,0,0,0,0⟩:=by
 have h:(Qg m (0+1)).2={ (Qg m 0).2 with me:=(Qg m 0).2.me+(Q8 (Qg m 0).1).2.1 }:=by
  rw[Z1];generalize Qg m 0=s;rfl
 rw[show 1=0+1 from rfl,h,jM0,jR0];rfl
theorem jR2 (m:Mesh):(Qg m 2).2=⟨0+(Q8 m).2.1,(Qc (Q8 m).1).2.1,(Qc (Q8 m).1).2.2.1,0,0,0,0⟩:=by
 have h:(Qg m (1+1)).2={ (Qg m 1).2 with de:=(Qc (Qg m 1).1).2.1,du:=(Qc (Qg m 1).1).2.2.1 }:=by
  rw[Z1];generalize Qg m 1=s;rfl
 rw[show 2=1+1 from rfl,h,jM1,jR1]
theorem jR3 (m:Mesh):(Qg m 3).2=⟨0+(Q8 m).2.1+(Q8 (Qc (Q8 m).1).1).2.1,(Qc (Q8 m).1).2.1,(Qc (Q8 m).1).2.2.1,0,0,0,0⟩:=by
 have h:(Qg m (2+1)).2={ (Qg m 2).2 with me:=(Qg m 2).2.me+(Q8 (Qg m 2).1).2.1 }:=by
  rw[Z1];generalize Qg m 2=s;rfl
 rw[show 3=2+1 from rfl,h,jM2,jR2]
theorem jR4 (m:Mesh):(Qg m 4).2=⟨0+(Q8 m).2.1+(Q8 (Qc (Q8 m).1).1).2.1,(Qc (Q8 m).1).2.1,(Qc (Q8 m).1).2.2.1,(Zm (Q8 (Qc (Q8 m).1).1).1).2.1,0,0,0⟩:=by
 have h:(Qg m (3+1)).2={ (Qg m 3).2 with fl:=(Zm (Qg m 3).1).2.1 }:=by
  rw[Z1];generalize Qg m 3=s;rfl
 rw[show 4=3+1 from rfl,h,jM3,jR3]
theorem jR5 (m:Mesh):(Qg m 5).2=⟨0+(Q8 m).2.1+(Q8 (Qc (Q8 m).1).1).2.1,(Qc (Q8 m).1).2.1,(Qc (Q8 m).1).2.2.1,(Zm (Q8 (Qc (Q8 m).1).1).1).2.1,(Qy (Zm (Q8 (Qc (Q8 m).1).1).1).1).2.1,0,0⟩:=by
 have h:(Qg m (4+1)).2={ (Qg m 4).2 with ho:=(Qy (Qg m 4).1).2.1 }:=by
  rw[Z1];generalize Qg m 4=s;rfl
 rw[show 5=4+1 from rfl,h,jM4,jR4]
theorem jR6 (m:Mesh):(Qg m 6).2=⟨0+(Q8 m).2.1+(Q8 (Qc (Q8 m).1).1).2.1,(Qc (Q8 m).1).2.1,(Qc (Q8 m).1).2.2.1,(Zm (Q8 (Qc (Q8 m).1).1).1).2.1,(Qy (Zm (Q8 (Qc (Q8 m).1).1).1).1).2.1,(Zz (Qy (Zm (Q8 (Qc (Q8 m).1).1).1).1).1).2.1,0⟩:=by
 have h:(Qg m (5+1)).2={ (Qg m 5).2 with iv:=(Zz (Qg m 5).1).2.1 }:=by
  rw[Z1];generalize Qg m 5=s;rfl
 rw[show 6=5+1 from rfl,h,jM5,jR5]
theorem jR7 (m:Mesh):(Qg m 7).2=⟨0+(Q8 m).2.1+(Q8 (Qc (Q8 m).1).1).2.1,(Qc (Q8 m).1).2.1,(Qc (Q8 m).1).2.2.1,(Zm (Q8 (Qc (Q8 m).1).1).1).2.1,(Qy (Zm (Q8 (Qc (Q8 m).1).1).1).1).2.1,(Zz (Qy (Zm (Q8 (Qc (Q8 m).1).1).1).1).1).2.1,((Zz (Qy (Zm (Q8 (Qc (Q8 m).1).1).1).1).1).1.shells.length:Int)⟩:=by
 have h:(Qg m (6+1)).2={ (Qg m 6).2 with sh:=((Qg m 6).1.shells.length:Int) }:=by
  rw[Z1];generalize Qg m 6=s;rfl
 rw[show 7=6+1 from rfl,h,jM6,jR6]
theorem Qhq {m:Mesh} {j:Nat} (hj:j<7) (h:∀i,i<j->Xi m i=0) (he:Xi m j≠0):Jm m=(Z0,Rep.zero,Xi m j):=by
 unfold Jm
 simp only[]
 by_cases g0:Xi m 0=0
 case neg =>
  have:j=0:=j7 λhh=>g0 (h 0 (by omega))
  subst this;rw[jE0]at g0 ⊢;rw[if_pos g0]
 rw[jE0]at g0;rw[if_neg (by simpa using g0)]
 by_cases g1:Xi m 1=0
 case neg =>
  have:j=1:=by
   have a:¬ j=0:=by rintro rfl;rw[jE0]at he;exact he g0
   exact j7 λhh=>g1 (h 1 (by omega))
  subst this;rw[jE1]at g1 ⊢;rw[if_pos g1]
 rw[jE1]at g1;rw[if_neg (by simpa using g1)]
 by_cases g2:Xi m 2=0
 case neg =>
  have:j=2:=by
   have a0:¬ j=0:=by rintro rfl;rw[jE0]at he;exact he g0
   have a1:¬ j=1:=by rintro rfl;rw[jE1]at he;exact he g1
   exact j7 λhh=>g2 (h 2 (by omega))
  subst this;rw[jE2]at g2 ⊢;rw[if_pos g2]
 rw[jE2]at g2;rw[if_neg (by simpa using g2)]
 have a0:¬ j=0:=by rintro rfl;rw[jE0]at he;exact he g0
 have a1:¬ j=1:=by rintro rfl;rw[jE1]at he;exact he g1
 have a2:¬ j=2:=by rintro rfl;rw[jE2]at he;exact he g2
 by_cases g3:Xi m 3=0
 case neg =>
  have:j=3:=j7 λhh=>g3 (h 3 (by omega))
  subst this;rw[jE3]at g3 ⊢;rw[if_pos g3]
 rw[jE3]at g3;rw[if_neg (by simpa using g3)]
 have a3:¬ j=3:=by rintro rfl;rw[jE3]at he;exact he g3
 by_cases g4:Xi m 4=0
 case neg =>
  have:j=4:=j7 λhh=>g4 (h 4 (by omega))
  subst this;rw[jE4]at g4 ⊢;rw[if_pos g4]
 rw[jE4]at g4;rw[if_neg (by simpa using g4)]
 have a4:¬ j=4:=by rintro rfl;rw[jE4]at he;exact he g4
 by_cases g5:Xi m 5=0
 case neg =>
  have:j=5:=j7 λhh=>g5 (h 5 (by omega))
  subst this;rw[jE5]at g5 ⊢;rw[if_pos g5]
 rw[jE5]at g5;rw[if_neg (by simpa using g5)]
 have a5:¬ j=5:=by rintro rfl;rw[jE5]at he;exact he g5
 obtain rfl:j=6:=by omega
 rw[jE6]at he ⊢
 rw[if_pos he]
theorem Qel {m:Mesh} (g:∀i,i<7->Xi m i=0):Jm m=((Qg m 7).1,(Qg m 7).2,0):=by
 have h0:=g 0 (by omega);have h1:=g 1 (by omega);have h2:=g 2 (by omega);have h3:=g 3 (by omega);have h4:=g 4 (by omega);have h5:=g 5 (by omega);have h6:=g 6 (by omega)
 rw[jE0]at h0;rw[jE1]at h1;rw[jE2]at h2;rw[jE3]at h3;rw[jE4]at h4;rw[jE5]at h5;rw[jE6]at h6
 rw[jM7,jR7]
 unfold Jm
 simp only[]
 rw[if_neg (by simpa using h0),if_neg (by simpa using h1),if_neg (by simpa using h2),if_neg (by simpa using h3),if_neg (by simpa using h4),if_neg (by simpa using h5),if_neg (by simpa using h6),Int.zero_add]
def jobF (fw fc fo ff fu fk:FuncId):Nat->FuncId
 | 0=>fw
 | 1=>fc
 | 2=>fw
 | 3=>fo
 | 4=>ff
 | 5=>fu
 | _=>fk
def Qb4 (fw fc fo ff fu fk:FuncId):List (List V):=[[.f fw []],[.f fc []],[.f fw []],[.f fo []],[.f ff []],[.f fu []],[.f fk []]]
theorem Qiq (fw fc fo ff fu fk:FuncId) {k:Nat} (h:k<7):(Qb4 fw fc fo ff fu fk)[k]?=some [.f (jobF fw fc fo ff fu fk k) []]:=by
 match k,h with
 | 0,_=>rfl
 | 1,_=>rfl
 | 2,_=>rfl
 | 3,_=>rfl
 | 4,_=>rfl
 | 5,_=>rfl
 | 6,_=>rfl
def okJ (_:Mesh) (r:Rep):Prop:=0<=r.me/\r.me<=1000000
noncomputable def Qem (p:Mesh × Rep × Int):V:=if p.2.2=0 then Qag p else .t [.a [.nil,.nil],.a Rep.zero.cs,.i .i64 p.2.2]
theorem repN_le (m:Mesh):Le (Qem (Jm m)) (Qag (Jm m)):=by
 rcases Qah m with⟨h,h2⟩ | ⟨h,_⟩
 ·unfold Qem
  rw[if_neg h]
  have h3:=repV_no (Jm m).2.2
  rw[<- h2]at h3
  exact h3
 ·unfold Qem
  rw[if_pos h]
  exact Le.refl _
section
variable {P:Program} (hm:P.follows .mixedOrders=true)
include hm
theorem B6 {f fw fc fo ff fu fk:FuncId} (hf:Qb P f (L0s.c fw fc fo ff fu fk) L0s.r L0s.n)
  (hj:∀k,k<7->Zf P (jobF fw fc fo ff fu fk k)=true/\By P (jobF fw fc fo ff fu fk k) okJ (Wb k)):RepC P f:=by
 intro m
 refine CallIs.res (r:=Qem (Jm m)) ?_ (repN_le m)
 refine PureC.is (Q9 hm hf (qh rfl) ?_) rfl
 unfold L0s.c
 have hget:=λk (h:k<7)=>Qiq fw fc fo ff fu fk h
 have hL:∀a,a=Qb4 fw fc fo ff fu fk->a.length=7:=λa h=>by rw[h];rfl
 simp[go_sem,Mesh.enc,Mesh.cs]
 refine Ql (α:=Nat) (λk=>k<=7/\∀i,i<k->Xi m i=0)
  (λk=>⟨[(2,.p 1 1 0 0),(3,.p 2 1 0 0),(6,.p 4 1 0 0),(14,.own 3 1 0 7),(15,.i .i64 7),(16,.i .i64 k)],
   [.arr 1 2 [m.cs],.arr 1 2 [[.nil,.nil]],.arr 1 7 [Rep.zero.cs],.arr 1 1 (Qb4 fw fc fo ff fu fk),Xs (Qg m k).1 (Qg m k).2]⟩)
  (λk=>7-k) 0 ⟨Nat.zero_le _,by simp⟩ ?_ ?_
 ·simp[go_sem,Qg,Xs,Qb4,Mesh.cs,Rep.cs,Rep.zero,vsV,tsV]
 ·rintro k ⟨hk,hno⟩
  by_cases hkl:k=7
  ·subst hkl
   rw[Qel hno]
   simp[go_sem,Xs,L0s.r,Qem,Qag,Mesh.cs,Rep.cs,Mesh.enc,vsV,tsV,Jn,X0]
  ·have hlt:k<7:=by omega
   obtain⟨hcal,hjob⟩:=hj k hlt
   have hg:=hget k hlt
   have hme:=Qd5 m k
   have hlt7:(k:Int)<7:=by omega
   have hlen:(Qb4 fw fc fo ff fu fk).length=7:=rfl
   generalize hjl:Qb4 fw fc fo ff fu fk=JL at *
   obtain⟨_,hg'⟩:=q8.1 hg
   simp[go_sem,hlt,hlt7,hg,hg']
   refine⟨hcal,(hjob [.arr 1 2 [m.cs],.arr 1 2 [[.nil,.nil]],.arr 1 7 [Rep.zero.cs],.arr 1 1 JL,Xs (Qg m k).1 (Qg m k).2] 4 _ _ ⟨hme.1,by omega⟩ rfl).mono ?_⟩
   rintro r h' ⟨rfl,rfl⟩
   by_cases he:Xi m k=0
   ·simp[go_sem,show (Wb k (Qg m k).1 (Qg m k).2).2.2=0 from he,hlt,Q3]
    refine⟨k+1,⟨by omega,λi hi=>?_⟩,by omega,by rw[Q3 (by omega) (by omega)];omega,λx hx=>?_,λx hx=>?_,λel hel x hx=>?_,.inr ⟨by rw[Z1],Qd6 _ _ 5⟩⟩
    ·by_cases hik:i=k
     ·subst hik;exact he
     ·exact hno i (by omega)
    ·simp[Mesh.cs]at hx
     rcases hx with rfl | rfl<;>rfl
    ·simp[Rep.cs,Rep.zero]at hx
     subst hx;rfl
    ·rw[<- hjl]at hel
     simp[Qb4]at hel
     rcases hel with rfl | rfl | rfl | rfl | rfl | rfl | rfl<;>(simp at hx;subst hx;rfl)
   ·rw[Qhq hlt hno he]
    simp[go_sem,show ¬ (Wb k (Qg m k).1 (Qg m k).2).2.2=0 from he,L0s.r,Qem,Rep.zero,Rep.cs]
    rw[if_neg he];rfl
end
def L06.c (L10 L07 L0s L0q:FuncId):C :=(.seq (.reg [Au 3 (.box (.t 0)),Ab 6 false]) (.seq (.reg [Au 16 (.build [(.i .i64 0),(.i .i64 0),(.i .i64 0)] []),Ag 17 3 3,Au 18 (.call L10 [.t 16,.t 17]),Am 15 18,Ax1 19 0 15,Ax1 20 1 15,Au 7 (.alloc [.nil,.nil]),As 2 7 19,Am 8 20]) (.seq (.seq (.reg [Am 21 8,Ak .neq 22 21 0]) (.ite (.t 22) (.seq (.reg [Au 23 (.call L07 []),Am 6 23]) .ret) .skip)) (.seq (.reg [Az 9]) (.seq (.seq (.reg [Ac 10 0]) (.blk 0 (.loop (.seq (.seq (.reg [Am 24 10,Af 25 1 7,Al 26 25,An 27 0 26,Aj .lss 28 24 27]) (.ite (.t 28) .skip (.exit 0))) (.seq (.blk 1 (.seq (.reg [Af 31 1 7,
 Al 32 31,Am 33 10,Ai 34 3 32 33,Ag 35 3 34,Au 11 (.alloc [(.i .i64 0),(.i .i64 0),(.i .i64 0)]),As 3 11 35]) (.seq (.seq (.reg [Am 36 10,Am 37 1,An 38 0 37,Aj .lss 39 36 38,Am 40 39,Av 41 40 (.mv (.t 1)),Av 42 40 (.mv (.t 10)),Av 43 40 (.ia 1 (.t 41) (.t 42)),Av 44 40 (.ld none (.t 43)),Ap 45 40 44]) (.ite (.t 45) (.reg [Af 46 0 11,Al 47 46,Af 48 2 11,Al 49 48,Af 50 1 11,Al 51 50,Au 52 (.build [(.i .i64 0),(.i .i64 0),(.i .i64 0)] [(0,1,(.t 47)),(1,1,(.t 49)),(2,1,(.t 51))]),As 3 11 52]) .skip)) (.seq (.reg [Am 53 10,Am 54 2,Aj .neq 55 53 54]) (.ite (.t 55) (.reg [Am 56 9,Ag 57 3 11,Au 58 (.bsi 3 1 [(.i .i64 0),(.i .i64 0),(.i .i64 0)] [(0,(.t 57))]),
 Au 59 (.app 3 24 (.t 56) (.t 58)),Am 9 59]) .skip))))) (.reg [Am 29 10,Ad 30 29 1,Am 10 30])))))) (.seq (.reg [Af 61 0 7,Al 62 61,Am 63 9,Au 64 (.build [.nil,.nil] [(0,1,(.t 62)),(1,1,(.t 63))]),Au 65 (.call L0s [.t 64]),Am 60 65,Ax1 66 0 60,Ax1 67 1 60,Ax1 68 2 60,Au 12 (.alloc [.nil,.nil]),Au 13 (.alloc [(.i .i64 0),(.i .i64 0),(.i .i64 0),(.i .i64 0),(.i .i64 0),(.i .i64 0),(.i .i64 0)]),As 2 12 66,As 7 13 67,Am 14 68]) (.seq (.drw [Af 69 1 7,Al 70 69,An 71 0 70,Ak .eql 72 71 12,Am 73 72,Av 74 73 (.mv (.t 14)),Av 75 73 (.bin .eql (.t 74) (.c (.i .i64 0))),Ap 76 73 75,Am 77 76,Av 78 77 (.fa 6 (.t 13)),
 Av 79 77 (.ld none (.t 78)),Av 80 77 (.bin .eql (.t 79) (.c (.i .i64 1))),Ap 81 77 80,Am 82 81,Av 83 82 (.ld (some 2) (.t 12)),Av 84 82 (.call L0q [.t 83]),Av 85 82 (.fa 0 (.t 3)),Av 86 82 (.ld none (.t 85)),Av 87 82 (.bin .mul (.c (.i .i64 6)) (.t 86)),Av 88 82 (.fa 1 (.t 3)),Av 89 82 (.ld none (.t 88)),Av 90 82 (.bin .mul (.t 87) (.t 89)),Av 91 82 (.fa 2 (.t 3)),Av 92 82 (.ld none (.t 91)),Av 93 82 (.bin .mul (.t 90) (.t 92)),Av 94 82 (.bin .eql (.t 84) (.t 93)),Ap 95 82 94,Am 96 95,Av 97 96 (.fa 1 (.t 12)),Av 98 96 (.ld none (.t 97)),Av 99 96 (.len 0 (.t 98)),Av 100 96 (.bin .eql (.t 99) (.c (.i .i64 12))),
 Ap 101 96 100,Am 102 101,Av 103 102 (.call L07 []),Ap 104 102 103,Am 6 104] [[],[],[],[],[],[],[],[],[],[],[],[],[],[],[],[],[15],[15],[],[15],[15],[],[15],[15],[],[],[],[],[],[],[],[],[],[],[],[],[]]) .ret)))))))
def L06.r:List Rr:=[.tmp 6]
abbrev L06.n:Nat:=105
theorem snd_nil:Snd ⟨[],[]⟩:=by
 have hz:(Mesh.mk [] []).check=0:=Mesh.check_zero.2 ⟨by simp,by simp,rfl,rfl⟩
 have hb:(Mesh.mk [] []).border=[]:=(Qby hz).2 λe=>rfl
 refine⟨hz,by unfold Mesh.closed;rw[hz,hb];rfl,λi j e hi=>by simp at hi,by simp,λsh hs=>?_⟩
 have:=(Wu hz).num
 have hs0:(Mesh.mk [] []).shells=[]:=qm (by simpa using this)
 rw[hs0]at hs;simp at hs
theorem Q9h:Jy ⟨[],[]⟩=0:=snd_iff.2 snd_nil
def W2 (v:List V3):Mesh:=⟨v,[⟨0,1,2⟩]⟩
theorem Q1g {a b c:V3} (h:Jq [a,b,c]=true):(W2 [a,b,c]).check=0 :=
 Mesh.check_zero.2 ⟨by simp[W2],by simp[W2],h,rfl⟩
theorem Qk7 {a b c:V3} (h:Jq [a,b,c]=true):Jy (W2 [a,b,c])=12:=by
 have hz:=Q1g h
 refine Qk8 hz ?_
 cases hc:(W2 [a,b,c]).closed with
 | false=>rfl
 | true =>
   have h2:Clo [⟨0,1,2⟩]:=(Q38 hc).2
   exact absurd (h2 ⟨0,1⟩ (by decide)) (by decide)
theorem Qhp:Jm (W2 [⟨0,0,0⟩,⟨1,0,0⟩,⟨2,0,0⟩])=(⟨[],[]⟩,⟨3,1,0,0,0,0,0⟩,0):=by
 have hz:=Q1g (a:=⟨0,0,0⟩) (b:=⟨1,0,0⟩) (c:=⟨2,0,0⟩) (by decide)
 have hw:Wld (W2 [⟨0,0,0⟩,⟨1,0,0⟩,⟨2,0,0⟩]):=⟨by simp[W2,V3.lt],by simp[W2,Mesh.cor,Mesh.v]⟩
 have h1:=hw.weld hz
 have h2:Qc (W2 [⟨0,0,0⟩,⟨1,0,0⟩,⟨2,0,0⟩])=(⟨[⟨0,0,0⟩,⟨1,0,0⟩,⟨2,0,0⟩],[]⟩,1,0,0):=by
  unfold Qc
  rw[if_pos hz]
  have hc:Z6 (W2 [⟨0,0,0⟩,⟨1,0,0⟩,⟨2,0,0⟩]).deg (W2 [⟨0,0,0⟩,⟨1,0,0⟩,⟨2,0,0⟩]).tris=⟨[],1,0⟩:=by
   have h:=Wj (W2 [⟨0,0,0⟩,⟨1,0,0⟩,⟨2,0,0⟩]).deg [] ⟨0,1,2⟩
   have hd:(W2 [⟨0,0,0⟩,⟨1,0,0⟩,⟨2,0,0⟩]).deg ⟨0,1,2⟩=true:=by decide
   exact h.trans (by unfold Cl.step;rw[hd];rfl)
  unfold Mesh.cleanM
  rw[hc];rfl
 have hz2:(Mesh.mk [⟨0,0,0⟩,⟨1,0,0⟩,⟨2,0,0⟩] []).check=0:=Mesh.check_zero.2 ⟨by simp,by simp,by decide,rfl⟩
 have h3:Q8 (Mesh.mk [⟨0,0,0⟩,⟨1,0,0⟩,⟨2,0,0⟩] [])=(⟨[],[]⟩,3,0):=by
  unfold Q8 Mesh.weldM
  rw[if_pos hz2]
  have hv:(Mesh.mk [⟨0,0,0⟩,⟨1,0,0⟩,⟨2,0,0⟩] []).wverts=[]:=by
   refine List.eq_nil_iff_forall_not_mem.2 λv hv=>?_
   obtain⟨t,ht,_⟩:=mem_wverts.1 hv
   simp at ht
  rw[hv];rfl
 unfold Jm
 simp only[h1,h2,h3,snd_nil.orient,snd_nil.fill,snd_nil.outw,Q9h,ne_eq,not_true_eq_false,if_false]
 have:=(Wu snd_nil.z).num
 have hs0:(Mesh.mk [] []).shells=[]:=qm (by simpa using this)
 rw[hs0];rfl
def V.sca1:V->Bool
 | .nil | .l _ []=>true
 | v=>v.scal1
def V.sca:V->Bool
 | .t vs=>vs.all fun | .a cs=>cs.all V.sca1 | v=>v.scal1
 | _=>false
theorem sca1_ok {J J':Nat->Prop} {m m':List Ent} {w w':World} {v:V} {c:Value} (hs:v.sca1=true) (h:RC J m w v c):RC J' m' w' v c:=by
 by_cases h1:v.scal1=true
 ·exact Es h1 h
 ·cases v
  case nil =>
   have h:RD J w .nil c:=h
   cases h with
   | nil0=>exact Qn .nil0
   | nil1 a=>exact Qn (.nil1 a)
  case l sz els =>
   cases els with
   | nil =>
     have h:RD J w (.l sz []) c:=h
     have:RD J' w' (.l sz []) c:=by
      cases h with
      | l0 _=>exact .l0 sz
      | l1 _ a cap=>exact .l1 sz a cap
      | l _ _ a cap cs hj hc hsz hcell hr=>exact .l1 sz a cap
     exact Qn this
   | cons a b=>simp[V.sca1,V.scal1]at hs
  all_goals exact absurd hs h1
theorem sca_ok {J J':Nat->Prop} {m m':List Ent} {w w':World} {v:V} {c:Value} (hs:v.sca=true) (h:RV J m w v c):RV J' m' w' v c:=by
 cases v
 case t vs =>
  obtain⟨arr,rfl,hp⟩:=h
  refine⟨arr,rfl,hp.1,λi v c hv hc=>?_⟩
  have h1:=qj.1 hs v (qb hv)
  have h2:=hp.2 i v c hv hc
  cases v
  case a cs =>
   obtain⟨arr,rfl,hq⟩:=h2
   exact⟨arr,rfl,hq.1,λi v c hv hc=>sca1_ok (qj.1 h1 v (qb hv)) (hq.2 i v c hv hc)⟩
  all_goals first
   | (simp[V.scal1]at h1;done)
   | exact Qq (Es (J:=J) (m:=m) (w:=w) h1 h2)
 all_goals simp[V.sca]at hs
theorem Q9y {P:Program} {f:FuncId} {vs us:List V} {h:List O} {r0:V} {k:V->List O->Prop} (hu:Yq h us=some vs) (hp:CallIs P f vs r0) (hsc:r0.sca=true) (hk:k r0 h):ACall P f us h k:=by
 intro J m w cargs hr hpw
 have hpw0:Pw (RV (λk=>J k∨Js m k) [] w) vs cargs:=I8 (R:=RV J m w) (R':=RV (λk=>J k∨Js m k) [] w) (λv r c q1 q2=>Qw (Q6f hr q1 q2)) hu hpw
 refine (hp [] (λk=>J k∨Js m k) [] w cargs ⟨rfl,λk hk=>?_,by simp,by simp,by simp⟩ hpw0).mono ?_
 ·rcases hk with hk | ⟨id,e,h1,h2⟩
  ·exact hr.jlt k hk
  ·exact(hr.dis id e k h1 h2).2
 rintro e w' ⟨v,r,h',J',m',rfl,⟨rfl,rfl⟩,hv,hrs,hev,_⟩
 have hkeep:∀k,k<w.heap.size->w'.heap[k]?=w.heap[k]?:=λk hk=>(hev 0).keep k hk (by simp)
 exact⟨v,r,h,J,m,rfl,hk,sca_ok hsc hv,RS.same hr (λ_ h=>h) (λ_ h=>.inl h) (λk hk=>Nat.lt_of_lt_of_le (hr.jlt k hk) (hev 0).size) hkeep (hev 0).size,
  λn=>Ev.same (λ_ h=>h) (λ_ h=>.inl h) hkeep (hev 0).size (hev 0).os (hev 0).tape (hev 0).output (hev 0).drawn,Ml.refl m⟩
section
variable {P:Program} (hm:P.follows .mixedOrders=true)
include hm
theorem Q2o {f fr fc:FuncId} (hf:Qb P f (L07.c fr fc) L07.r L07.n) (hr:RepC P fr) (hc:ChkC P fc):Qce P f:=by
 have r1:=hr (W2 [⟨0,0,0⟩,⟨1,0,0⟩,⟨2,0,0⟩])
 rw[Qhp]at r1
 have c1:=hc ⟨[],[]⟩
 rw[Q9h]at c1
 have c2:=hc (W2 [⟨0,0,0⟩,⟨1,0,0⟩,⟨0,1,0⟩])
 rw[Qk7 (by decide)]at c2
 have c1':CallIs P fc [.a [.nil,.nil]] (.i .i64 0):=c1.le ⟨.inl (.inr ⟨_,_,rfl,rfl,Le0.nil 3,Le0.nil 3,trivial⟩),trivial⟩ (Le.refl _)
 refine PureC.is (Q9 hm hf (qh rfl) ?_) rfl
 unfold L07.c
 simp[W2,Mesh.enc,Mesh.cs,vsV,tsV,V3.cs,T3.cs]at r1 c2
 simp[go_sem]
 refine Q9y (vs:=[_]) ?_ r1 rfl ?_
 ·simp[go_sem,Yq,frz,Jd]
 simp[go_sem,Qag,Mesh.enc,Mesh.cs,vsV,tsV,Rep.cs]
 refine Q6 c1' ?_
 simp[go_sem]
 refine U6 (vs:=[_]) ?_ c2 ?_
 ·simp[go_sem,Yq,frz,Jd]
 simp[go_sem,L07.r]
end
end Go.Abs
