/- Part of the library on which the proof stands: an abstract machine, its values and its soundness against the model; or what functions of the program do to such values. -/
import Derived.Test.YtjggbpiapinceaaGreatGoSkJ
import Derived.Test.YtjggbpiapinceaaGreatGoBl
import Derived.Test.YtjggbpiapinceaaGreatGoShpO
import Derived.Test.YtjggbpiapinceaaGreatGoDet
import Derived.Test.YtjggbpiapinceaaGreatGoRsD
set_option linter.unusedVariables false
set_option linter.unusedSimpArgs false
set_option maxHeartbeats 4000000
namespace Go.Abs
theorem Qh0 (c z0 z1 z:Int) (h1:z0<=z) (h2:z<z1):E9 c c z0 z1 z=c:=by
 have:=Q77 (c0:=c) (c1:=c) h1 h2
 omega
theorem U0 {c d e:Int} (P:P2):Kx (⟨c,e⟩,⟨d,e⟩) P=0:=by
 unfold Kx
 rw[if_neg (by simp only[];omega),if_neg (by simp only[];omega)]
theorem Qe8 {c a b:Int} (h:a<=b) (P:P2):Kx (⟨c,a⟩,⟨c,b⟩) P=if a<=P.y/\P.y<b/\P.x<c then 1 else 0:=by
 unfold Kx
 simp only[]
 have e:Zw ⟨c,a⟩ ⟨c,b⟩ P=(b-a)*(c-P.x):=by unfold Zw;simp only[];grind
 rw[e]
 by_cases h1:a<=P.y/\P.y<b
 ·by_cases h2:P.x<c
  ·rw[if_pos ⟨h1.1,h1.2,Int.mul_pos (by omega) (by omega)⟩,if_pos ⟨h1.1,h1.2,h2⟩]
  ·have:(b-a)*(c-P.x)<=0:=Int.mul_nonpos_of_nonneg_of_nonpos (by omega) (by omega)
   rw[if_neg (by omega),if_neg (by omega),if_neg (by omega)]
 ·rw[if_neg (by omega),if_neg (by omega),if_neg (by omega)]
theorem Qe9 {c a b:Int} (h:b<=a) (P:P2):Kx (⟨c,a⟩,⟨c,b⟩) P=if b<=P.y/\P.y<a/\P.x<c then -1 else 0:=by
 unfold Kx
 simp only[]
 have e:Zw ⟨c,a⟩ ⟨c,b⟩ P=-((a-b)*(c-P.x)):=by unfold Zw;simp only[];grind
 rw[e]
 by_cases h1:b<=P.y/\P.y<a
 ·by_cases h2:P.x<c
  ·have:=Int.mul_pos (show 0<a-b by omega) (show 0<c-P.x by omega)
   rw[if_neg (by omega),if_pos (by omega),if_pos ⟨h1.1,h1.2,h2⟩]
  ·have:(a-b)*(c-P.x)<=0:=Int.mul_nonpos_of_nonneg_of_nonpos (by omega) (by omega)
   rw[if_neg (by omega),if_neg (by omega),if_neg (by omega)]
 ·rw[if_neg (by omega),if_neg (by omega),if_neg (by omega)]
theorem box_wnd {p s:V3} (h1:1<=s.x) (h2:1<=s.y) (h3:1<=s.z) (hp:p.valid=true) (hs:(p.add s).valid=true) {z:Int} (z1:p.z<=z) (z2:z<p.z+s.z) (P:P2) :
  0<wnd (egs (Qw ⟨Qd p s,Qi⟩ z Qi)) P↔(p.x<=P.x/\P.x<p.x+s.x)/\p.y<=P.y/\P.y<p.y+s.y:=by
 have q1:=V3.valid_iff.1 hp
 have q2:=V3.valid_iff.1 hs
 simp only[V3.add]at q2
 have val:∀x y w:Int,(p.x<=x/\x<=p.x+s.x)->(p.y<=y/\y<=p.y+s.y)->(p.z<=w/\w<=p.z+s.z)->(⟨x,y,w⟩:V3).valid=true:=λx y w a b c=>by
  rw[V3.valid_iff];simp only;omega
 have v0:=val p.x p.y p.z (by omega) (by omega) (by omega)
 have v1:=val (p.x+s.x) p.y p.z (by omega) (by omega) (by omega)
 have v2:=val p.x (p.y+s.y) p.z (by omega) (by omega) (by omega)
 have v3:=val (p.x+s.x) (p.y+s.y) p.z (by omega) (by omega) (by omega)
 have v4:=val p.x p.y (p.z+s.z) (by omega) (by omega) (by omega)
 have v5:=val (p.x+s.x) p.y (p.z+s.z) (by omega) (by omega) (by omega)
 have v6:=val p.x (p.y+s.y) (p.z+s.z) (by omega) (by omega) (by omega)
 have v7:=val (p.x+s.x) (p.y+s.y) (p.z+s.z) (by omega) (by omega) (by omega)
 have n1:¬ z<p.z:=by omega
 have n2:¬ p.z+s.z<=z:=by omega
 have sm:=λc=>Qh0 c p.z (p.z+s.z) z z1 z2
 obtain⟨L,hL⟩:∃L,egs (Qw ⟨Qd p s,Qi⟩ z Qi)=L:=⟨_,rfl⟩
 rw[hL]
 simp[egs,Qw,Y5,Qi,Mesh.v,Qd,U8,Xq,Sg4.init,Sg4.step,Sg4.eg,point,v0,v1,v2,v3,v4,v5,v6,v7,z1,z2,n1,n2,sm]at hL
 have hy:=Q77 (c0:=p.y) (c1:=p.y+s.y) z1 z2
 generalize E9 p.x (p.x+s.x) p.z (p.z+s.z) z=a at hL
 generalize E9 p.y (p.y+s.y) p.z (p.z+s.z) z=q at hL hy
 rw[<- hL]
 simp only[W0,wnd_nil]
 rw[U0,U0,U0,U0,Qe9 (by omega),Qe9 (by omega),Qe8 (by omega),Qe8 (by omega)]
 constructor
 ·intro h
  by_cases c1:p.y<=P.y/\P.y<q<;>by_cases c2:q<=P.y/\P.y<p.y+s.y<;>by_cases c3:P.x<p.x<;>by_cases c4:P.x<p.x+s.x<;>simp[c1,c2,c3,c4]at h<;>omega
 ·rintro⟨⟨c3,c4⟩,c1,c2⟩
  by_cases c5:P.y<q
  ·rw[if_neg (by omega),if_neg (by omega),if_neg (by omega),if_pos ⟨c1,c5,c4⟩];omega
  ·rw[if_neg (by omega),if_neg (by omega),if_pos ⟨by omega,c2,c4⟩,if_neg (by omega)];omega
def W6 (x y w d:Int):List Rw:=(List.range d.toNat).map λ(i:Nat)=>⟨y+i,[⟨x,x+w⟩]⟩
theorem Qdr {x y w d:Int} (hw:1<=w):RgV (W6 x y w d):=by
 refine⟨λr hr=>?_,λr hr=>?_,?_⟩
 ·obtain⟨i,_,rfl⟩:=qo.1 hr
  exact⟨by simp;omega,by simp⟩
 ·obtain⟨i,_,rfl⟩:=qo.1 hr
  simp
 ·unfold W6
  rw[jd]
  exact List.pairwise_lt_range.imp λ{a b} h=>by simp only[];omega
theorem in_rectR {x y w d b a:Int}:Wd (W6 x y w d) b a↔(y<=b/\b<y+d)/\x<=a/\a<x+w:=by
 constructor
 ·rintro⟨r,hr,rfl,hx⟩
  obtain⟨i,hi,rfl⟩:=qo.1 hr
  have:=qy.1 hi
  rw[inRns_cons]at hx
  simp only[Qn,or_false]at hx
  exact⟨by simp only[];omega,hx⟩
 ·rintro⟨h1,h2⟩
  refine⟨⟨y+((b-y).toNat:Int),[⟨x,x+w⟩]⟩,qo.2 ⟨(b-y).toNat,qy.2 (by omega),rfl⟩,by simp only[];omega,inRns_cons.2 (.inl h2)⟩
theorem Q1h {x X k:Int} (hk:2<=k):x*k<=X*k+k / 2↔x<=X:=by
 constructor
 ·intro h
  refine j7 λhn=>?_
  have h2:=jh (show X+1<=x by omega) (show 0<=k by omega)
  have e:(X+1)*k=X*k+k:=by grind
  omega
 ·intro h
  have h2:=jh h (show 0<=k by omega)
  omega
theorem box_ras {x y w d k:Int} {p s:V3} (hw:1<=w) (hd:1<=d) (hk:32<=k) (hx:-4096<=x/\x+w<=4096) (hy:-4096<=y/\y+d<=4096) (px:p.x=x*k) (py:p.y=y*k) (sx:s.x=w*k) (sy:s.y=d*k)
  (h3:1<=s.z) (hp:p.valid=true) (hs:(p.add s).valid=true) {z:Int} (z1:p.z<=z) (z2:z<p.z+s.z):Jz (egs (Qw ⟨Qd p s,Qi⟩ z Qi)) k=W6 x y w d:=by
 have hwk:k<=w*k:=by have:=jh hw (show 0<=k by omega);omega
 have hdk:k<=d*k:=by have:=jh hd (show 0<=k by omega);omega
 unfold Jz
 refine (Q04 (Qdr hw) λb a=>?_).symm
 rw[decide_eq_true_eq,box_wnd (by omega) (by omega) h3 hp hs z1 z2,in_rectR]
 have e1:(ctr k b a).x=a*k+k / 2:=rfl
 have e2:(ctr k b a).y=b*k+k / 2:=rfl
 rw[e1,e2,px,py,sx,sy,Q1h (by omega),Q1h (by omega)]
 have f1:x*k+w*k=(x+w)*k:=by grind
 have f2:y*k+d*k=(y+d)*k:=by grind
 have g1:a*k+k / 2<(x+w)*k↔a<x+w:=by
  have:=Q1h (x:=x+w) (X:=a) (k:=k) (by omega)
  omega
 have g2:b*k+k / 2<(y+d)*k↔b<y+d:=by
  have:=Q1h (x:=y+d) (X:=b) (k:=k) (by omega)
  omega
 rw[f1,f2,g1,g2]
 constructor
 ·rintro⟨c1,c2⟩
  exact⟨by omega,by omega,c2,c1⟩
 ·rintro⟨_,_,c2,c1⟩
  exact⟨c1,c2⟩
theorem Q8m {m:Mesh} {z k:Int} (h1:Zz k 32 1024=true) (h2:m.check=0) (h3:-65536<=z/\z<=65536) (h4:BalE (egs (Qw m z m.tris))):Zd m z k=(Jz (egs (Qw m z m.tris)) k,0):=by
 have hs:Zb m z=(Qw m z m.tris,0):=by
  unfold Zb
  rw[if_pos h2,if_neg (by omega)]
 unfold Zd
 rw[hs,if_neg (by rw[h1];simp),if_neg (by simp),if_pos h4]
theorem tok_of {m:Mesh} (h:m.check=0) {t:T3} (ht:t∈m.tris):(0<=t.a/\t.a<m.verts.length)/\(0<=t.b/\t.b<m.verts.length)/\0<=t.c/\t.c<m.verts.length:=by
 obtain⟨_,_,_,h4⟩:=Mesh.check_zero.1 h
 obtain⟨i,hi⟩:=qq ht
 have:=T3.ok_iff.1 (Ek h4 hi)
 omega
theorem Qm3 (c0 c1 z0 z1 z t s:Int):E9 (c0+t) (c1+t) (z0+s) (z1+s) (z+s)=E9 c0 c1 z0 z1 z+t:=by
 unfold E9
 rw[show c1+t-(c0+t)=c1-c0 by omega,show 2*(z+s)+1-2*(z0+s)=2*z+1-2*z0 by omega,show 2*(z1+s-(z0+s))=2*(z1-z0) by omega]
 omega
theorem pointN (u v:V3) (z:Int):point u v z=if u.valid=true/\v.valid=true/\u.z<=z/\¬ v.z<=z then some (E9 u.x v.x u.z v.z z,E9 u.y v.y u.z v.z z) else none:=by
 unfold point
 by_cases h:z<v.z
 ·have h2:¬ v.z<=z:=by omega
  simp[h,h2]
 ·have h2:v.z<=z:=by omega
  simp[h,h2]
def Qfi (d:V3) (s:Sg4):Sg4:=⟨(s.a.1+d.x,s.a.2+d.y),(s.b.1+d.x,s.b.2+d.y),s.found⟩
theorem Qm2 {z:Int} {d a b c:V3} (va:a.valid=true) (vb:b.valid=true) (vc:c.valid=true) (wa:(a.add d).valid=true) (wb:(b.add d).valid=true) (wc:(c.add d).valid=true) :
  (U8 (z+d.z) (a.add d) (b.add d) (c.add d)).found=(U8 z a b c).found/\((U8 z a b c).found=true->U8 (z+d.z) (a.add d) (b.add d) (c.add d)=Qfi d (U8 z a b c)):=by
 simp only[V3.add]at wa wb wc ⊢
 by_cases ha:a.z<=z<;>by_cases hb:b.z<=z<;>by_cases hc:c.z<=z <;>
  simp[U8,Xq,Sg4.init,Sg4.step,pointN,va,vb,vc,wa,wb,wc,ha,hb,hc,Qm3,Qfi]
theorem Qg8 {m:Mesh} {d:V3} (h1:m.check=0) (h2:(m.mapV (·.add d)).check=0) (z:Int):Qw (m.mapV (·.add d)) (z+d.z) m.tris=(Qw m z m.tris).map (Qfi d):=by
 have hv:=(Mesh.check_zero.1 h1).2.2.1
 have hw:=(Mesh.check_zero.1 h2).2.2.1
 have key:∀t∈m.tris,(Y5 (m.mapV (·.add d)) (z+d.z) t).found=(Y5 m z t).found/\((Y5 m z t).found=true->Y5 (m.mapV (·.add d)) (z+d.z) t=Qfi d (Y5 m z t)):=λt ht=>by
  obtain⟨t1,t2,t3⟩:=tok_of h1 ht
  have hq:∀i:Int,0<=i->i<m.verts.length->(m.mapV (·.add d)).v i=(m.v i).add d/\(m.v i).valid=true/\((m.v i).add d).valid=true:=λi h3 h4=>by
   have hg:m.verts[i.toNat]?=some m.verts[i.toNat]:=q9 (by omega)
   have e1:m.v i=m.verts[i.toNat]:=by unfold Mesh.v;rw[hg];rfl
   have e2:(m.mapV (·.add d)).v i=(m.verts[i.toNat]).add d:=by
    unfold Mesh.v Mesh.mapV
    simp only
    rw[qp,hg];rfl
   rw[e2,e1]
   exact⟨rfl,Jt hv hg,Jt hw (by show (m.verts.map (·.add d))[i.toNat]?=_;rw[qp,hg];rfl)⟩
  obtain⟨a1,a2,a3⟩:=hq _ t1.1 t1.2
  obtain⟨b1,b2,b3⟩:=hq _ t2.1 t2.2
  obtain⟨c1,c2,c3⟩:=hq _ t3.1 t3.2
  unfold Y5
  rw[a1,b1,c1]
  exact Qm2 a2 b2 c2 a3 b3 c3
 unfold Qw
 generalize m.tris=ts at key
 induction ts with
 | nil=>rfl
 | cons t ts ih =>
   obtain⟨k1,k2⟩:=key t (by simp)
   have ih:=ih λu hu=>key u (by simp[hu])
   rw[List.map_cons,List.map_cons,List.filter_cons,List.filter_cons,ih,k1]
   split
   ·rename_i hf
    rw[List.map_cons,k2 hf]
   ·rfl
def sE (a b:Int) (e:Eg):Eg:=(⟨e.1.x+a,e.1.y+b⟩,⟨e.2.x+a,e.2.y+b⟩)
theorem egs_sft (d:V3) (l:List Sg4):egs (l.map (Qfi d))=(egs l).map (sE d.x d.y):=by
 simp[egs,Qfi,sE,Sg4.eg,Function.comp_def]
theorem Qm4 (a b:Int) (e:Eg) (p:P2):Kx (sE a b e) ⟨p.x+a,p.y+b⟩=Kx e p:=by
 have hc:Zw (sE a b e).1 (sE a b e).2 ⟨p.x+a,p.y+b⟩=Zw e.1 e.2 p:=by
  unfold Zw sE
  simp only
  rw[show e.2.x+a-(e.1.x+a)=e.2.x-e.1.x by omega,show p.y+b-(e.1.y+b)=p.y-e.1.y by omega,show e.2.y+b-(e.1.y+b)=e.2.y-e.1.y by omega,show p.x+a-(e.1.x+a)=p.x-e.1.x by omega]
 unfold Kx
 rw[hc]
 have y1:(sE a b e).1.y=e.1.y+b:=rfl
 have y2:(sE a b e).2.y=e.2.y+b:=rfl
 rw[y1,y2]
 simp only[Int.add_le_add_iff_right,Int.add_lt_add_iff_right]
theorem wnd_sft (a b:Int) (es:List Eg) (p:P2):wnd (es.map (sE a b)) ⟨p.x+a,p.y+b⟩=wnd es p:=by
 unfold wnd
 rw[List.map_map]
 congr 1
 exact jp λe _=>Qm4 a b e p
theorem sE_back (a b:Int) (es:List Eg):(es.map (sE a b)).map (sE (-a) (-b))=es:=by
 rw[List.map_map]
 have:(sE (-a) (-b)) ∘ (sE a b)=id:=by
  funext e
  obtain⟨⟨x1,y1⟩,⟨x2,y2⟩⟩:=e
  simp only[sE,Function.comp,id]
  congr 2<;>omega
 rw[this,List.map_id]
theorem BalE.sft {es:List Eg} (h:BalE es) (a b:Int):BalE (es.map (sE a b)):=λq=>by
 rw[List.countP_map,List.countP_map]
 have:=h ⟨q.x-a,q.y-b⟩
 have e1:∀e:Eg,decide (e.1=(⟨q.x-a,q.y-b⟩:P2))=decide ((sE a b e).1=q):=λe=>by
  refine decide_eq_decide.2 ?_
  unfold sE
  cases q
  obtain⟨⟨x1,y1⟩,_⟩:=e
  simp only[P2.mk.injEq]
  omega
 have e2:∀e:Eg,decide (e.2=(⟨q.x-a,q.y-b⟩:P2))=decide ((sE a b e).2=q):=λe=>by
  refine decide_eq_decide.2 ?_
  unfold sE
  cases q
  obtain⟨_,⟨x1,y1⟩⟩:=e
  simp only[P2.mk.injEq]
  omega
 rw[List.countP_congr (p:=λe:Eg=>decide (e.1=(⟨q.x-a,q.y-b⟩:P2))) (q:=(λe=>decide (e.1=q)) ∘ sE a b) (λe _=>by simp only[e1,Function.comp])]at this
 rw[List.countP_congr (p:=λe:Eg=>decide (e.2=(⟨q.x-a,q.y-b⟩:P2))) (q:=(λe=>decide (e.2=q)) ∘ sE a b) (λe _=>by simp only[e2,Function.comp])]at this
 exact this
def sRn (a:Int) (r:Rn):Rn:=⟨r.a+a,r.b+a⟩
def sRw (a b:Int) (w:Rw):Rw:=⟨w.y+b,w.rs.map (sRn a)⟩
def J6 (g:List Rw) (a b:Int):List Rw:=g.map (sRw a b)
theorem Q4y (l:List Rn) (a x:Int):Qp (l.map (sRn a)) x↔Qp l (x-a):=by
 unfold Qp
 constructor
 ·rintro⟨r,hr,h1,h2⟩
  obtain⟨s,hs,rfl⟩:=qo.1 hr
  unfold sRn at h1 h2
  exact⟨s,hs,by simp only at h1;omega,by simp only at h2;omega⟩
 ·rintro⟨r,hr,h1,h2⟩
  exact⟨sRn a r,jo hr,by unfold sRn;simp only;omega,by unfold sRn;simp only;omega⟩
theorem in_shiftR {g:List Rw} {a b y x:Int}:Wd (J6 g a b) y x↔Wd g (y-b) (x-a):=by
 unfold Wd J6
 constructor
 ·rintro⟨w,hw,rfl,hx⟩
  obtain⟨u,hu,rfl⟩:=qo.1 hw
  exact⟨u,hu,by unfold sRw;simp only;omega,(Q4y _ _ _).1 hx⟩
 ·rintro⟨w,hw,he,hx⟩
  exact⟨sRw a b w,jo hw,by unfold sRw;simp only;omega,(Q4y _ _ _).2 hx⟩
theorem Qj0 {g:List Rw} (hg:RgV g) (a b:Int):RgV (J6 g a b):=by
 refine⟨λw hw=>?_,λw hw=>?_,?_⟩
 ·obtain⟨u,hu,rfl⟩:=qo.1 hw
  obtain⟨h1,h2⟩:=hg.rs u hu
  refine⟨λr hr=>?_,?_⟩
  ·obtain⟨s,hs,rfl⟩:=qo.1 hr
   have:=h1 s hs
   unfold sRn;simp only;omega
  ·unfold sRw
   simp only
   rw[jd]
   exact h2.imp λh=>by unfold sRn;simp only;omega
 ·obtain⟨u,hu,rfl⟩:=qo.1 hw
  have:=hg.ne u hu
  unfold sRw
  simpa using this
 ·unfold J6
  rw[jd]
  exact hg.asc.imp λh=>by unfold sRw;simp only;omega
theorem Q8v {es:List Eg} (hb:BalE es) (hE:EgB es 65536) {k:Int} (hk:32<=k) {y x:Int} (h:0<wnd es (ctr k y x)):(-2050<=y/\y<=2050)/\-2050<=x/\x<=2050:=by
 refine Classical.byContradiction λhn=>?_
 have h0:wnd es (ctr k y x)=0:=by
  refine wnd_out hb hE ?_
  unfold ctr
  simp only
  have lo:∀t:Int,t<=-2051->t*k+k / 2 < -65536:=λt ht=>by
   have:=jh ht (show 0<=k by omega)
   omega
  have hi:∀t:Int,2051<=t->65536<t*k+k / 2:=λt ht=>by
   have:=jh ht (show 0<=k by omega)
   omega
  by_cases c1:x<=-2051
  ·exact .inl (lo x c1)
  by_cases c2:2051<=x
  ·exact .inr (.inl (hi x c2))
  by_cases c3:y<=-2051
  ·exact .inr (.inr (.inl (lo y c3)))
  exact .inr (.inr (.inr (hi y (by omega))))
 omega
theorem ras_sft {es:List Eg} (hb:BalE es) (hE:EgB es 65536) {k:Int} (hk:32<=k) {dx dy:Int} (hx:-100<=dx/\dx<=100) (hy:-100<=dy/\dy<=100) :
  Jz (es.map (sE (dx*k) (dy*k))) k=J6 (Jz es k) dx dy:=by
 unfold Jz
 refine (Q04 (Qj0 (Q3c _) dx dy) λy x=>?_).symm
 rw[in_shiftR,in_canonR]
 simp only[decide_eq_true_eq]
 have hw:wnd (es.map (sE (dx*k) (dy*k))) (ctr k y x)=wnd es (ctr k (y-dy) (x-dx)):=by
  rw[<- wnd_sft (dx*k) (dy*k) es]
  congr 1
  unfold ctr
  simp only[P2.mk.injEq]
  constructor<;>grind
 rw[hw]
 constructor
 ·rintro⟨h1,h2,h3⟩
  have:=Q8v hb hE hk h3
  exact⟨by omega,by omega,h3⟩
 ·rintro⟨h1,h2,h3⟩
  have:=Q8v hb hE hk h3
  exact⟨by omega,by omega,h3⟩
theorem Q1v {m:Mesh} {z k:Int} (h1:Zz k 32 1024=true) (h2:m.check=0) (h3:-65536<=z/\z<=65536) (h4:¬ BalE (egs (Qw m z m.tris))):Zd m z k=([],12):=by
 have hs:Zb m z=(Qw m z m.tris,0):=by
  unfold Zb
  rw[if_pos h2,if_neg (by omega)]
 unfold Zd
 rw[hs,if_neg (by rw[h1];simp),if_neg (by simp),if_neg h4]
theorem Qbu {m:Mesh} {dx dy dz z k:Int} (h1:m.check=0) (h2:(m.mapV (·.add ⟨dx*k,dy*k,dz⟩)).check=0) (hk:Zz k 32 1024=true) (hx:-100<=dx/\dx<=100) (hy:-100<=dy/\dy<=100) (hz:-65536<=z/\z<=65536) (hz2:-65536<=z+dz/\z+dz<=65536) :
  (Zd (m.mapV (·.add ⟨dx*k,dy*k,dz⟩)) (z+dz) k).2=(Zd m z k).2/\((Zd m z k).2=0->(Zd (m.mapV (·.add ⟨dx*k,dy*k,dz⟩)) (z+dz) k).1=J6 (Zd m z k).1 dx dy):=by
 have hk2:32<=k:=by
  unfold Zz at hk
  simp only[Bool.and_eq_true,decide_eq_true_eq]at hk
  exact hk.1.1
 have hs:egs (Qw (m.mapV (·.add ⟨dx*k,dy*k,dz⟩)) (z+dz) (m.mapV (·.add ⟨dx*k,dy*k,dz⟩)).tris)=(egs (Qw m z m.tris)).map (sE (dx*k) (dy*k)):=by
  rw[<- egs_sft ⟨dx*k,dy*k,dz⟩,<- Qg8 h1 h2 z];rfl
 have hE:=Qdo m z m.tris
 by_cases hb:BalE (egs (Qw m z m.tris))
 ·rw[Q8m hk h1 hz hb,Q8m hk h2 hz2 (by rw[hs];exact hb.sft _ _),hs]
  exact⟨rfl,λ_=>ras_sft hb hE hk2 hx hy⟩
 ·have hb2:¬ BalE ((egs (Qw m z m.tris)).map (sE (dx*k) (dy*k))):=λh=>by
   have h3:=h.sft (-(dx*k)) (-(dy*k))
   rw[sE_back]at h3
   exact hb h3
  rw[Q1v hk h1 hz hb,Q1v hk h2 hz2 (by rw[hs];exact hb2)]
  exact⟨rfl,λh=>by simp at h⟩
def rwA (w:Rw):Int:=(w.rs.head?.map Rn.a).getD 0
def rwZ (w:Rw):Int:=(w.rs.getLast?.map Rn.b).getD 0-1
def bxA (g:List Rw):Int:=g.foldl (λm w=>min m (rwA w)) 4096
def bxZ (g:List Rw):Int:=g.foldl (λm w=>max m (rwZ w)) (-4096)
theorem Qmg (g:List Rw) (w:Rw):bxA (g++[w])=min (bxA g) (rwA w):=by simp[bxA]
theorem Qmf (g:List Rw) (w:Rw):bxZ (g++[w])=max (bxZ g) (rwZ w):=by simp[bxZ]
theorem Bv {L:Int}:∀{g:List Rw} {m:Int},L<=m->(∀w∈g,L<=rwA w)->L<=g.foldl (λm w=>min m (rwA w)) m
 | [],_,h,_=>h
 | w::g,m,h,hw=>Bv (g:=g) (m:=min m (rwA w)) (by have:=hw w (by simp);omega) λu hu=>hw u (by simp[hu])
theorem Bw {L:Int}:∀{g:List Rw} {m:Int},m<=L->(∀w∈g,rwZ w<=L)->g.foldl (λm w=>max m (rwZ w)) m<=L
 | [],_,h,_=>h
 | w::g,m,h,hw=>Bw (g:=g) (m:=max m (rwZ w)) (by have:=hw w (by simp);omega) λu hu=>hw u (by simp[hu])
theorem Ih:∀(g:List Rw) (m:Int),g.foldl (λm w=>min m (rwA w)) m<=m
 | [],_=>by simp
 | w::g,m=>by have:=Ih g (min m (rwA w));simp only[List.foldl_cons];omega
theorem Ii:∀(g:List Rw) (m:Int),m<=g.foldl (λm w=>max m (rwZ w)) m
 | [],_=>by simp
 | w::g,m=>by have:=Ii g (max m (rwZ w));simp only[List.foldl_cons];omega
theorem Qbc {g:List Rw} (hg:RgV g) {w:Rw} (hw:w∈g):Wd g w.y (rwA w):=by
 have hne:=hg.ne w hw
 obtain⟨r,l,hr⟩:∃r l,w.rs=r::l:=by
  cases h:w.rs with
  | nil=>exact absurd h hne
  | cons r l=>exact⟨r,l,rfl⟩
 have h1:=(hg.rs w hw).1 r (by rw[hr];simp)
 exact⟨w,hw,rfl,r,by rw[hr];simp,by unfold rwA;rw[hr];simp,by unfold rwA;rw[hr];simpa using h1⟩
theorem Qj9 {g:List Rw} (hg:RgV g) {w:Rw} (hw:w∈g):Wd g w.y (rwZ w):=by
 have hne:=hg.ne w hw
 have hl:=List.getLast?_eq_some_getLast hne
 have hm:=List.getLast_mem hne
 generalize w.rs.getLast hne=r at hl hm
 have h1:=(hg.rs w hw).1 r hm
 exact⟨w,hw,rfl,r,hm,by unfold rwZ;rw[hl];simp;omega,by unfold rwZ;rw[hl];simp;omega⟩
theorem Qiz {g:List Rw} (hg:RgV g) {a b:Int} (hs:RgB (J6 g a b)) (ha:-100<=a/\a<=100) :
  (-4096-bxA g<=a/\a<=4095-bxZ g)/\∀w∈g,-4096-w.y<=b/\b<=4095-w.y:=by
 have key:∀y x,Wd g y x->(-4096<=y+b/\y+b<4096)/\-4096<=x+a/\x+a<4096:=λy x h =>
  hs (y+b) (x+a) (in_shiftR.2 (by rwa [show y+b-b=y by omega,show x+a-a=x by omega]))
 refine⟨⟨?_,?_⟩,λw hw=>?_⟩
 ·have:=Bv (L:=-4096-a) (g:=g) (m:=4096) (by omega) λw hw=>by have:=key _ _ (Qbc hg hw);omega
  unfold bxA;omega
 ·have:=Bw (L:=4095-a) (g:=g) (m:=-4096) (by omega) λw hw=>by have:=key _ _ (Qj9 hg hw);omega
  unfold bxZ;omega
 ·have:=key _ _ (Qbc hg hw)
  omega
theorem bx_bd {g:List Rw} (hg:RgV g) (hb:RgB g):(-4096<=bxA g/\bxA g<=4096)/\-4096<=bxZ g/\bxZ g<=4096:=by
 have h1:=Bv (L:=-4096) (g:=g) (m:=4096) (by omega) λw hw=>by have:=hb _ _ (Qbc hg hw);omega
 have h2:=Bw (L:=4096) (g:=g) (m:=-4096) (by omega) λw hw=>by have:=hb _ _ (Qj9 hg hw);omega
 have h3:=Ih g 4096
 have h4:=Ii g (-4096)
 unfold bxA bxZ
 omega
end Go.Abs
