/- Part of the library on which the proof stands: an abstract machine, its values and its soundness against the model; or what functions of the program do to such values. -/
import Derived.Test.YtnaehggpjfdenaaGreatGoSkJ
import Derived.Test.YtnaehggpjfdenaaGreatGoSkB
import Derived.Test.YtnaehggpjfdenaaGreatAbsCP
import Derived.Test.YtnaehggpjfdenaaGreatGoRw
import Derived.Test.YtnaehggpjfdenaaGreatGoSkH
import Derived.Test.YtnaehggpjfdenaaGreatGoOy
import Derived.Test.YtnaehggpjfdenaaGreatGoSet
import Derived.Test.YtnaehggpjfdenaaGreatGoUnF
set_option linter.unusedVariables false
set_option linter.unusedSimpArgs false
set_option maxHeartbeats 16000000
set_option maxRecDepth 20000
namespace Go.Abs
theorem Qkr (c z0 z1 z:Int) (h1:z0<=z) (h2:z<z1):Q6r c c z0 z1 z=c:=by
 have:=Qa2 (c0:=c) (c1:=c) h1 h2
 omega
theorem Uj {c d e:Int} (P:P2):Q2x (⟨c,e⟩,⟨d,e⟩) P=0:=by
 unfold Q2x
 rw[if_neg (by simp only[];omega),if_neg (by simp only[];omega)]
theorem Qht {c a b:Int} (h:a<=b) (P:P2):Q2x (⟨c,a⟩,⟨c,b⟩) P=if a<=P.y/\P.y<b/\P.x<c then 1 else 0:=by
 unfold Q2x
 simp only[]
 have e:Jw ⟨c,a⟩ ⟨c,b⟩ P=(b-a)*(c-P.x):=by unfold Jw;simp only[];grind
 rw[e]
 by_cases h1:a<=P.y/\P.y<b
 ·by_cases h2:P.x<c
  ·rw[if_pos ⟨h1.1,h1.2,Int.mul_pos (by omega) (by omega)⟩,if_pos ⟨h1.1,h1.2,h2⟩]
  ·have:(b-a)*(c-P.x)<=0:=Int.mul_nonpos_of_nonneg_of_nonpos (by omega) (by omega)
   rw[if_neg (by omega),if_neg (by omega),if_neg (by omega)]
 ·rw[if_neg (by omega),if_neg (by omega),if_neg (by omega)]
theorem Qhu {c a b:Int} (h:b<=a) (P:P2):Q2x (⟨c,a⟩,⟨c,b⟩) P=if b<=P.y/\P.y<a/\P.x<c then -1 else 0:=by
 unfold Q2x
 simp only[]
 have e:Jw ⟨c,a⟩ ⟨c,b⟩ P=-((a-b)*(c-P.x)):=by unfold Jw;simp only[];grind
 rw[e]
 by_cases h1:b<=P.y/\P.y<a
 ·by_cases h2:P.x<c
  ·have:=Int.mul_pos (show 0<a-b by omega) (show 0<c-P.x by omega)
   rw[if_neg (by omega),if_pos (by omega),if_pos ⟨h1.1,h1.2,h2⟩]
  ·have:(a-b)*(c-P.x)<=0:=Int.mul_nonpos_of_nonneg_of_nonpos (by omega) (by omega)
   rw[if_neg (by omega),if_neg (by omega),if_neg (by omega)]
 ·rw[if_neg (by omega),if_neg (by omega),if_neg (by omega)]
theorem box_wnd {p s:V3} (h1:1<=s.x) (h2:1<=s.y) (h3:1<=s.z) (hp:p.valid=true) (hs:(p.add s).valid=true) {z:Int} (z1:p.z<=z) (z2:z<p.z+s.z) (P:P2) :
  0<wnd (egs (Y0 ⟨Qe p s,Qk⟩ z Qk)) P↔(p.x<=P.x/\P.x<p.x+s.x)/\p.y<=P.y/\P.y<p.y+s.y:=by
 have q1:=V3.valid_iff.1 hp
 have q2:=V3.valid_iff.1 hs
 simp only[V3.add]at q2
 have val:∀x y w:Int,(p.x<=x/\x<=p.x+s.x)->(p.y<=y/\y<=p.y+s.y)->(p.z<=w/\w<=p.z+s.z)->(⟨x,y,w⟩:V3).valid=true:=λx y w a b c=>by
  rw[V3.valid_iff];simp only;omega
 have v0:=val p.x p.y p.z (by omega) (by omega) (by omega)
 have v1:=val (p.x+s.x) p.y p.z (by omega) (by omega) (by omega)
 have v2:=val p.x (p.y+s.y) p.z (by omega) (by omega) (by omega)
 have v3:=val (p.x+s.x) (p.y+s.y) p.z (by omega) (by omega) (by omega)
 have v4:=val p.x p.y (p.z+s.z) (by omega) (by omega) (by omega)
 have v5:=val (p.x+s.x) p.y (p.z+s.z) (by omega) (by omega) (by omega)
 have v6:=val p.x (p.y+s.y) (p.z+s.z) (by omega) (by omega) (by omega)
 have v7:=val (p.x+s.x) (p.y+s.y) (p.z+s.z) (by omega) (by omega) (by omega)
 have n1:¬ z<p.z:=by omega
 have n2:¬ p.z+s.z<=z:=by omega
 have sm:=λc=>Qkr c p.z (p.z+s.z) z z1 z2
 obtain⟨L,hL⟩:∃L,egs (Y0 ⟨Qe p s,Qk⟩ z Qk)=L:=⟨_,rfl⟩
 rw[hL]
 simp[egs,Y0,K7,Qk,Mesh.v,Qe,Q6q,Jv,Sg4.init,Sg4.step,Sg4.eg,point,v0,v1,v2,v3,v4,v5,v6,v7,z1,z2,n1,n2,sm]at hL
 have hy:=Qa2 (c0:=p.y) (c1:=p.y+s.y) z1 z2
 generalize Q6r p.x (p.x+s.x) p.z (p.z+s.z) z=a at hL
 generalize Q6r p.y (p.y+s.y) p.z (p.z+s.z) z=q at hL hy
 rw[<- hL]
 simp only[Il,wnd_nil]
 rw[Uj,Uj,Uj,Uj,Qhu (by omega),Qhu (by omega),Qht (by omega),Qht (by omega)]
 constructor
 ·intro h
  by_cases c1:p.y<=P.y/\P.y<q<;>by_cases c2:q<=P.y/\P.y<p.y+s.y<;>by_cases c3:P.x<p.x<;>by_cases c4:P.x<p.x+s.x<;>simp[c1,c2,c3,c4]at h<;>omega
 ·rintro⟨⟨c3,c4⟩,c1,c2⟩
  by_cases c5:P.y<q
  ·rw[if_neg (by omega),if_neg (by omega),if_neg (by omega),if_pos ⟨c1,c5,c4⟩];omega
  ·rw[if_neg (by omega),if_neg (by omega),if_pos ⟨by omega,c2,c4⟩,if_neg (by omega)];omega
def Yj (x y w d:Int):List Rw:=(List.range d.toNat).map λ(i:Nat)=>⟨y+i,[⟨x,x+w⟩]⟩
theorem Q8v {x y w d:Int} (hw:1<=w):RgV (Yj x y w d):=by
 refine⟨λr hr=>?_,λr hr=>?_,?_⟩
 ·obtain⟨i,_,rfl⟩:=qo.1 hr
  exact⟨by simp;omega,by simp⟩
 ·obtain⟨i,_,rfl⟩:=qo.1 hr
  simp
 ·unfold Yj
  rw[je]
  exact List.pairwise_lt_range.imp λ{a b} h=>by simp only[];omega
theorem in_rectR {x y w d b a:Int}:Zx (Yj x y w d) b a↔(y<=b/\b<y+d)/\x<=a/\a<x+w:=by
 constructor
 ·rintro⟨r,hr,rfl,hx⟩
  obtain⟨i,hi,rfl⟩:=qo.1 hr
  have:=qy.1 hi
  rw[inRns_cons]at hx
  simp only[Qj,or_false]at hx
  exact⟨by simp only[];omega,hx⟩
 ·rintro⟨h1,h2⟩
  refine⟨⟨y+((b-y).toNat:Int),[⟨x,x+w⟩]⟩,qo.2 ⟨(b-y).toNat,qy.2 (by omega),rfl⟩,by simp only[];omega,inRns_cons.2 (.inl h2)⟩
theorem Ul {x X k:Int} (hk:2<=k):x*k<=X*k+k / 2↔x<=X:=by
 constructor
 ·intro h
  refine j7 λhn=>?_
  have h2:=ji (show X+1<=x by omega) (show 0<=k by omega)
  have e:(X+1)*k=X*k+k:=by grind
  omega
 ·intro h
  have h2:=ji h (show 0<=k by omega)
  omega
theorem box_ras {x y w d k:Int} {p s:V3} (hw:1<=w) (hd:1<=d) (hk:32<=k) (hx:-4096<=x/\x+w<=4096) (hy:-4096<=y/\y+d<=4096) (px:p.x=x*k) (py:p.y=y*k) (sx:s.x=w*k) (sy:s.y=d*k)
  (h3:1<=s.z) (hp:p.valid=true) (hs:(p.add s).valid=true) {z:Int} (z1:p.z<=z) (z2:z<p.z+s.z):Uw (egs (Y0 ⟨Qe p s,Qk⟩ z Qk)) k=Yj x y w d:=by
 have hwk:k<=w*k:=by have:=ji hw (show 0<=k by omega);omega
 have hdk:k<=d*k:=by have:=ji hd (show 0<=k by omega);omega
 unfold Uw
 refine (Q7y (Q8v hw) λb a=>?_).symm
 rw[decide_eq_true_eq,box_wnd (by omega) (by omega) h3 hp hs z1 z2,in_rectR]
 have e1:(ctr k b a).x=a*k+k / 2:=rfl
 have e2:(ctr k b a).y=b*k+k / 2:=rfl
 rw[e1,e2,px,py,sx,sy,Ul (by omega),Ul (by omega)]
 have f1:x*k+w*k=(x+w)*k:=by grind
 have f2:y*k+d*k=(y+d)*k:=by grind
 have g1:a*k+k / 2<(x+w)*k↔a<x+w:=by
  have:=Ul (x:=x+w) (X:=a) (k:=k) (by omega)
  omega
 have g2:b*k+k / 2<(y+d)*k↔b<y+d:=by
  have:=Ul (x:=y+d) (X:=b) (k:=k) (by omega)
  omega
 rw[f1,f2,g1,g2]
 constructor
 ·rintro⟨c1,c2⟩
  exact⟨by omega,by omega,c2,c1⟩
 ·rintro⟨_,_,c2,c1⟩
  exact⟨c1,c2⟩
theorem Qp6 {h n:Int} (hh:4<=h) (hev:h % 2=0) (hn:1<=n):Qcq (n*h) h=n.toNat:=by
 have key:∀i:Nat,i<Qcq (n*h) h↔i<n.toNat:=λi=>by
  rw[Qho (by omega)]
  have:=Ul (x:=n) (X:=(i:Int)) (k:=h) (by omega)
  omega
 have a:=key (Qcq (n*h) h)
 have b:=key n.toNat
 omega
theorem Qg6 {x y w d n k h:Int} {p s:V3} (hw:1<=w) (hd:1<=d) (hk:Z2 k 32 1024=true) (hh:Z2 h 4 1024=true) (hx:-4096<=x/\x+w<=4096) (hy:-4096<=y/\y+d<=4096) (px:p.x=x*k) (py:p.y=y*k) (pz:p.z=0) (sx:s.x=w*k) (sy:s.y=d*k) (sz:s.z=n*h)
  (hn:1<=n) (hn2:n<=256) (hp:p.valid=true) (hs:(p.add s).valid=true):Z0 [⟨Qe p s,Qk⟩] k h=(List.replicate n.toNat (Yj x y w d),0):=by
 have hk2:32<=k:=by
  unfold Z2 at hk
  simp only[Bool.and_eq_true,decide_eq_true_eq]at hk
  exact hk.1.1
 have hh2:4<=h/\h % 2=0:=by
  unfold Z2 at hh
  simp only[Bool.and_eq_true,decide_eq_true_eq]at hh
  exact⟨hh.1.1,hh.2⟩
 have hwk:k<=w*k:=by have:=ji hw (show 0<=k by omega);omega
 have hdk:k<=d*k:=by have:=ji hd (show 0<=k by omega);omega
 have hnh:h<=n*h:=by have:=ji hn (show 0<=h by omega);omega
 obtain⟨b1,b2⟩:=box_ok (p:=p) (s:=s) (by omega) (by omega) (by omega) hp hs
 have hclo:=(Q7z (p:=p) (s:=s) (by omega) (by omega) (by omega) hp hs).a
 have q2:=V3.valid_iff.1 hs
 simp only[V3.add]at q2
 have hzs:∀z∈W0 h n.toNat,0<=z/\z<n*h:=λz hz=>by
  unfold W0 at hz
  obtain⟨i,hi,rfl⟩:=qo.1 hz
  have:=qy.1 hi
  have h1:0<=(i:Int)*h:=Int.mul_nonneg (by omega) (by omega)
  have h2:=Ul (x:=n) (X:=(i:Int)) (k:=h) (by omega)
  omega
 have hsl:∀z∈W0 h n.toNat,Zd ⟨Qe p s,Qk⟩ z k=(Yj x y w d,0):=λz hz=>by
  have:=hzs z hz
  rw[Q8i hclo (by omega) hk]
  rw[box_ras hw hd hk2 hx hy px py sx sy (by omega) hp hs (by omega) (by omega)]
 have hlo:(bLo (Qe p s)).z=0:=by
  simp[Qe,bLo,Q6t,pz]
  omega
 have hhi:(bHi (Qe p s)).z=n*h:=by
  simp[Qe,bHi,Q14,pz,sz]
  omega
 have hpart:Xb ⟨Qe p s,Qk⟩ k h=(List.replicate n.toNat (Yj x y w d),0):=by
  have hg:Q0w (n*h) h=(W0 h n.toNat,0):=by
   unfold Q0w
   rw[if_neg (by rw[hh];simp),Qp6 hh2.1 hh2.2 hn,if_neg (by omega)]
  unfold Xb
  rw[if_neg (by simp[b2]),if_neg (by simp[Qe]),hlo,hhi,if_neg (by omega),hg,if_neg (by simp)]
  rw[Iq λz hz=>by rw[hsl z hz]]
  congr 1
  refine qx λi=>?_
  rw[qp,jf]
  by_cases hi:i<n.toNat
  ·obtain⟨z,hq⟩:∃z,(W0 h n.toNat)[i]?=some z:=⟨_,q9 (by rw[Ws];exact hi)⟩
   rw[if_pos hi,hq]
   simp only[Option.map_some]
   rw[hsl _ (qb hq)]
  ·rw[if_neg hi,qk (by rw[Ws];omega)];rfl
 have hrb:RgB (Yj x y w d):=λb a hba=>by
  have:=in_rectR.1 hba
  omega
 unfold Z0
 rw[if_neg (by rw[hk,hh];simp)]
 unfold Wd
 rw[hpart,if_neg (by simp)]
 unfold Wd
 simp only
 rw[Qb8 λg hg=>by rw[(List.mem_replicate.1 hg).2];exact⟨Q8v hw,hrb⟩]
def Qri (P:Program) (f:FuncId):Prop:=∀x y w d:Int,(-10000<=x/\x<=10000)->(-10000<=y/\y<=10000)->(0<=w/\w<=10000)->(0<=d/\d<=10000)->CallIs P f [.i .i64 x,.i .i64 y,.i .i64 w,.i .i64 d] (rgV (Yj x y w d))
theorem Q7e {α β γ:Type} {f:β->Option γ} {g:α->β} {k:α->γ}:∀{l:List α},(∀a∈l,f (g a)=some (k a))->(l.map g).mapM f=some (l.map k)
 | [],_=>rfl
 | a::l,h=>by
   have ih:=Q7e (f:=f) (g:=g) (k:=k) (l:=l) λb hb=>h b (by simp[hb])
   simp only[List.map_cons,List.mapM_cons,h a (by simp),ih]
   rfl
def rcE (x y w:Int) (j:Nat):List V:=[.i .i64 (y+j),.own (3+j) 1 0 1]
def rcO (x w:Int):O:=.arr 1 2 [[.i .i64 x,.i .i64 (x+w)]]
theorem rcE_cl (x y w:Int) {i n:Nat} (h:i+3<=n):∀el∈(List.range i).map (rcE x y w),∀c∈el,c.cl n=true:=λel hel c hc=>by
 obtain⟨j,hj,rfl⟩:=qo.1 hel
 have:=qy.1 hj
 simp[rcE]at hc
 rcases hc with rfl | rfl
 ·rfl
 ·simp[V.cl,V.cl1,V.cl0];omega
theorem Qn6 (x w:Int):∀(i n:Nat) (l:List O),WeakH n (List.replicate i (rcO x w)++l) (List.replicate i (rcO x w))
 | 0,n,l=>by simp[WeakH]
 | i+1,n,l=>by
   rw[List.replicate_succ]
   exact⟨.inr ⟨rfl,by simp[rcO,O.cl,V.cl,V.cl1,V.cl0]⟩,Qn6 x w i n l⟩
section
variable {P:Program} (hm:P.follows .mixedOrders=true)
include hm
theorem I5 {f:FuncId} (hf:Q9 P f L0b.c L0b.r L0b.n):Qri P f:=by
 intro x y w d hx hy hw hd
 obtain⟨D,rfl⟩:∃D:Nat,d=D:=⟨d.toNat,by omega⟩
 refine PureC.is (Qn8 hm hf (qh rfl) ?_) rfl
 unfold L0b.c
 simp[go_sem]
 refine Qs [.c 1 0 0 2] (α:=Nat) (λi=>i<=D)
  (λi=>⟨[(0,.i .i64 x),(1,.i .i64 y),(2,.i .i64 w),(3,.i .i64 D),(8,.p 0 1 0 0),(9,.p 1 1 0 0),(10,.i .i64 i)],.arr 1 1 [[.nil]]::.arr 1 1 [[.own 2 (i+1) 0 i]]::.arr (i+1) 2 ((List.range i).map (rcE x y w))::List.replicate i (rcO x w)⟩)
  (λi=>D-i) 0 (Nat.zero_le _) ?_ ?_
 ·simp[go_sem]
 intro i hi
 by_cases hil:i=D
 ·subst hil
  simp[go_sem,L0b.r]
  have ht:List.take i ((List.range i).map (rcE x y w))=(List.range i).map (rcE x y w):=qe (by simp)
  rw[ht,Q7e (k:=λ(j:Nat)=>[.i .i64 (y+j),.l 2 [[.i .i64 x,.i .i64 (x+w)]]]) λj hj=>by
   have hji:=qy.1 hj
   have hg:∀A B C:O,(A::B::C::List.replicate i (rcO x w))[3+j]?=some (rcO x w):=λA B C=>by
    rw[show 3+j=j+1+1+1 by omega]
    simp[hji]
   simp only[rcE,List.mapM_cons,List.mapM_nil,E6,X5,hg,V.isD]
   simp[rcO,V.isD]]
  simp[rgV,Yj,Rw.cs,Qb,Rn.cs,Yc]
 have hlt:i<D:=by omega
 have ht:List.take i ((List.range i).map (rcE x y w))=(List.range i).map (rcE x y w):=qe (by simp)
 have hgi:∀a b:O,(List.replicate i (rcO x w)++[a,b])[i+1]?=some b:=λa b=>by
  rw[qf (by simp)];simp
 simp (disch:=omega) [go_sem,hlt,ht,hgi,Q0]
 refine⟨⟨by omega,by omega⟩,i+1,by omega,by omega,by omega,by omega,rfl,⟨⟨rfl,?_⟩,λa ha c hc=>rcE_cl x y w (i:=i+1) (by omega) _ (List.mem_map_of_mem (qy.2 ha)) c hc⟩,?_⟩
 ·rw[List.range_succ,qw]
  simp[rcE]
  omega
 ·have e:∀b:O,List.replicate i (rcO x w)++[rcO x w,b]=List.replicate (i+1) (rcO x w)++[b]:=λb=>by
   rw[List.replicate_succ'];simp
  have e2:=e (O.arr 1 2 [[V.i IntKind.i64 (y+↑i),V.own (i+1+1+1) 1 0 1]])
  have:=Qn6 x w (i+1) (i+1+1+1+1) [O.arr 1 2 [[V.i IntKind.i64 (y+↑i),V.own (i+1+1+1) 1 0 1]]]
  rw[<- e2]at this
  exact this
end
theorem rectR_b {x y w d:Int} (hx:-4096<=x/\x+w<=4096) (hy:-4096<=y/\y+d<=4096):RgB (Yj x y w d):=λb a hba=>by
 have:=in_rectR.1 hba
 omega
theorem frz_rgs {h:List O} {id g:Nat} {l:List (List Rw)} (hid:h[id]?=some (.arr g 1 (l.map rgE))):frz h (.own id g 0 l.length)=some (Yk l):=by
 have ht:List.take l.length (l.map rgE)=l.map rgE:=qe (by simp)
 have ha:((l.map rgE).all λx=>x.all V.isD)=true:=by
  rw[qj]
  intro el hel
  obtain⟨q,hq,rfl⟩:=qo.1 hel
  exact qj.2 (Q8s l q hq)
 simp only[frz,X5,hid]
 rw[if_pos ⟨trivial,by simp,by rw[List.drop_zero,ht];exact ha⟩,List.drop_zero,ht]
 rfl
def exMesh:Mesh:=⟨Qe ⟨0,0,0⟩ ⟨80,40,40⟩,Qk⟩
theorem Q6o (s:Sett) (h1:s.pitch=40) (h2:s.height=20):Z0 [exMesh] s.pitch s.height=([Yj 0 0 2 1,Yj 0 0 2 1],0):=by
 rw[h1,h2]
 exact Qg6 (x:=0) (y:=0) (w:=2) (d:=1) (n:=2) (p:=⟨0,0,0⟩) (s:=⟨80,40,40⟩) (by omega) (by omega) (by decide) (by decide) (by omega) (by omega) rfl rfl rfl rfl rfl rfl (by omega) (by omega) (by decide) (by decide)
section
variable {P:Program} (hm:P.follows .mixedOrders=true)
include hm
theorem Q4s {f fh fb fs fr fe:FuncId} (hf:Q9 P f (L0c.c fh fb fs fr fe) L0c.r L0c.n) (hh:HgtC P fh) (hb:BoxC P fb) (hs:Q39 P fs) (hr:Qri P fr) (he:Qai P fe):Qgv P f:=by
 have c1:=hh 40 20 (by omega) (by omega)
 rw[show Q0w 40 20=([10,30],0) by decide]at c1
 have c2:=hb ⟨0,0,0⟩ ⟨80,40,40⟩ (by decide) (by decide)
 rw[show Qdc ⟨0,0,0⟩ ⟨80,40,40⟩=Q4o exMesh 0 by rfl]at c2
 have c3:=hs [exMesh] ⟨40,20,0,0,0,0,0,false,0,0,0,0,0,0,0,0,0,0,0,0⟩ (by simp)
 rw[Q6o _ rfl rfl]at c3
 have c4:=hr 0 0 2 1 (by omega) (by omega) (by omega) (by omega)
 have hv:RgV (Yj 0 0 2 1)/\RgB (Yj 0 0 2 1):=⟨Q8v (by omega),rectR_b (by omega) (by omega)⟩
 have hvs:J3 [Yj 0 0 2 1,Yj 0 0 2 1]:=λg hg=>by
  simp at hg
  rw[hg];exact hv
 have c5:=he [Yj 0 0 2 1,Yj 0 0 2 1] [Yj 0 0 2 1,Yj 0 0 2 1] hvs hvs (by simp) (by simp)
 rw[decide_eq_true rfl]at c5
 have hmc:exMesh.cs.length=2:=rfl
 have hmt:List.take 2 exMesh.cs=exMesh.cs:=rfl
 have hmd:∀x∈exMesh.cs,x.isD=true:=by
  intro x hx
  simp[Mesh.cs]at hx
  rcases hx with rfl | rfl<;>rfl
 have hmcl:∀n,∀x∈exMesh.cs,x.cl n=true:=λn x hx=>Kz n (hmd x hx)
 unfold Q4o Mesh.enc at c2
 unfold msV Sett.enc Sett.cs at c3
 simp only at c3
 generalize exMesh=m at *
 generalize Yj 0 0 2 1=R at *
 refine PureC.is (Q7 hm hf (qh rfl) ?_) rfl
 unfold L0c.c
 simp[go_sem]
 refine Q4 c1 ?_
 simp[go_sem,isV]
 refine Q4 c2 ?_
 simp[go_sem,V.cells,V.okA,hmc,hmt]
 have hma:∀x∈m.cs,x.isD=true:=hmd
 refine Zn (vs:=[.l 2 [m.cs],.a [.i .i64 40,.i .i64 20,.i .i64 0,.i .i64 0,.i .i64 0,.i .i64 0,.i .i64 0,.b false,.i .i64 0,.i .i64 0,.i .i64 0,.i .i64 0,.i .i64 0,.i .i64 0,.i .i64 0,.i .i64 0,.i .i64 0,.i .i64 0,.i .i64 0,.i .i64 0]]) (by
  simp[X4,frz,X5]
  rw[if_pos hma];rfl) c3 ?_
 simp[go_sem,V.ids2,V.ids1,V.ids0,Q4u,Zk]
 refine Q4 c4 ?_
 simp[go_sem]
 refine Q4 c4 ?_
 simp[go_sem,rgV]
 refine Zn (vs:=[Yk [R,R],Yk [R,R]]) (by simp[X4,frz,X5,Zk,rgE,rwL,V.isD]) c5 ?_
 simp[go_sem,L0c.r]
end
theorem Qee {m:Mesh} {k h:Int} (hv:Z2 k 32 1024=true/\Z2 h 4 1024=true):Z0 [m] k h=if (Xb m k h).2≠0 then ([],(Xb m k h).2) else ((Xb m k h).1,0):=by
 unfold Z0
 rw[if_neg (by rw[hv.1,hv.2];simp)]
 unfold Wd
 split
 ·rfl
 ·unfold Wd
  rw[Qb8 (Q8w m k h).1]
theorem Em {ms:List Mesh} {k h:Int} (hv:¬ (Z2 k 32 1024=true/\Z2 h 4 1024=true)):Z0 ms k h=([],1):=by
 unfold Z0
 rw[if_pos]
 cases h1:Z2 k 32 1024 with
 | false=>exact .inl rfl
 | true =>
   right
   cases h2:Z2 h 4 1024 with
   | false=>rfl
   | true=>exact absurd ⟨h1,h2⟩ hv
theorem Qbp {ms:List Mesh} {k h:Int} (hv:Z2 k 32 1024=true/\Z2 h 4 1024=true):Z0 ms k h=Wd k h [] ms:=by
 unfold Z0
 rw[if_neg (by rw[hv.1,hv.2];simp)]
def UnI (ms:List Mesh) (k h:Int) (i:Nat) (Qp:List (List Rw)):Prop :=
 ((Z2 k 32 1024=true/\Z2 h 4 1024=true)/\Wd k h Qp (ms.drop i)=Z0 ms k h)∨(¬ (Z2 k 32 1024=true/\Z2 h 4 1024=true)/\i=0/\Qp=[])
theorem UnI.start (ms:List Mesh) (k h:Int):UnI ms k h 0 []:=by
 by_cases hv:Z2 k 32 1024=true/\Z2 h 4 1024=true
 ·exact .inl ⟨hv,by rw[Qbp hv];rfl⟩
 ·exact .inr ⟨hv,rfl,rfl⟩
theorem UnI.step {ms:List Mesh} {k h:Int} {i:Nat} {Qp:List (List Rw)} {m:Mesh} (hI:UnI ms k h i Qp) (hq:ms[i]?=some m) :
  ((Z0 [m] k h).2≠0->Z0 ms k h=([],(Z0 [m] k h).2))/\((Z0 [m] k h).2=0->UnI ms k h (i+1) (Wh Qp (Z0 [m] k h).1)):=by
 rcases hI with⟨hv,ha⟩ | ⟨hv,h0,hw⟩
 ·rw[Qee hv]
  rw[Q83 hq]at ha
  constructor
  ·intro hne
   split at hne
   ·rename_i h1
    rw[if_pos h1]at ha ⊢
    exact ha.symm
   ·simp at hne
  ·intro h0
   split at h0
   ·rename_i h1;exact absurd h0 h1
   ·rename_i h1
    rw[if_neg h1]at ha ⊢
    exact .inl ⟨hv,ha⟩
 ·rw[Em hv,Em hv]
  exact⟨λ_=>rfl,λh=>by simp at h⟩
theorem UnI.done {ms:List Mesh} {k h:Int} {Qp:List (List Rw)} (hI:UnI ms k h ms.length Qp):(ms.length=0∨(Z0 ms k h).2=0)/\(Z0 ms k h).1=Qp:=by
 rcases hI with⟨hv,ha⟩ | ⟨hv,h0,hw⟩
 ·rw[List.drop_length]at ha
  rw[<- ha]
  exact⟨.inr rfl,rfl⟩
 ·rw[Em hv,hw]
  exact⟨.inl h0,rfl⟩
section
variable {P:Program} (hm:P.follows .mixedOrders=true)
include hm
theorem StackUnites_ok {f fl fw fs fa fu fe:FuncId} (hf:Q9 P f (L08.c fl fw fs fa fu fe) L08.r L08.n) (hl:LowC P fl) (hwk:Qgv P fw) (hs:Q39 P fs) (ha:AtHC P fa) (ha2:AtC P fa) (hu:Qln P fu) (he:Qai P fe) (ms:List Mesh) (s:Sett) :
  PureC P f [msV ms,s.enc] (·=.b true):=by
 have c0:=hl ms s
 have hv:=Q70 ms s.pitch s.height
 refine Q7 hm hf (qh rfl) ?_
 unfold L08.c
 have s1:s.cs.length=20:=rfl
 have s2:List.take 20 s.cs=s.cs:=rfl
 have s3:List.flatMap V.ids1 s.cs=[]:=rfl
 simp[go_sem,Sett.enc,s1,s2]
 refine (c0.lift rfl _).mono ?_
 rintro r h' ⟨⟨b,rfl,hb⟩,rfl⟩
 cases b with
 | false =>
   simp[go_sem]
   refine Q4 hwk ?_
   simp[go_sem,L08.r]
 | true =>
 have h4:=hb rfl
 have c1:=hs ms s (by omega)
 have hst0:=UnI.start ms s.pitch s.height
 have hstep:=λ{i:Nat} {Qp:List (List Rw)} {m:Mesh} (hI:UnI ms s.pitch s.height i Qp) (hq:ms[i]?=some m)=>hI.step hq
 have hdone:=λ{Qp:List (List Rw)} (hI:UnI ms s.pitch s.height ms.length Qp)=>hI.done
 generalize Z0 ms s.pitch s.height=S at *
 obtain⟨L,e⟩:=S
 simp only[Sett.enc]at c1 hv hstep hdone
 obtain⟨hLv,hLl⟩:=hv
 simp[go_sem,s1,s2]
 refine Q4 c1 ?_
 simp[go_sem]
 refine Qs [.t 7 1] (α:=Nat × List O × Nat × List (List Rw)) (λp=>p.1<=ms.length/\UnI ms s.pitch s.height p.1 p.2.2.2/\J3 p.2.2.2/\p.2.2.2.length<=256/\(∃t,p.2.1=.arr 1 20 [s.cs]::t)/\∀N,p.2.1.length<=N->∀o∈p.2.1,o.cl N)
  (λp=>⟨[(0,msV ms),(3,.p 0 1 0 0),(5,Yk L),(6,.i .i64 e),(7,.own p.2.1.length (p.2.2.1+1) 0 p.2.2.2.length),(8,.i .i64 p.1)],p.2.1++[.arr (p.2.2.1+1) 1 (p.2.2.2.map rgE)]⟩)
  (λp=>ms.length-p.1) (0,[.arr 1 20 [s.cs]],0,[]) ⟨Nat.zero_le _,hst0,by simp[J3],by simp,⟨[],rfl⟩,λN _ o ho=>by
   rw[qn.1 ho]
   intro el hel x hx
   rw[qn.1 hel]at hx
   exact K3 s N x hx⟩ ?_ ?_
 ·simp[go_sem,msV,Zk]
  exact K3 s 2
 rintro⟨i,h,g,acc⟩ ⟨hi,hacc,hav,hal,⟨ht,hh⟩,hcl⟩
 simp only at hi hacc hav hal hh hcl ⊢
 have hg0:∀x:List O,(h++x)[0]?=some (.arr 1 20 [s.cs]):=λx=>by rw[hh];rfl
 by_cases hil:i=ms.length
 ·subst hil
  obtain⟨d1,d2⟩:=hdone hacc
  have d1:ms.length=0∨e=0:=d1
  have d2:L=acc:=d2
  subst d2
  have c5:=he L L hLv hLv (by omega) (by omega)
  rw[decide_eq_true rfl]at c5
  have hfz:∀x:List O,frz (h++(O.arr (g+1) 1 (L.map rgE)::x)) (.own h.length (g+1) 0 L.length)=some (Yk L):=λx=>frz_rgs (Qf _ _)
  by_cases h0:ms.length=0
  ·simp (disch:=omega) [go_sem,msV,Zk,h0]
   refine Zn (vs:=[Yk L,Yk L]) (by
    show [V.l 1 (L.map rgE),V.own h.length (g+1) 0 L.length].mapM (frz _)=_
    simp only[List.mapM_cons,List.mapM_nil,hfz []]
    rfl) c5 ?_
   simp[go_sem]
   refine Q4 hwk ?_
   simp[go_sem,L08.r]
  ·have he0:e=0:=d1.resolve_left h0
   have h0b:((ms.length:Int) == 0)=false:=beq_eq_false_iff_ne.2 (by omega)
   simp (disch:=omega) [go_sem,msV,Zk,h0,h0b,he0]
   refine Zn (vs:=[Yk L,Yk L]) (by
    show [V.l 1 (L.map rgE),V.own h.length (g+1) 0 L.length].mapM (frz _)=_
    simp only[List.mapM_cons,List.mapM_nil,hfz []]
    rfl) c5 ?_
   simp[go_sem]
   refine Q4 hwk ?_
   simp[go_sem,L08.r]
 have hlt:i<ms.length:=by omega
 have hq:ms[i]?=some ms[i]:=q9 hlt
 have hsp:=hstep hacc hq
 have hpc:=hs [ms[i]] s (by simp)
 have hpv:=Q70 [ms[i]] s.pitch s.height
 generalize ms[i]=m at *
 obtain⟨_,hq'⟩:=q8.1 hq
 generalize Z0 [m] s.pitch s.height=T at *
 obtain⟨l,e2⟩:=T
 simp only at hsp hpc hpv
 obtain⟨p1,p2⟩:=hsp
 simp only[Sett.enc]at hpc
 have m1:m.cs.length=2:=rfl
 have m2:List.take 2 m.cs=m.cs:=rfl
 have m3:List.flatMap V.ids1 m.cs=[]:=rfl
 have hmcl:∀n,∀x∈m.cs,x.cl n=true:=λn x hx=>by
  simp[Mesh.cs]at hx
  rcases hx with rfl | rfl<;>rfl
 simp (disch:=omega) [go_sem,msV,hlt,hq,hq',hg0,m1,m2,m3,s1,s2,s3,Q0]
 refine⟨hmcl _,Q1b (id:=h.length+1) (o:=.arr 1 2 [m.cs]) (o':=.dead) (Qg _ _ 1) (λh2 hh=>Zn (vs:=[msV [m],.a s.cs]) (by
  have hmd:∀x∈m.cs,x.isD=true:=λx hx=>by
   simp[Mesh.cs]at hx
   rcases hx with rfl | rfl<;>rfl
  have hma:(m.cs.all V.isD)=true:=qj.2 hmd
  simp only[X4,List.mapM_cons,List.mapM_nil,frz,X5,hh,Sett.cs]
  rw[if_pos ⟨trivial,by simp,by simp[hma]⟩]
  rfl) hpc ⟨rfl,rfl⟩) (.inr (by simp)) (by rfl) ?_⟩
 by_cases he0:e2=0
 case neg =>
  have heb:(e2 != 0)=true:=by simpa using he0
  have hR:=p1 he0
  simp only[Prod.mk.injEq]at hR
  obtain⟨rL,rE⟩:=hR
  subst rL
  subst rE
  simp (disch:=omega) [go_sem,Qn,Zk,he0,heb]
  refine Q4 hwk ?_
  simp[go_sem,L08.r]
 subst he0
 have hnx:=p2 rfl
 obtain⟨hlv,hll⟩:=hpv
 simp (disch:=omega) [go_sem,Qn,Zk,Q0]
 obtain⟨U,hU⟩:∃U:Nat->List (List Rw),∀j,U j=(Wh acc l).take j:=⟨_,λ_=>rfl⟩
 have hU0:U 0=[]:=by rw[hU];rfl
 obtain⟨M,hM⟩:∃M,M=max acc.length l.length:=⟨_,rfl⟩
 have hUn:U M=Wh acc l:=by rw[hU,hM];exact qe (by rw[Jm];omega)
 have hMb:M<=256:=by omega
 have hUl:∀j,j<=M->(U j).length=j:=λj hj=>by rw[hU,qv,Jm];omega
 refine Qs [.t 11 1] (α:=Nat × Nat) (λp=>p.1<=M)
  (λp=>⟨[(0,msV ms),(3,.p 0 1 0 0),(5,Yk L),(6,.i .i64 e),(7,.own h.length (g+1) 0 acc.length),(8,.i .i64 i),(9,Yk l),(11,.own (h.length+2) (p.2+1) 0 (U p.1).length),(12,.i .i64 p.1)],h++[.arr (g+1) 1 (acc.map rgE),.dead,.arr (p.2+1) 1 ((U p.1).map rgE)]⟩)
  (λp=>M-p.1) (0,0) (by simp) ?_ ?_
 ·simp[go_sem,msV,Zk,hU0]
  exact Qr (λo ho=>hcl _ (by omega) o ho) ⟨.inr ⟨rfl,Uc _ _ _⟩,.inl rfl,.inr ⟨rfl,λel hel=>by simp at hel⟩,trivial⟩
 rintro⟨j,g2⟩ hj
 simp only at hj ⊢
 have hUj:=hUl j hj
 have hmx:(if acc.length<l.length then (l.length:Int) else (acc.length:Int))=(M:Int):=by rw[hM];split<;>omega
 by_cases hjl:j=M
 ·subst hjl
  rw[hUn]
  have hul:=Jm acc l
  simp (disch:=omega) [go_sem,Zk,hmx,Qf,Q0]
  exact⟨i+1,h++[.arr (g+1) 1 (acc.map rgE),.dead],g2,Wh acc l,⟨by omega,hnx,Qe3 _ _,by omega,⟨ht++[.arr (g+1) 1 (acc.map rgE),.dead],by rw[hh];rfl⟩,λN hN o ho=>by
   have q:o.cl N:=by
    rcases qg.1 ho with h1 | h1
    ·exact hcl N (by rw[j3]at hN;omega) o h1
    ·simp only[List.mem_cons,List.not_mem_nil,or_false]at h1
     rcases h1 with rfl | rfl
     ·exact Uc acc N (g+1)
     ·trivial
   cases o with
   | mp es=>exact λa b hab=>q (a,b) hab
   | md es=>exact λa b hab=>q (a,b) hab
   | arr g sz els=>exact q
   | it mid since seen=>exact q
   | dead=>trivial⟩,by omega,by simp,⟨rfl,⟨by simp,rfl,rfl⟩,by omega⟩,by
   rw[qz]
   exact Qr (λo ho=>hcl _ (by simp;omega) o ho) ⟨.inr ⟨rfl,Uc _ _ _⟩,.inl rfl,.inr ⟨rfl,Uc _ _ _⟩,trivial⟩⟩
 have hjt:j<M:=by omega
 have hUs:U (j+1)=U j++[Xq (atR acc j) (atR l j)]:=by rw[hU,hU];exact Qib (by omega)
 have c6:=ha (h++[.arr (g+1) 1 (acc.map rgE),.dead,.arr (g2+1) 1 ((U j).map rgE)]) h.length (g+1) acc j (by omega) (by omega) (Qf _ _)
 have c7:=ha2 l j (by omega) (by omega)
 have hav2:=Qdg hav j
 have hlv2:=Qdg hlv j
 have c3:=hu (atR acc j) (atR l j) hav2.1 hlv2.1 hav2.2 hlv2.2
 have c4:CallIs P fu [atV acc j,rgV (atR l j)] (rgV (Xq (atR acc j) (atR l j))):=CallIs.lel (show LeL Le [atV acc j,rgV (atR l j)] [rgV (atR acc j),rgV (atR l j)] from ⟨atV_le _ _,Le.refl _,trivial⟩) c3
 generalize Xq (atR acc j) (atR l j)=q at *
 have htk:List.take j ((U j).map rgE)=(U j).map rgE:=qe (by simp[hUj])
 simp (disch:=omega) [go_sem,Zk,hmx,Qf,hjt,Q0]
 refine Qt c6 ?_
 simp (disch:=omega) [go_sem,Zk,Q0]
 refine Q4 c7 ?_
 simp (disch:=omega) [go_sem,Q0]
 refine Q4 c4 ?_
 simp (disch:=omega) [go_sem,rgV,V.cells,V.okA,Qg,Qn,Qf,hUj,htk,Q0]
 exact⟨⟨by omega,by omega⟩,j+1,by omega,by omega,g2+1,⟨.inr rfl,⟨rfl,by rw[hUs];simp[hUj]⟩,by omega⟩,by
  rw[hUs,qw]
  exact Qr (λo ho=>hcl _ (by omega) o ho) ⟨.inr ⟨rfl,Uc _ _ _⟩,.inl rfl,.inr ⟨rfl,by rw[<- qw];exact Uc _ _ _⟩,trivial⟩⟩
end
def schSt:List Sch:=[.i .i64,.i .i64,.i .i64,.i .i64,.i .i64,.i .i64,.i .i64,.b,.i .i64,.i .i64,.i .i64,.i .i64,.i .i64,.i .i64,.i .i64,.i .i64,.i .i64,.i .i64,.i .i64,.i .i64]
theorem mesh_of {e:List V} (h:okL schM e):∃m:Mesh,e=m.cs:=by
 simp only[schM,okL,Sch.ok]at h
 obtain⟨v1,r1,rfl,⟨els,rfl,hl,he⟩,v2,r2,rfl,⟨els2,rfl,hl2,he2⟩,rfl⟩:=h
 obtain⟨vs,rfl⟩:=Q33 (λe=>v3_of) els he
 obtain⟨ts,rfl⟩:=Q33 (λe=>t3_of) els2 he2
 exact⟨⟨vs,ts⟩,rfl⟩
theorem par_ms {ps:List (Bool × List Sch)} {us:List V} (h:K8 ((false,[.sl schM])::ps) us):∃(ms:List Mesh) (r:List V),us=msV ms::r/\ms.length<=9223372036854775807/\K8 ps r:=by
 simp only[K8,Qhb]at h
 obtain⟨v,r,rfl,h1,hr⟩:=h
 simp only[okL,Sch.ok]at h1
 obtain⟨x,r',h2,⟨els,rfl,hl,he⟩,rfl⟩:=h1
 obtain rfl:v=.l 2 els:=by simpa[schM]using h2
 obtain⟨ms,rfl⟩:=Q33 (λe=>mesh_of) els he
 exact⟨ms,r,rfl,by simpa using hl,hr⟩
theorem par_st {ps:List (Bool × List Sch)} {us:List V} (h:K8 ((true,schSt)::ps) us):∃(s:Sett) (r:List V),us=s.enc::r/\K8 ps r:=by
 simp only[K8,Qhb]at h
 obtain⟨v,r,rfl,⟨cs,rfl,hc⟩,hr⟩:=h
 simp only[schSt,okL,Sch.ok]at hc
 obtain⟨_,_,rfl,⟨a1,rfl,_⟩,_,_,rfl,⟨a2,rfl,_⟩,_,_,rfl,⟨a3,rfl,_⟩,_,_,rfl,⟨a4,rfl,_⟩,_,_,rfl,⟨a5,rfl,_⟩,_,_,rfl,⟨a6,rfl,_⟩,_,_,rfl,⟨a7,rfl,_⟩,_,_,rfl,⟨b,rfl⟩,_,_,rfl,⟨a8,rfl,_⟩,_,_,rfl,⟨a9,rfl,_⟩,_,_,rfl,⟨a10,rfl,_⟩,_,_,rfl,⟨a11,rfl,_⟩,
  _,_,rfl,⟨a12,rfl,_⟩,_,_,rfl,⟨a13,rfl,_⟩,_,_,rfl,⟨a14,rfl,_⟩,_,_,rfl,⟨a15,rfl,_⟩,_,_,rfl,⟨a16,rfl,_⟩,_,_,rfl,⟨a17,rfl,_⟩,_,_,rfl,⟨a18,rfl,_⟩,_,_,rfl,⟨a19,rfl,_⟩,rfl⟩:=hc
 exact⟨⟨a1,a2,a3,a4,a5,a6,a7,b,a8,a9,a10,a11,a12,a13,a14,a15,a16,a17,a18,a19⟩,r,rfl,hr⟩
theorem Qjk (e:Int):Le (.t [.nil,.i .i64 e]) (.t [Qw [],.i .i64 e]):=.inr ⟨_,_,rfl,rfl,.inl (Le0.nil 1),Le1.refl _,trivial⟩
theorem Qbx {p:P2} (h:(-65536<=p.x/\p.x<=65536)/\-65536<=p.y/\p.y<=65536):p.valid=true:=P2.valid_iff.2 ⟨by omega,by omega,by omega,by omega⟩
theorem Q73 {l:List Sg4} (h:Qi3 l) {s:Sg4} (hs:s∈l):s.eg.1.valid=true/\s.eg.2.valid=true:=by
 obtain⟨a,b,c,d⟩:=h.2 s.eg (qo.2 ⟨s,hs,rfl⟩)
 exact⟨Qbx ⟨a,b⟩,Qbx ⟨c,d⟩⟩
theorem Qh3 (s:Sg4):s.eg.1.enc=.a [.i .i64 s.a.1,.i .i64 s.a.2]:=rfl
theorem Qh2 (s:Sg4):s.eg.2.enc=.a [.i .i64 s.b.1,.i .i64 s.b.2]:=rfl
theorem J0 {h l:List O} {id:Nat} (hid:id<h.length):(h++l)[id]?=h[id]?:=qd hid
theorem Bv {h l:List O} {id:Nat} (hid:id<h.length) (o:O):(h++l).set id o=h.set id o++l:=List.set_append_left _ _ hid
end Go.Abs
