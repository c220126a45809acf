/- Part of the library on which the proof stands: an abstract machine, its values and its soundness against the model; or what functions of the program do to such values. -/
import Derived.Test.YtnaehggpjfdenaaGreatGoSkJ
import Derived.Test.YtnaehggpjfdenaaGreatGoSecD
import Derived.Test.YtnaehggpjfdenaaGreatGoRw
import Derived.Test.YtnaehggpjfdenaaGreatGoSkB
import Derived.Test.YtnaehggpjfdenaaGreatAbsCP
import Derived.Test.YtnaehggpjfdenaaGreatGoSkE
import Derived.Test.YtnaehggpjfdenaaGreatGoMapG
import Derived.Test.YtnaehggpjfdenaaGreatGoUnG
set_option linter.unusedVariables false
set_option linter.unusedSimpArgs false
set_option maxHeartbeats 16000000
set_option maxRecDepth 20000
namespace Go.Abs
theorem Qj8 (c z0 z1 z:Int) (h1:z0<=z) (h2:z<z1):Q5u c c z0 z1 z=c:=by
 have:=Q8w (c0:=c) (c1:=c) h1 h2
 omega
theorem U6 {c d e:Int} (P:P2):Q26 (⟨c,e⟩,⟨d,e⟩) P=0:=by
 unfold Q26
 rw[if_neg (by simp only[];omega),if_neg (by simp only[];omega)]
theorem Qgd {c a b:Int} (h:a<=b) (P:P2):Q26 (⟨c,a⟩,⟨c,b⟩) P=if a<=P.y/\P.y<b/\P.x<c then 1 else 0:=by
 unfold Q26
 simp only[]
 have e:Jm ⟨c,a⟩ ⟨c,b⟩ P=(b-a)*(c-P.x):=by unfold Jm;simp only[];grind
 rw[e]
 by_cases h1:a<=P.y/\P.y<b
 ·by_cases h2:P.x<c
  ·rw[if_pos ⟨h1.1,h1.2,Int.mul_pos (by omega) (by omega)⟩,if_pos ⟨h1.1,h1.2,h2⟩]
  ·have:(b-a)*(c-P.x)<=0:=Int.mul_nonpos_of_nonneg_of_nonpos (by omega) (by omega)
   rw[if_neg (by omega),if_neg (by omega),if_neg (by omega)]
 ·rw[if_neg (by omega),if_neg (by omega),if_neg (by omega)]
theorem Qge {c a b:Int} (h:b<=a) (P:P2):Q26 (⟨c,a⟩,⟨c,b⟩) P=if b<=P.y/\P.y<a/\P.x<c then -1 else 0:=by
 unfold Q26
 simp only[]
 have e:Jm ⟨c,a⟩ ⟨c,b⟩ P=-((a-b)*(c-P.x)):=by unfold Jm;simp only[];grind
 rw[e]
 by_cases h1:b<=P.y/\P.y<a
 ·by_cases h2:P.x<c
  ·have:=Int.mul_pos (show 0<a-b by omega) (show 0<c-P.x by omega)
   rw[if_neg (by omega),if_pos (by omega),if_pos ⟨h1.1,h1.2,h2⟩]
  ·have:(a-b)*(c-P.x)<=0:=Int.mul_nonpos_of_nonneg_of_nonpos (by omega) (by omega)
   rw[if_neg (by omega),if_neg (by omega),if_neg (by omega)]
 ·rw[if_neg (by omega),if_neg (by omega),if_neg (by omega)]
theorem box_wnd {p s:V3} (h1:1<=s.x) (h2:1<=s.y) (h3:1<=s.z) (hp:p.valid=true) (hs:(p.add s).valid=true) {z:Int} (z1:p.z<=z) (z2:z<p.z+s.z) (P:P2) :
  0<wnd (egs (Zv ⟨Qa p s,Qh⟩ z Qh)) P↔(p.x<=P.x/\P.x<p.x+s.x)/\p.y<=P.y/\P.y<p.y+s.y:=by
 have q1:=V3.valid_iff.1 hp
 have q2:=V3.valid_iff.1 hs
 simp only[V3.add]at q2
 have val:∀x y w:Int,(p.x<=x/\x<=p.x+s.x)->(p.y<=y/\y<=p.y+s.y)->(p.z<=w/\w<=p.z+s.z)->(⟨x,y,w⟩:V3).valid=true:=λx y w a b c=>by
  rw[V3.valid_iff];simp only;omega
 have v0:=val p.x p.y p.z (by omega) (by omega) (by omega)
 have v1:=val (p.x+s.x) p.y p.z (by omega) (by omega) (by omega)
 have v2:=val p.x (p.y+s.y) p.z (by omega) (by omega) (by omega)
 have v3:=val (p.x+s.x) (p.y+s.y) p.z (by omega) (by omega) (by omega)
 have v4:=val p.x p.y (p.z+s.z) (by omega) (by omega) (by omega)
 have v5:=val (p.x+s.x) p.y (p.z+s.z) (by omega) (by omega) (by omega)
 have v6:=val p.x (p.y+s.y) (p.z+s.z) (by omega) (by omega) (by omega)
 have v7:=val (p.x+s.x) (p.y+s.y) (p.z+s.z) (by omega) (by omega) (by omega)
 have n1:¬ z<p.z:=by omega
 have n2:¬ p.z+s.z<=z:=by omega
 have sm:=λc=>Qj8 c p.z (p.z+s.z) z z1 z2
 obtain⟨L,hL⟩:∃L,egs (Zv ⟨Qa p s,Qh⟩ z Qh)=L:=⟨_,rfl⟩
 rw[hL]
 simp[egs,Zv,Jx,Qh,Mesh.v,Qa,Q5t,Jl,Sg4.init,Sg4.step,Sg4.eg,point,v0,v1,v2,v3,v4,v5,v6,v7,z1,z2,n1,n2,sm]at hL
 have hy:=Q8w (c0:=p.y) (c1:=p.y+s.y) z1 z2
 generalize Q5u p.x (p.x+s.x) p.z (p.z+s.z) z=a at hL
 generalize Q5u p.y (p.y+s.y) p.z (p.z+s.z) z=q at hL hy
 rw[<- hL]
 simp only[I2,wnd_nil]
 rw[U6,U6,U6,U6,Qge (by omega),Qge (by omega),Qgd (by omega),Qgd (by omega)]
 constructor
 ·intro h
  by_cases c1:p.y<=P.y/\P.y<q<;>by_cases c2:q<=P.y/\P.y<p.y+s.y<;>by_cases c3:P.x<p.x<;>by_cases c4:P.x<p.x+s.x<;>simp[c1,c2,c3,c4]at h<;>omega
 ·rintro⟨⟨c3,c4⟩,c1,c2⟩
  by_cases c5:P.y<q
  ·rw[if_neg (by omega),if_neg (by omega),if_neg (by omega),if_pos ⟨c1,c5,c4⟩];omega
  ·rw[if_neg (by omega),if_neg (by omega),if_pos ⟨by omega,c2,c4⟩,if_neg (by omega)];omega
def Zx (x y w d:Int):List Rw:=(List.range d.toNat).map λ(i:Nat)=>⟨y+i,[⟨x,x+w⟩]⟩
theorem Q2a {x y w d:Int} (hw:1<=w):RgV (Zx x y w d):=by
 refine⟨λr hr=>?_,λr hr=>?_,?_⟩
 ·obtain⟨i,_,rfl⟩:=qq.1 hr
  exact⟨by simp;omega,by simp⟩
 ·obtain⟨i,_,rfl⟩:=qq.1 hr
  simp
 ·unfold Zx
  rw[jf]
  exact List.pairwise_lt_range.imp λ{a b} h=>by simp only[];omega
theorem in_rectR {x y w d b a:Int}:Wf (Zx x y w d) b a↔(y<=b/\b<y+d)/\x<=a/\a<x+w:=by
 constructor
 ·rintro⟨r,hr,rfl,hx⟩
  obtain⟨i,hi,rfl⟩:=qq.1 hr
  have:=j3.1 hi
  rw[inRns_cons]at hx
  simp only[Qk,or_false]at hx
  exact⟨by simp only[];omega,hx⟩
 ·rintro⟨h1,h2⟩
  refine⟨⟨y+((b-y).toNat:Int),[⟨x,x+w⟩]⟩,qq.2 ⟨(b-y).toNat,j3.2 (by omega),rfl⟩,by simp only[];omega,inRns_cons.2 (.inl h2)⟩
theorem U8 {x X k:Int} (hk:2<=k):x*k<=X*k+k / 2↔x<=X:=by
 constructor
 ·intro h
  refine j9 λhn=>?_
  have h2:=ji (show X+1<=x by omega) (show 0<=k by omega)
  have e:(X+1)*k=X*k+k:=by grind
  omega
 ·intro h
  have h2:=ji h (show 0<=k by omega)
  omega
theorem box_ras {x y w d k:Int} {p s:V3} (hw:1<=w) (hd:1<=d) (hk:32<=k) (hx:-4096<=x/\x+w<=4096) (hy:-4096<=y/\y+d<=4096) (px:p.x=x*k) (py:p.y=y*k) (sx:s.x=w*k) (sy:s.y=d*k)
  (h3:1<=s.z) (hp:p.valid=true) (hs:(p.add s).valid=true) {z:Int} (z1:p.z<=z) (z2:z<p.z+s.z):Ui (egs (Zv ⟨Qa p s,Qh⟩ z Qh)) k=Zx x y w d:=by
 have hwk:k<=w*k:=by have:=ji hw (show 0<=k by omega);omega
 have hdk:k<=d*k:=by have:=ji hd (show 0<=k by omega);omega
 unfold Ui
 refine (Q6x (Q2a hw) λb a=>?_).symm
 rw[decide_eq_true_eq,box_wnd (by omega) (by omega) h3 hp hs z1 z2,in_rectR]
 have e1:(ctr k b a).x=a*k+k / 2:=rfl
 have e2:(ctr k b a).y=b*k+k / 2:=rfl
 rw[e1,e2,px,py,sx,sy,U8 (by omega),U8 (by omega)]
 have f1:x*k+w*k=(x+w)*k:=by grind
 have f2:y*k+d*k=(y+d)*k:=by grind
 have g1:a*k+k / 2<(x+w)*k↔a<x+w:=by
  have:=U8 (x:=x+w) (X:=a) (k:=k) (by omega)
  omega
 have g2:b*k+k / 2<(y+d)*k↔b<y+d:=by
  have:=U8 (x:=y+d) (X:=b) (k:=k) (by omega)
  omega
 rw[f1,f2,g1,g2]
 constructor
 ·rintro⟨c1,c2⟩
  exact⟨by omega,by omega,c2,c1⟩
 ·rintro⟨_,_,c2,c1⟩
  exact⟨c1,c2⟩
theorem Qna {h n:Int} (hh:4<=h) (hev:h % 2=0) (hn:1<=n):Qbj (n*h) h=n.toNat:=by
 have key:∀i:Nat,i<Qbj (n*h) h↔i<n.toNat:=λi=>by
  rw[Qg9 (by omega)]
  have:=U8 (x:=n) (X:=(i:Int)) (k:=h) (by omega)
  omega
 have a:=key (Qbj (n*h) h)
 have b:=key n.toNat
 omega
theorem Q4d {x y w d n k h:Int} {p s:V3} (hw:1<=w) (hd:1<=d) (hk:Zf k 32 1024=true) (hh:Zf h 4 1024=true) (hx:-4096<=x/\x+w<=4096) (hy:-4096<=y/\y+d<=4096) (px:p.x=x*k) (py:p.y=y*k) (pz:p.z=0) (sx:s.x=w*k) (sy:s.y=d*k) (sz:s.z=n*h)
  (hn:1<=n) (hn2:n<=256) (hp:p.valid=true) (hs:(p.add s).valid=true):Wy [⟨Qa p s,Qh⟩] k h=(List.replicate n.toNat (Zx x y w d),0):=by
 have hk2:32<=k:=by
  unfold Zf at hk
  simp only[Bool.and_eq_true,decide_eq_true_eq]at hk
  exact hk.1.1
 have hh2:4<=h/\h % 2=0:=by
  unfold Zf at hh
  simp only[Bool.and_eq_true,decide_eq_true_eq]at hh
  exact⟨hh.1.1,hh.2⟩
 have hwk:k<=w*k:=by have:=ji hw (show 0<=k by omega);omega
 have hdk:k<=d*k:=by have:=ji hd (show 0<=k by omega);omega
 have hnh:h<=n*h:=by have:=ji hn (show 0<=h by omega);omega
 obtain⟨b1,b2⟩:=box_ok (p:=p) (s:=s) (by omega) (by omega) (by omega) hp hs
 have hclo:=(Q6y (p:=p) (s:=s) (by omega) (by omega) (by omega) hp hs).a
 have q2:=V3.valid_iff.1 hs
 simp only[V3.add]at q2
 have hzs:∀z∈Kp h n.toNat,0<=z/\z<n*h:=λz hz=>by
  unfold Kp at hz
  obtain⟨i,hi,rfl⟩:=qq.1 hz
  have:=j3.1 hi
  have h1:0<=(i:Int)*h:=Int.mul_nonneg (by omega) (by omega)
  have h2:=U8 (x:=n) (X:=(i:Int)) (k:=h) (by omega)
  omega
 have hsl:∀z∈Kp h n.toNat,Zb ⟨Qa p s,Qh⟩ z k=(Zx x y w d,0):=λz hz=>by
  have:=hzs z hz
  rw[Q7h hclo (by omega) hk]
  rw[box_ras hw hd hk2 hx hy px py sx sy (by omega) hp hs (by omega) (by omega)]
 have hlo:(bLo (Qa p s)).z=0:=by
  simp[Qa,bLo,Q5w,pz]
  omega
 have hhi:(bHi (Qa p s)).z=n*h:=by
  simp[Qa,bHi,Q0m,pz,sz]
  omega
 have hpart:Jf ⟨Qa p s,Qh⟩ k h=(List.replicate n.toNat (Zx x y w d),0):=by
  have hg:Q0e (n*h) h=(Kp h n.toNat,0):=by
   unfold Q0e
   rw[if_neg (by rw[hh];simp),Qna hh2.1 hh2.2 hn,if_neg (by omega)]
  unfold Jf
  rw[if_neg (by simp[b2]),if_neg (by simp[Qa]),hlo,hhi,if_neg (by omega),hg,if_neg (by simp)]
  rw[I6 λz hz=>by rw[hsl z hz]]
  congr 1
  refine qz λi=>?_
  rw[qr,jg]
  by_cases hi:i<n.toNat
  ·obtain⟨z,hq⟩:∃z,(Kp h n.toNat)[i]?=some z:=⟨_,qb (by rw[Wh];exact hi)⟩
   rw[if_pos hi,hq]
   simp only[Option.map_some]
   rw[hsl _ (qe hq)]
  ·rw[if_neg hi,qm (by rw[Wh];omega)];rfl
 have hrb:RgB (Zx x y w d):=λb a hba=>by
  have:=in_rectR.1 hba
  omega
 unfold Wy
 rw[if_neg (by rw[hk,hh];simp)]
 unfold Q4e
 rw[hpart,if_neg (by simp)]
 unfold Q4e
 simp only
 rw[Qkn λg hg=>by rw[(List.mem_replicate.1 hg).2];exact⟨Q2a hw,hrb⟩]
def Qcf (P:Program) (f:FuncId):Prop:=∀x y w d:Int,(-10000<=x/\x<=10000)->(-10000<=y/\y<=10000)->(0<=w/\w<=10000)->(0<=d/\d<=10000)->CallIs P f [.i .i64 x,.i .i64 y,.i .i64 w,.i .i64 d] (rgV (Zx x y w d))
theorem Q6f {α β γ:Type} {f:β->Option γ} {g:α->β} {k:α->γ}:∀{l:List α},(∀a∈l,f (g a)=some (k a))->(l.map g).mapM f=some (l.map k)
 | [],_=>rfl
 | a::l,h=>by
   have ih:=Q6f (f:=f) (g:=g) (k:=k) (l:=l) λb hb=>h b (by simp[hb])
   simp only[List.map_cons,List.mapM_cons,h a (by simp),ih]
   rfl
def rcE (x y w:Int) (j:Nat):List V:=[.i .i64 (y+j),.own (3+j) 1 0 1]
def rcO (x w:Int):O:=.arr 1 2 [[.i .i64 x,.i .i64 (x+w)]]
theorem rcE_cl (x y w:Int) {i n:Nat} (h:i+3<=n):∀el∈(List.range i).map (rcE x y w),∀c∈el,c.cl n=true:=λel hel c hc=>by
 obtain⟨j,hj,rfl⟩:=qq.1 hel
 have:=j3.1 hj
 simp[rcE]at hc
 rcases hc with rfl | rfl
 ·rfl
 ·simp[V.cl,V.cl1,V.cl0];omega
theorem Qlm (x w:Int):∀(i n:Nat) (l:List O),WeakH n (List.replicate i (rcO x w)++l) (List.replicate i (rcO x w))
 | 0,n,l=>by simp[WeakH]
 | i+1,n,l=>by
   rw[List.replicate_succ]
   exact⟨.inr ⟨rfl,by simp[rcO,O.cl,V.cl,V.cl1,V.cl0]⟩,Qlm x w i n l⟩
section
variable {P:Program} (hm:P.follows .mixedOrders=true)
include hm
theorem Em {f:FuncId} (hf:Q9 P f L09.c L09.r L09.n):Qcf P f:=by
 intro x y w d hx hy hw hd
 obtain⟨D,rfl⟩:∃D:Nat,d=D:=⟨d.toNat,by omega⟩
 refine PureC.is (Qlo hm hf (qj rfl) ?_) rfl
 unfold L09.c
 simp[go_sem]
 refine Z0 [.c 1 0 0 2] (α:=Nat) (λi=>i<=D)
  (λi=>⟨[(0,.i .i64 x),(1,.i .i64 y),(2,.i .i64 w),(3,.i .i64 D),(8,.p 0 1 0 0),(9,.p 1 1 0 0),(10,.i .i64 i)],.arr 1 1 [[.nil]]::.arr 1 1 [[.own 2 (i+1) 0 i]]::.arr (i+1) 2 ((List.range i).map (rcE x y w))::List.replicate i (rcO x w)⟩)
  (λi=>D-i) 0 (Nat.zero_le _) ?_ ?_
 ·simp[go_sem]
 intro i hi
 by_cases hil:i=D
 ·subst hil
  simp[go_sem,L09.r]
  have ht:List.take i ((List.range i).map (rcE x y w))=(List.range i).map (rcE x y w):=qg (by simp)
  rw[ht,Q6f (k:=λ(j:Nat)=>[.i .i64 (y+j),.l 2 [[.i .i64 x,.i .i64 (x+w)]]]) λj hj=>by
   have hji:=j3.1 hj
   have hg:∀A B C:O,(A::B::C::List.replicate i (rcO x w))[3+j]?=some (rcO x w):=λA B C=>by
    rw[show 3+j=j+1+1+1 by omega]
    simp[hji]
   simp only[rcE,List.mapM_cons,List.mapM_nil,Up,Yx,hg,V.isD]
   simp[rcO,V.isD]]
  simp[rgV,Zx,Rw.cs,Qj,Rn.cs,Y8]
 have hlt:i<D:=by omega
 have ht:List.take i ((List.range i).map (rcE x y w))=(List.range i).map (rcE x y w):=qg (by simp)
 have hgi:∀a b:O,(List.replicate i (rcO x w)++[a,b])[i+1]?=some b:=λa b=>by
  rw[qh (by simp)];simp
 simp (disch:=omega) [go_sem,hlt,ht,hgi,Q3]
 refine⟨⟨by omega,by omega⟩,i+1,by omega,by omega,by omega,by omega,rfl,⟨⟨rfl,?_⟩,λa ha c hc=>rcE_cl x y w (i:=i+1) (by omega) _ (List.mem_map_of_mem (j3.2 ha)) c hc⟩,?_⟩
 ·rw[List.range_succ,qy]
  simp[rcE]
  omega
 ·have e:∀b:O,List.replicate i (rcO x w)++[rcO x w,b]=List.replicate (i+1) (rcO x w)++[b]:=λb=>by
   rw[List.replicate_succ'];simp
  have e2:=e (O.arr 1 2 [[V.i IntKind.i64 (y+↑i),V.own (i+1+1+1) 1 0 1]])
  have:=Qlm x w (i+1) (i+1+1+1+1) [O.arr 1 2 [[V.i IntKind.i64 (y+↑i),V.own (i+1+1+1) 1 0 1]]]
  rw[<- e2]at this
  exact this
end
theorem Qfr {x y w d:Int} (hx:-4096<=x/\x+w<=4096) (hy:-4096<=y/\y+d<=4096):RgB (Zx x y w d):=λb a hba=>by
 have:=in_rectR.1 hba
 omega
def exMesh:Mesh:=⟨Qa ⟨0,0,0⟩ ⟨80,40,40⟩,Qh⟩
theorem Q5r (s:Sett) (h1:s.pitch=40) (h2:s.height=20):Wy [exMesh] s.pitch s.height=([Zx 0 0 2 1,Zx 0 0 2 1],0):=by
 rw[h1,h2]
 exact Q4d (x:=0) (y:=0) (w:=2) (d:=1) (n:=2) (p:=⟨0,0,0⟩) (s:=⟨80,40,40⟩) (by omega) (by omega) (by decide) (by decide) (by omega) (by omega) rfl rfl rfl rfl rfl rfl (by omega) (by omega) (by decide) (by decide)
section
variable {P:Program} (hm:P.follows .mixedOrders=true)
include hm
theorem Q3v {f fh fb fs fr fe:FuncId} (hf:Q9 P f (L0a.c fh fb fs fr fe) L0a.r L0a.n) (hh:HgtC P fh) (hb:Qqk P fb) (hs:Bc P fs) (hr:Qcf P fr) (he:Qf4 P fe):Q4n P f:=by
 have c1:=hh 40 20 (by omega) (by omega)
 rw[show Q0e 40 20=([10,30],0) by decide]at c1
 have c2:=hb ⟨0,0,0⟩ ⟨80,40,40⟩ (by decide) (by decide)
 rw[show Q91 ⟨0,0,0⟩ ⟨80,40,40⟩=Q25 exMesh 0 by rfl]at c2
 have c3:=hs [exMesh] ⟨40,20,0,0,0,0,0,false,0,0,0,0,0,0,0,0,0,0,0,0⟩ (by simp)
 rw[Q5r _ rfl rfl]at c3
 have c4:=hr 0 0 2 1 (by omega) (by omega) (by omega) (by omega)
 have hv:RgV (Zx 0 0 2 1)/\RgB (Zx 0 0 2 1):=⟨Q2a (by omega),Qfr (by omega) (by omega)⟩
 have hvs:W2 [Zx 0 0 2 1,Zx 0 0 2 1]:=λg hg=>by
  simp at hg
  rw[hg];exact hv
 have c5:=he [Zx 0 0 2 1,Zx 0 0 2 1] [Zx 0 0 2 1,Zx 0 0 2 1] hvs hvs (by simp) (by simp)
 rw[decide_eq_true rfl]at c5
 have hmc:exMesh.cs.length=2:=rfl
 have hmt:List.take 2 exMesh.cs=exMesh.cs:=rfl
 have hmd:∀x∈exMesh.cs,x.isD=true:=by
  intro x hx
  simp[Mesh.cs]at hx
  rcases hx with rfl | rfl<;>rfl
 have hmcl:∀n,∀x∈exMesh.cs,x.cl n=true:=λn x hx=>K1 n (hmd x hx)
 unfold Q25 Mesh.enc at c2
 unfold msV Sett.enc Sett.cs at c3
 simp only at c3
 generalize exMesh=m at *
 generalize Zx 0 0 2 1=R at *
 refine PureC.is (Q8 hm hf (qj rfl) ?_) rfl
 unfold L0a.c
 simp[go_sem]
 refine Q5 c1 ?_
 simp[go_sem,isV]
 refine Q5 c2 ?_
 simp[go_sem,V.cells,V.okA,hmc,hmt]
 have hma:∀x∈m.cs,x.isD=true:=hmd
 refine Y3 (vs:=[.l 2 [m.cs],.a [.i .i64 40,.i .i64 20,.i .i64 0,.i .i64 0,.i .i64 0,.i .i64 0,.i .i64 0,.b false,.i .i64 0,.i .i64 0,.i .i64 0,.i .i64 0,.i .i64 0,.i .i64 0,.i .i64 0,.i .i64 0,.i .i64 0,.i .i64 0,.i .i64 0,.i .i64 0]]) (by
  simp[Yr,frz,Yx]
  rw[if_pos hma];rfl) c3 ?_
 simp[go_sem,V.ids2,V.ids1,V.ids0,Q0z,Xf]
 refine Q5 c4 ?_
 simp[go_sem]
 refine Q5 c4 ?_
 simp[go_sem,rgV]
 refine Y3 (vs:=[Jy [R,R],Jy [R,R]]) (by simp[Yr,frz,Yx,Xf,rgE,rwL,V.isD]) c5 ?_
 simp[go_sem,L0a.r]
end
def Qqj (p q:V3) (s:Sett):Prop:=(32<=s.pitch/\s.pitch<=1024/\s.pitch % 2=0/\4<=s.height/\s.height<=1024/\s.height % 2=0)/\(-20<=p.x/\p.x<=20/\-20<=p.y/\p.y<=20)/\(1<=q.x/\q.x<=20/\1<=q.y/\q.y<=20/\1<=q.z/\q.z<=20)
section
variable {P:Program} (hm:P.follows .mixedOrders=true)
include hm
theorem Q5x {f fa fb fs fr fe:FuncId} (hf:Q9 P f (L08.c fa fb fs fr fe) L08.r L08.n) (ha:Q4n P fa) (p q:V3) (s:Sett) (hno:¬ Qqj p q s) :
  PureC P f [p.enc,q.enc,s.enc] (·=.b true):=by
 refine Q8 hm hf (qj rfl) ?_
 unfold L08.c
 have hpt:0<=s.pitch->s.pitch.tmod 2=s.pitch % 2:=λh=>jn h
 have hht:0<=s.height->s.height.tmod 2=s.height % 2:=λh=>jn h
 by_cases p1:s.pitch<32
 ·simp[go_sem,V3.enc,V3.cs,Sett.enc,Sett.cs,p1]
  refine Q5 ha ?_
  simp[go_sem,L08.r]
 by_cases p2:1024<s.pitch
 ·simp[go_sem,V3.enc,V3.cs,Sett.enc,Sett.cs,p1,p2]
  refine Q5 ha ?_
  simp[go_sem,L08.r]
 have hpt:=hpt (by omega)
 have w1:=Q3 (z:=s.pitch % 2) (by omega) (by omega)
 by_cases p3:s.pitch % 2=0
 case neg =>
  have hb1:(s.pitch % 2 != 0)=true:=by simpa using p3
  simp[go_sem,V3.enc,V3.cs,Sett.enc,Sett.cs,p1,p2,hpt,w1,p3,hb1]
  refine Q5 ha ?_
  simp[go_sem,L08.r]
 by_cases p4:s.height<4
 ·simp[go_sem,V3.enc,V3.cs,Sett.enc,Sett.cs,p1,p2,hpt,p3,p4]
  refine Q5 ha ?_
  simp[go_sem,L08.r]
 by_cases p5:1024<s.height
 ·simp[go_sem,V3.enc,V3.cs,Sett.enc,Sett.cs,p1,p2,hpt,p3,p4,p5]
  refine Q5 ha ?_
  simp[go_sem,L08.r]
 have hht:=hht (by omega)
 have w2:=Q3 (z:=s.height % 2) (by omega) (by omega)
 by_cases p6:s.height % 2=0
 case neg =>
  have hb1:(s.height % 2 != 0)=true:=by simpa using p6
  simp[go_sem,V3.enc,V3.cs,Sett.enc,Sett.cs,p1,p2,hpt,p3,p4,p5,hht,w2,p6,hb1]
  refine Q5 ha ?_
  simp[go_sem,L08.r]
 simp[go_sem,V3.enc,V3.cs,Sett.enc,Sett.cs,p1,p2,hpt,p3,p4,p5,hht,p6]
 by_cases q1:p.x < -20
 ·simp[go_sem,q1]
  refine Q5 ha ?_
  simp[go_sem,L08.r]
 by_cases q2:20<p.x
 ·simp[go_sem,q1,q2]
  refine Q5 ha ?_
  simp[go_sem,L08.r]
 by_cases q3:p.y < -20
 ·simp[go_sem,q1,q2,q3]
  refine Q5 ha ?_
  simp[go_sem,L08.r]
 by_cases q4:20<p.y
 ·simp[go_sem,q1,q2,q3,q4]
  refine Q5 ha ?_
  simp[go_sem,L08.r]
 by_cases q5:q.x<1
 ·simp[go_sem,q1,q2,q3,q4,q5]
  refine Q5 ha ?_
  simp[go_sem,L08.r]
 by_cases q6:20<q.x
 ·simp[go_sem,q1,q2,q3,q4,q5,q6]
  refine Q5 ha ?_
  simp[go_sem,L08.r]
 by_cases q7:q.y<1
 ·simp[go_sem,q1,q2,q3,q4,q5,q6,q7]
  refine Q5 ha ?_
  simp[go_sem,L08.r]
 by_cases q8:20<q.y
 ·simp[go_sem,q1,q2,q3,q4,q5,q6,q7,q8]
  refine Q5 ha ?_
  simp[go_sem,L08.r]
 by_cases q9:q.z<1
 ·simp[go_sem,q1,q2,q3,q4,q5,q6,q7,q8,q9]
  refine Q5 ha ?_
  simp[go_sem,L08.r]
 by_cases q10:20<q.z
 ·simp[go_sem,q1,q2,q3,q4,q5,q6,q7,q8,q9,q10]
  refine Q5 ha ?_
  simp[go_sem,L08.r]
 exact absurd ⟨by omega,by omega,by omega⟩ hno
end
section
variable {P:Program} (hm:P.follows .mixedOrders=true)
include hm
theorem Q4f {f fa fb fs fr fe:FuncId} (hf:Q9 P f (L08.c fa fb fs fr fe) L08.r L08.n) (ha:Q4n P fa) (hb:Qqk P fb) (hs:Bc P fs) (hr:Qcf P fr) (he:Q4g P fe) (p q:V3) (s:Sett) (hin:Qqj p q s) :
  PureC P f [p.enc,q.enc,s.enc] (·=.b true):=by
 obtain⟨⟨k1,k2,k3,k4,k5,k6⟩,⟨a1,a2,a3,a4⟩,b1,b2,b3,b4,b5,b6⟩:=hin
 have hpt:s.pitch.tmod 2=s.pitch % 2:=jn (by omega)
 have hht:s.height.tmod 2=s.height % 2:=jn (by omega)
 have m1:=Jg (a:=p.x) (b:=s.pitch) (k:=20) (m:=1024) (by omega) (by omega)
 have m2:=Jg (a:=p.y) (b:=s.pitch) (k:=20) (m:=1024) (by omega) (by omega)
 have m3:=Jg (a:=q.x) (b:=s.pitch) (k:=20) (m:=1024) (by omega) (by omega)
 have m4:=Jg (a:=q.y) (b:=s.pitch) (k:=20) (m:=1024) (by omega) (by omega)
 have m5:=Jg (a:=q.z) (b:=s.height) (k:=20) (m:=1024) (by omega) (by omega)
 have n3:=Int.mul_pos (show 0<q.x by omega) (show 0<s.pitch by omega)
 have n4:=Int.mul_pos (show 0<q.y by omega) (show 0<s.pitch by omega)
 have n5:=Int.mul_pos (show 0<q.z by omega) (show 0<s.height by omega)
 have e1:Zf s.pitch 32 1024=true:=by unfold Zf;simp;omega
 have e2:Zf s.height 4 1024=true:=by unfold Zf;simp;omega
 have hpv:(⟨p.x*s.pitch,p.y*s.pitch,0⟩:V3).valid=true:=V3.valid_iff.2 (by simp only;omega)
 have hsv:(V3.add ⟨p.x*s.pitch,p.y*s.pitch,0⟩ ⟨q.x*s.pitch,q.y*s.pitch,q.z*s.height⟩).valid=true:=V3.valid_iff.2 (by simp only[V3.add];omega)
 have hsl:=Q4d (x:=p.x) (y:=p.y) (w:=q.x) (d:=q.y) (n:=q.z) (k:=s.pitch) (h:=s.height) (p:=⟨p.x*s.pitch,p.y*s.pitch,0⟩) (s:=⟨q.x*s.pitch,q.y*s.pitch,q.z*s.height⟩)
  (by omega) (by omega) e1 e2 (by omega) (by omega) rfl rfl rfl rfl rfl rfl (by omega) (by omega) hpv hsv
 have c2:=hb ⟨p.x*s.pitch,p.y*s.pitch,0⟩ ⟨q.x*s.pitch,q.y*s.pitch,q.z*s.height⟩ (by unfold V3.inR;simp[Qg7];omega) (by unfold V3.inR;simp[Qg7];omega)
 unfold Q91 at c2
 rw[if_neg (by simp only;omega),if_pos ⟨hpv,hsv⟩]at c2
 have c3:=hs [⟨Qa ⟨p.x*s.pitch,p.y*s.pitch,0⟩ ⟨q.x*s.pitch,q.y*s.pitch,q.z*s.height⟩,Qh⟩] s (by simp)
 rw[hsl]at c3
 clear hsl hpv hsv
 generalize (Mesh.mk (Qa ⟨p.x*s.pitch,p.y*s.pitch,0⟩ ⟨q.x*s.pitch,q.y*s.pitch,q.z*s.height⟩) Qh)=m at *
 generalize hX1:p.x*s.pitch=X1 at *
 generalize hX2:p.y*s.pitch=X2 at *
 generalize hX3:q.x*s.pitch=X3 at *
 generalize hX4:q.y*s.pitch=X4 at *
 generalize hX5:q.z*s.height=X5 at *
 have c4:=hr p.x p.y q.x q.y (by omega) (by omega) (by omega) (by omega)
 have hv:RgV (Zx p.x p.y q.x q.y)/\RgB (Zx p.x p.y q.x q.y):=⟨Q2a (by omega),Qfr (by omega) (by omega)⟩
 have c5:=he _ _ hv.1 hv.1 hv.2 hv.2
 rw[decide_eq_true rfl]at c5
 generalize Zx p.x p.y q.x q.y=R at *
 obtain⟨N,hN⟩:∃N:Nat,q.z=N:=⟨q.z.toNat,by omega⟩
 rw[hN,Int.toNat_natCast]at c3
 have hmc:m.cs.length=2:=rfl
 have hmt:List.take 2 m.cs=m.cs:=rfl
 have hmd:∀x∈m.cs,x.isD=true:=by
  intro x hx
  simp[Mesh.cs]at hx
  rcases hx with rfl | rfl<;>rfl
 have hmcl:∀n,∀x∈m.cs,x.cl n=true:=λn x hx=>K1 n (hmd x hx)
 unfold Q25 Mesh.enc at c2
 unfold msV Sett.enc Sett.cs at c3
 simp only[V3.enc,V3.cs]at c2
 simp only at c3
 refine Q8 hm hf (qj rfl) ?_
 unfold L08.c
 simp[go_sem,V3.enc,V3.cs,Sett.enc,Sett.cs,show ¬ s.pitch<32 by omega,show ¬ 1024<s.pitch by omega,hpt,k3,show ¬ s.height<4 by omega,show ¬ 1024<s.height by omega,hht,k6]
 simp[go_sem,show ¬ p.x < -20 by omega,show ¬ 20<p.x by omega,show ¬ p.y < -20 by omega,show ¬ 20<p.y by omega,show ¬ q.x<1 by omega,show ¬ 20<q.x by omega,show ¬ q.y<1 by omega,show ¬ 20<q.y by omega,show ¬ q.z<1 by omega,show ¬ 20<q.z by omega]
 simp (maxSteps:=2000000) (disch:=omega) [go_sem,hX1,hX2,hX3,hX4,hX5,Q3]
 refine Q5 c2 ?_
 simp (maxSteps:=2000000) [go_sem,V.cells,V.okA,hmc,hmt]
 have hma:∀x∈m.cs,x.isD=true:=hmd
 refine Y3 (vs:=[.l 2 [m.cs],.a s.cs]) (by
  simp[Yr,frz,Yx,Sett.cs]
  rw[if_pos hma];rfl) c3 ?_
 simp (maxSteps:=2000000) [go_sem,V.ids2,V.ids1,V.ids0,Q0z,Xf,hN]
 have hNb:N<=20:=by omega
 refine Qi (α:=Nat) (λi=>i<=N)
  (λi=>⟨[(3,.p 0 1 0 0),(4,.p 1 1 0 0),(9,.l 1 (List.replicate N (rgE R))),(11,.i .i64 i)],[.arr 1 3 [p.cs],.arr 1 3 [q.cs]]⟩)
  (λi=>N-i) 0 (Nat.zero_le _) ?_ ?_
 ·simp[go_sem,V3.cs]
  exact hN.symm
 intro i hi
 by_cases hil:i=N
 ·subst hil
  simp[go_sem]
  refine Q5 ha ?_
  simp[go_sem,L08.r]
 have hlt:i<N:=by omega
 have hg:(List.replicate N (rgE R))[i]?=some (rgE R):=by rw[jg,if_pos hlt]
 obtain⟨_,hg'⟩:=qa.1 hg
 simp only[rgV]at c4 c5
 simp (disch:=omega) [go_sem,hlt,hg,hg',rgE,rwL,V3.cs,Q3]
 refine Qn c4 ?_
 simp (disch:=omega) [go_sem,Q3]
 refine Qn c5 ?_
 simp (disch:=omega) [go_sem,Q3]
 exact⟨i+1,by omega,by omega,by omega⟩
theorem StackBoxes_ok {f fa fb fs fr fe:FuncId} (hf:Q9 P f (L08.c fa fb fs fr fe) L08.r L08.n) (ha:Q4n P fa) (hb:Qqk P fb) (hs:Bc P fs) (hr:Qcf P fr) (he:Q4g P fe) (p q:V3) (s:Sett) :
  PureC P f [p.enc,q.enc,s.enc] (·=.b true):=by
 by_cases h:Qqj p q s
 ·exact Q4f hm hf ha hb hs hr he p q s h
 ·exact Q5x hm hf ha p q s h
end
def schSt:List Sch:=[.i .i64,.i .i64,.i .i64,.i .i64,.i .i64,.i .i64,.i .i64,.b,.i .i64,.i .i64,.i .i64,.i .i64,.i .i64,.i .i64,.i .i64,.i .i64,.i .i64,.i .i64,.i .i64,.i .i64]
theorem par_st {ps:List (Bool × List Sch)} {us:List V} (h:Jz ((true,schSt)::ps) us):∃(s:Sett) (r:List V),us=s.enc::r/\Jz ps r:=by
 simp only[Jz,Qfw]at h
 obtain⟨v,r,rfl,⟨cs,rfl,hc⟩,hr⟩:=h
 simp only[schSt,okL,Sch.ok]at hc
 obtain⟨_,_,rfl,⟨a1,rfl,_⟩,_,_,rfl,⟨a2,rfl,_⟩,_,_,rfl,⟨a3,rfl,_⟩,_,_,rfl,⟨a4,rfl,_⟩,_,_,rfl,⟨a5,rfl,_⟩,_,_,rfl,⟨a6,rfl,_⟩,_,_,rfl,⟨a7,rfl,_⟩,_,_,rfl,⟨b,rfl⟩,_,_,rfl,⟨a8,rfl,_⟩,_,_,rfl,⟨a9,rfl,_⟩,_,_,rfl,⟨a10,rfl,_⟩,_,_,rfl,⟨a11,rfl,_⟩,
  _,_,rfl,⟨a12,rfl,_⟩,_,_,rfl,⟨a13,rfl,_⟩,_,_,rfl,⟨a14,rfl,_⟩,_,_,rfl,⟨a15,rfl,_⟩,_,_,rfl,⟨a16,rfl,_⟩,_,_,rfl,⟨a17,rfl,_⟩,_,_,rfl,⟨a18,rfl,_⟩,_,_,rfl,⟨a19,rfl,_⟩,rfl⟩:=hc
 exact⟨⟨a1,a2,a3,a4,a5,a6,a7,b,a8,a9,a10,a11,a12,a13,a14,a15,a16,a17,a18,a19⟩,r,rfl,hr⟩
theorem Qi3 (e:Int):Le (.t [.nil,.i .i64 e]) (.t [Qs [],.i .i64 e]):=.inr ⟨_,_,rfl,rfl,.inl (Le0.nil 1),Le1.refl _,trivial⟩
theorem Qar {p:P2} (h:(-65536<=p.x/\p.x<=65536)/\-65536<=p.y/\p.y<=65536):p.valid=true:=P2.valid_iff.2 ⟨by omega,by omega,by omega,by omega⟩
theorem Q64 {l:List Sg4} (h:Qgn l) {s:Sg4} (hs:s∈l):s.eg.1.valid=true/\s.eg.2.valid=true:=by
 obtain⟨a,b,c,d⟩:=h.2 s.eg (qq.2 ⟨s,hs,rfl⟩)
 exact⟨Qar ⟨a,b⟩,Qar ⟨c,d⟩⟩
theorem Qfn (s:Sg4):s.eg.1.enc=.a [.i .i64 s.a.1,.i .i64 s.a.2]:=rfl
theorem Qfm (s:Sg4):s.eg.2.enc=.a [.i .i64 s.b.1,.i .i64 s.b.2]:=rfl
theorem Xq {h l:List O} {id:Nat} (hid:id<h.length):(h++l)[id]?=h[id]?:=qf hid
theorem B8 {h l:List O} {id:Nat} (hid:id<h.length) (o:O):(h++l).set id o=h.set id o++l:=List.set_append_left _ _ hid
end Go.Abs
