/- Part of the library on which the proof stands: an abstract machine, its values and its soundness against the model; or what functions of the program do to such values. -/
import Derived.Test.YtjggbpiapinceaaGreatGoSkJ
import Derived.Test.YtjggbpiapinceaaGreatGoTpE
import Derived.Test.YtjggbpiapinceaaGreatGoSkB
import Derived.Test.YtjggbpiapinceaaGreatGoRw
import Derived.Test.YtjggbpiapinceaaGreatGoDet
import Derived.Test.YtjggbpiapinceaaGreatGoRsD
import Derived.Test.YtjggbpiapinceaaGreatGoStB
import Derived.Test.YtjggbpiapinceaaGreatGoSet
import Derived.Test.YtjggbpiapinceaaGreatGoRevC
set_option linter.unusedVariables false
set_option linter.unusedSimpArgs false
set_option maxHeartbeats 8000000
set_option maxRecDepth 20000
namespace Go.Abs
theorem Qml (c z0 z1 z:Int) (h1:z0<=z) (h2:z<z1):Q81 c c z0 z1 z=c:=by
 have:=Qbg (c0:=c) (c1:=c) h1 h2
 omega
theorem Et {c d e:Int} (P:P2):Q3u (⟨c,e⟩,⟨d,e⟩) P=0:=by
 unfold Q3u
 rw[if_neg (by simp only[];omega),if_neg (by simp only[];omega)]
theorem Qjj {c a b:Int} (h:a<=b) (P:P2):Q3u (⟨c,a⟩,⟨c,b⟩) P=if a<=P.y/\P.y<b/\P.x<c then 1 else 0:=by
 unfold Q3u
 simp only[]
 have e:K9 ⟨c,a⟩ ⟨c,b⟩ P=(b-a)*(c-P.x):=by unfold K9;simp only[];grind
 rw[e]
 by_cases h1:a<=P.y/\P.y<b
 ·by_cases h2:P.x<c
  ·rw[if_pos ⟨h1.1,h1.2,Int.mul_pos (by omega) (by omega)⟩,if_pos ⟨h1.1,h1.2,h2⟩]
  ·have:(b-a)*(c-P.x)<=0:=Int.mul_nonpos_of_nonneg_of_nonpos (by omega) (by omega)
   rw[if_neg (by omega),if_neg (by omega),if_neg (by omega)]
 ·rw[if_neg (by omega),if_neg (by omega),if_neg (by omega)]
theorem Qjk {c a b:Int} (h:b<=a) (P:P2):Q3u (⟨c,a⟩,⟨c,b⟩) P=if b<=P.y/\P.y<a/\P.x<c then -1 else 0:=by
 unfold Q3u
 simp only[]
 have e:K9 ⟨c,a⟩ ⟨c,b⟩ P=-((a-b)*(c-P.x)):=by unfold K9;simp only[];grind
 rw[e]
 by_cases h1:b<=P.y/\P.y<a
 ·by_cases h2:P.x<c
  ·have:=Int.mul_pos (show 0<a-b by omega) (show 0<c-P.x by omega)
   rw[if_neg (by omega),if_pos (by omega),if_pos ⟨h1.1,h1.2,h2⟩]
  ·have:(a-b)*(c-P.x)<=0:=Int.mul_nonpos_of_nonneg_of_nonpos (by omega) (by omega)
   rw[if_neg (by omega),if_neg (by omega),if_neg (by omega)]
 ·rw[if_neg (by omega),if_neg (by omega),if_neg (by omega)]
theorem box_wnd {p s:V3} (h1:1<=s.x) (h2:1<=s.y) (h3:1<=s.z) (hp:p.valid=true) (hs:(p.add s).valid=true) {z:Int} (z1:p.z<=z) (z2:z<p.z+s.z) (P:P2) :
  0<wnd (egs (Zk ⟨Qi p s,Qn⟩ z Qn)) P↔(p.x<=P.x/\P.x<p.x+s.x)/\p.y<=P.y/\P.y<p.y+s.y:=by
 have q1:=V3.valid_iff.1 hp
 have q2:=V3.valid_iff.1 hs
 simp only[V3.add]at q2
 have val:∀x y w:Int,(p.x<=x/\x<=p.x+s.x)->(p.y<=y/\y<=p.y+s.y)->(p.z<=w/\w<=p.z+s.z)->(⟨x,y,w⟩:V3).valid=true:=λx y w a b c=>by
  rw[V3.valid_iff];simp only;omega
 have v0:=val p.x p.y p.z (by omega) (by omega) (by omega)
 have v1:=val (p.x+s.x) p.y p.z (by omega) (by omega) (by omega)
 have v2:=val p.x (p.y+s.y) p.z (by omega) (by omega) (by omega)
 have v3:=val (p.x+s.x) (p.y+s.y) p.z (by omega) (by omega) (by omega)
 have v4:=val p.x p.y (p.z+s.z) (by omega) (by omega) (by omega)
 have v5:=val (p.x+s.x) p.y (p.z+s.z) (by omega) (by omega) (by omega)
 have v6:=val p.x (p.y+s.y) (p.z+s.z) (by omega) (by omega) (by omega)
 have v7:=val (p.x+s.x) (p.y+s.y) (p.z+s.z) (by omega) (by omega) (by omega)
 have n1:¬ z<p.z:=by omega
 have n2:¬ p.z+s.z<=z:=by omega
 have sm:=λc=>Qml c p.z (p.z+s.z) z z1 z2
 obtain⟨L,hL⟩:∃L,egs (Zk ⟨Qi p s,Qn⟩ z Qn)=L:=⟨_,rfl⟩
 rw[hL]
 simp[egs,Zk,Jw,Qn,Mesh.v,Qi,Q6l,Jl,Sg4.init,Sg4.step,Sg4.eg,point,v0,v1,v2,v3,v4,v5,v6,v7,z1,z2,n1,n2,sm]at hL
 have hy:=Qbg (c0:=p.y) (c1:=p.y+s.y) z1 z2
 generalize Q81 p.x (p.x+s.x) p.z (p.z+s.z) z=a at hL
 generalize Q81 p.y (p.y+s.y) p.z (p.z+s.z) z=q at hL hy
 rw[<- hL]
 simp only[Bv,Qif]
 rw[Et,Et,Et,Et,Qjk (by omega),Qjk (by omega),Qjj (by omega),Qjj (by omega)]
 constructor
 ·intro h
  by_cases c1:p.y<=P.y/\P.y<q<;>by_cases c2:q<=P.y/\P.y<p.y+s.y<;>by_cases c3:P.x<p.x<;>by_cases c4:P.x<p.x+s.x<;>simp[c1,c2,c3,c4]at h<;>omega
 ·rintro⟨⟨c3,c4⟩,c1,c2⟩
  by_cases c5:P.y<q
  ·rw[if_neg (by omega),if_neg (by omega),if_neg (by omega),if_pos ⟨c1,c5,c4⟩];omega
  ·rw[if_neg (by omega),if_neg (by omega),if_pos ⟨by omega,c2,c4⟩,if_neg (by omega)];omega
def Uk (x y w d:Int):List Rw:=(List.range d.toNat).map λ(i:Nat)=>⟨y+i,[⟨x,x+w⟩]⟩
theorem Qiw {x y w d:Int} (hw:1<=w):RgV (Uk x y w d):=by
 refine⟨λr hr=>?_,λr hr=>?_,?_⟩
 ·obtain⟨i,_,rfl⟩:=qp.1 hr
  exact⟨by simp;omega,by simp⟩
 ·obtain⟨i,_,rfl⟩:=qp.1 hr
  simp
 ·unfold Uk
  rw[je]
  exact List.pairwise_lt_range.imp λ{a b} h=>by simp only[];omega
theorem in_rectR {x y w d b a:Int}:Q3s (Uk x y w d) b a↔(y<=b/\b<y+d)/\x<=a/\a<x+w:=by
 constructor
 ·rintro⟨r,hr,rfl,hx⟩
  obtain⟨i,hi,rfl⟩:=qp.1 hr
  have:=qz.1 hi
  rw[inRns_cons]at hx
  simp only[Qt,or_false]at hx
  exact⟨by simp only[];omega,hx⟩
 ·rintro⟨h1,h2⟩
  refine⟨⟨y+((b-y).toNat:Int),[⟨x,x+w⟩]⟩,qp.2 ⟨(b-y).toNat,qz.2 (by omega),rfl⟩,by simp only[];omega,inRns_cons.2 (.inl h2)⟩
theorem Q47 {x X k:Int} (hk:2<=k):x*k<=X*k+k / 2↔x<=X:=by
 constructor
 ·intro h
  refine j8 λhn=>?_
  have h2:=jh (show X+1<=x by omega) (show 0<=k by omega)
  have e:(X+1)*k=X*k+k:=by grind
  omega
 ·intro h
  have h2:=jh h (show 0<=k by omega)
  omega
theorem box_ras {x y w d k:Int} {p s:V3} (hw:1<=w) (hd:1<=d) (hk:32<=k) (hx:-4096<=x/\x+w<=4096) (hy:-4096<=y/\y+d<=4096) (px:p.x=x*k) (py:p.y=y*k) (sx:s.x=w*k) (sy:s.y=d*k)
  (h3:1<=s.z) (hp:p.valid=true) (hs:(p.add s).valid=true) {z:Int} (z1:p.z<=z) (z2:z<p.z+s.z):W2 (egs (Zk ⟨Qi p s,Qn⟩ z Qn)) k=Uk x y w d:=by
 have hwk:k<=w*k:=by have:=jh hw (show 0<=k by omega);omega
 have hdk:k<=d*k:=by have:=jh hd (show 0<=k by omega);omega
 unfold W2
 refine (Q2e (Qiw hw) λb a=>?_).symm
 rw[decide_eq_true_eq,box_wnd (by omega) (by omega) h3 hp hs z1 z2,in_rectR]
 have e1:(ctr k b a).x=a*k+k / 2:=rfl
 have e2:(ctr k b a).y=b*k+k / 2:=rfl
 rw[e1,e2,px,py,sx,sy,Q47 (by omega),Q47 (by omega)]
 have f1:x*k+w*k=(x+w)*k:=by grind
 have f2:y*k+d*k=(y+d)*k:=by grind
 have g1:a*k+k / 2<(x+w)*k↔a<x+w:=by
  have:=Q47 (x:=x+w) (X:=a) (k:=k) (by omega)
  omega
 have g2:b*k+k / 2<(y+d)*k↔b<y+d:=by
  have:=Q47 (x:=y+d) (X:=b) (k:=k) (by omega)
  omega
 rw[f1,f2,g1,g2]
 constructor
 ·rintro⟨c1,c2⟩
  exact⟨by omega,by omega,c2,c1⟩
 ·rintro⟨_,_,c2,c1⟩
  exact⟨c1,c2⟩
theorem tok_of {m:Mesh} (h:m.check=0) {t:T3} (ht:t∈m.tris):(0<=t.a/\t.a<m.verts.length)/\(0<=t.b/\t.b<m.verts.length)/\0<=t.c/\t.c<m.verts.length:=by
 obtain⟨_,_,_,h4⟩:=Mesh.check_zero.1 h
 obtain⟨i,hi⟩:=qr ht
 have:=T3.ok_iff.1 (Bx h4 hi)
 omega
theorem Qkx {m:Mesh} {z k:Int} (hm:m.check=0) (h:m.verts=[]∨z<(bLo m.verts).z∨(bHi m.verts).z<=z):W2 (egs (Zk m z m.tris)) k=[]:=by
 have hnone:Zk m z m.tris=[]:=by
  unfold Zk
  rw[List.filter_eq_nil_iff]
  intro s hs
  obtain⟨t,ht,rfl⟩:=qp.1 hs
  obtain⟨t1,t2,t3⟩:=tok_of hm ht
  have hin:∀i:Int,0<=i->i<m.verts.length->m.v i∈m.verts:=λi h1 h2=>by
   unfold Mesh.v
   rw[q9 (by omega)]
   exact List.getElem_mem _
  have hb:∀v∈m.verts,(bLo m.verts).z<=v.z/\v.z<=(bHi m.verts).z:=λv hv=>by
   cases hvs:m.verts with
   | nil=>rw[hvs]at hv;simp at hv
   | cons u l =>
     rw[hvs]at hv
     unfold bLo bHi
     rw[(Qsk _ _).2.2,(Qsl _ _).2.2]
     exact⟨(Qpx V3.z (u::l) u.z).2.1 v hv,(Qpw V3.z (u::l) u.z).2.1 v hv⟩
  have hp:∀u v,u∈m.verts->v∈m.verts->point u v z=none:=λu v hu hv=>by
   unfold point
   rw[if_neg]
   rintro⟨_,_,g1,g2⟩
   have:=hb u hu
   have:=hb v hv
   rcases h with h | h | h
   ·rw[h]at hu;simp at hu
   ·omega
   ·omega
  have A:=hin _ t1.1 t1.2
  have B:=hin _ t2.1 t2.2
  have C:=hin _ t3.1 t3.2
  unfold Jw Q6l Jl Sg4.step
  simp only[hp _ _ A B,hp _ _ B A,hp _ _ B C,hp _ _ C B,hp _ _ C A,hp _ _ A C]
  simp[Sg4.init]
 rw[hnone]
 unfold W2
 refine (Q2e RgV.nil λy x=>?_).symm
 constructor
 ·rintro⟨w,hw,_⟩;simp at hw
 ·rintro⟨_,_,h3⟩
  simp[egs,Qif]at h3
def L13.c (L15:FuncId):C :=(.seq (.reg [Au 1 (.box (.t 0)),Ac 2 0]) (.seq (.reg [Ac 3 0]) (.seq (.seq (.reg [Ag 6 1 1,Au 7 (.call L15 [.t 6]),Au 8 (.un .not (.t 7))]) (.ite (.t 8) (.seq (.reg [Am 9 3,Am 2 9]) .ret) .skip)) (.seq (.seq (.reg [Ac 4 0]) (.blk 0 (.loop (.seq (.seq (.reg [Am 10 4,Af 11 0 1,Al 12 11,An 13 0 12,Aj .lss 14 10 13]) (.ite (.t 14) .skip (.exit 0))) (.seq (.blk 1 (.seq (.reg [Ac 5 0]) (.blk 2 (.loop (.seq (.seq (.reg [Am 17 5,Af 18 0 1,Al 19 18,Am 20 4,Ai 21 2 19 20,Af 22 1 21,Al 23 22,An 24 0 23,Aj .lss 25 17 24]) (.ite (.t 25) .skip (.exit 2))) (.seq (.blk 3 (.drw [Am 28 3,
 Af 29 0 1,Al 30 29,Am 31 4,Ai 32 2 30 31,Af 33 1 32,Al 34 33,Am 35 5,Ai 36 2 34 35,Af 37 1 36,Al 38 37,Af 39 0 1,Al 40 39,Am 41 4,Ai 42 2 40 41,Af 43 1 42,Al 44 43,Am 45 5,Ai 46 2 44 45,Af 47 0 46,Al 48 47,Aj .sub 49 38 48,Aj .add 50 28 49,Am 3 50] [])) (.reg [Am 26 5,Ad 27 26 1,Am 5 27]))))))) (.reg [Am 15 4,Ad 16 15 1,Am 4 16])))))) (.seq (.reg [Am 51 3,Am 2 51]) .ret)))))
def L13.r:List Rr:=[.tmp 2]
abbrev L13.n:Nat:=52
def L03.c:C :=(.seq (.reg [Au 6 (.alloc [.nil])]) (.seq (.reg [Au 9 (.build [.nil] []),Au 7 (.alloc [.nil]),As 1 7 9]) (.seq (.seq (.reg [Ac 8 0]) (.blk 0 (.loop (.seq (.seq (.reg [Am 10 8,Am 11 2,Aj .lss 12 10 11]) (.ite (.t 12) .skip (.exit 0))) (.seq (.blk 1 (.reg [Af 15 0 7,Al 16 15,Am 17 1,Am 18 8,Aj .add 19 17 18,Am 20 0,Am 21 0,Am 22 2,Aj .add 23 21 22,Au 24 (.build [(.i .i64 0),(.i .i64 0)] [(0,1,(.t 20)),(1,1,(.t 23))]),Au 25 (.bso 2 1 [(.i .i64 0),(.i .i64 0)] [(0,(.t 24))]),Au 26 (.build [(.i .i64 0),.nil] [(0,1,(.t 19)),(1,1,(.t 25))]),Au 27 (.bso 2 1 [(.i .i64 0),.nil] [(0,(.t 26))]),
 Au 28 (.app 2 32 (.t 16) (.t 27)),Af 29 0 7,As 1 29 28])) (.reg [Am 13 8,Ad 14 13 1,Am 8 14])))))) (.seq (.reg [Ag 30 1 7,As 1 6 30]) .ret))))
def L03.r:List Rr:=[.cell 6 (some 1)]
abbrev L03.n:Nat:=31
def L01.c (L1o L1x L03 L14 L17:FuncId):C :=(.seq (.reg [Ab 0 false]) (.seq (.reg [Au 6 (.build [(.i .i64 0),(.i .i64 0),(.i .i64 0)] [(0,1,(.c (.i .i64 40))),(1,1,(.c (.i .i64 80)))]),Au 7 (.build [(.i .i64 0),(.i .i64 0),(.i .i64 0)] [(0,1,(.c (.i .i64 120))),(1,1,(.c (.i .i64 120))),(2,1,(.c (.i .i64 20)))]),Au 8 (.call L1o [.t 6,.t 7]),Am 5 8,Ax1 9 0 5,Ax1 10 1 5,Au 1 (.alloc [.nil,.nil]),As 2 1 9,Am 2 10]) (.seq (.reg [Ag 12 2 1,Au 13 (.call L1x [.t 12,(.c (.i .i64 10)),(.c (.i .i64 40))]),Am 11 13,Ax1 14 0 11,Ax1 15 1 11,Au 3 (.alloc [.nil]),As 1 3 14,Am 4 15]) (.seq (.drw [Am 16 2,Ak .eql 17 16 0,
 Am 18 17,Av 19 18 (.mv (.t 4)),Av 20 18 (.bin .eql (.t 19) (.c (.i .i64 0))),Ap 21 18 20,Am 22 21,Av 23 22 (.ld (some 1) (.t 3)),Av 24 22 (.call L03 [(.c (.i .i64 1)),(.c (.i .i64 2)),(.c (.i .i64 3))]),Av 25 22 (.call L14 [.t 23,.t 24]),Ap 26 22 25,Am 27 26,Av 28 27 (.ld (some 2) (.t 1)),Av 29 27 (.call L17 [.t 28]),Av 30 27 (.bin .eql (.t 29) (.c (.i .i64 0))),Ap 31 27 30,Am 0 31] [[],[],[],[],[],[],[],[],[7],[],[],[],[],[],[],[],[]]) .ret))))
def L01.r:List Rr:=[.tmp 0]
abbrev L01.n:Nat:=32
def L02.c:C :=(.seq (.reg [Au 1 (.box (.t 0)),Ab 2 false]) (.seq (.reg [Af 3 0 1,Al 4 3,An 5 0 4,Ak .leq 6 5 60,Am 7 6,Av 8 7 (.fa 1 (.t 1)),Av 9 7 (.ld none (.t 8)),Av 10 7 (.len 0 (.t 9)),Av 11 7 (.bin .leq (.t 10) (.c (.i .i64 60))),Ap 12 7 11,Am 2 12]) .ret))
def L02.r:List Rr:=[.tmp 2]
abbrev L02.n:Nat:=13
def L00.c (L02 L01 L18 L1x L15 L0f L13:FuncId):C :=(.seq (.reg [Au 3 (.box (.t 0)),Ab 6 false]) (.seq (.seq (.reg [Ag 15 2 3,Au 16 (.call L02 [.t 15]),Au 17 (.un .not (.t 16)),Am 18 17,Aw 19 18 (.mv (.t 1)),Aw 20 18 (.bin .lss (.t 19) (.c (.i .i64 (-65536)))),Ao 21 18 20,Am 22 21,Aw 23 22 (.mv (.t 1)),Aw 24 22 (.bin .gtr (.t 23) (.c (.i .i64 65536))),Ao 25 22 24,Am 26 25,Aw 27 26 (.mv (.t 2)),Aw 28 26 (.bin .lss (.t 27) (.c (.i .i64 32))),Ao 29 26 28,Am 30 29,Aw 31 30 (.mv (.t 2)),Aw 32 30 (.bin .gtr (.t 31) (.c (.i .i64 1024))),Ao 33 30 32,Am 34 33,Aw 35 34 (.mv (.t 2)),Aw 36 34 (.bin .rem (.t 35) (.c (.i .i64 2))),
 Aw 37 34 (.bin .neq (.t 36) (.c (.i .i64 0))),Ao 38 34 37]) (.ite (.t 38) (.seq (.reg [Au 39 (.call L01 []),Am 6 39]) .ret) .skip)) (.seq (.reg [Ag 41 2 3,Au 42 (.call L18 [.t 41]),Am 40 42,Ax1 43 0 40,Ax1 44 1 40,Ax1 45 2 40,Au 7 (.alloc [.nil,.nil]),Au 8 (.alloc [(.i .i64 0),(.i .i64 0),(.i .i64 0),(.i .i64 0),(.i .i64 0),(.i .i64 0),(.i .i64 0)]),As 2 7 43,As 7 8 44,Am 9 45]) (.seq (.seq (.reg [Am 46 9,Ak .neq 47 46 0]) (.ite (.t 47) (.seq (.reg [Au 48 (.call L01 []),Am 6 48]) .ret) .skip)) (.seq (.reg [Ag 50 2 7,Am 51 1,Am 52 2,Au 53 (.call L1x [.t 50,.t 51,.t 52]),Am 49 53,Ax1 54 0 49,Ax1 55 1 49,
 Au 10 (.alloc [.nil]),As 1 10 54,Am 11 55]) (.seq (.seq (.reg [Am 56 11,Ak .neq 57 56 0,Am 58 57,Aw 59 58 (.ld (some 1) (.t 10)),Aw 60 58 (.call L15 [.t 59]),Aw 61 58 (.un .not (.t 60)),Ao 62 58 61]) (.ite (.t 62) (.seq (.reg [Ab 6 false]) .ret) .skip)) (.seq (.reg [Ag 64 2 7,Au 65 (.call L0f [.t 64]),Am 63 65,Ax1 66 0 63,Ax1 67 1 63,Ax1 68 2 63,Au 12 (.alloc [(.i .i64 0),(.i .i64 0),(.i .i64 0)]),Au 13 (.alloc [(.i .i64 0),(.i .i64 0),(.i .i64 0)]),As 3 12 66,As 3 13 67,Am 14 68]) (.seq (.reg [Am 69 14,Am 70 69,Av 71 70 (.mv (.t 1)),Av 72 70 (.fa 2 (.t 12)),Av 73 70 (.ld none (.t 72)),Av 74 70 (.bin .geq (.t 71) (.t 73)),
 Ap 75 70 74,Am 76 75,Av 77 76 (.mv (.t 1)),Av 78 76 (.fa 2 (.t 13)),Av 79 76 (.ld none (.t 78)),Av 80 76 (.bin .lss (.t 77) (.t 79)),Ap 81 76 80,Am 82 81,Aw 83 82 (.ld (some 1) (.t 10)),Aw 84 82 (.call L13 [.t 83]),Aw 85 82 (.bin .eql (.t 84) (.c (.i .i64 0))),Ao 86 82 85,Am 87 86,Av 88 87 (.call L01 []),Ap 89 87 88,Am 6 89]) .ret))))))))
def L00.r:List Rr:=[.tmp 6]
abbrev L00.n:Nat:=90
def L16.c:C :=(.seq (.reg [Ab 2 false]) (.seq (.seq (.reg [Ac 3 0]) (.blk 0 (.loop (.seq (.seq (.reg [Am 4 3,Am 5 0,An 6 0 5,Aj .lss 7 4 6]) (.ite (.t 7) .skip (.exit 0))) (.seq (.blk 1 (.seq (.drw [Am 10 0,Am 11 3,Ai 12 2 10 11,Af 13 0 12,Al 14 13,Ak .lss 15 14 (-4096),Am 16 15,Aw 17 16 (.mv (.t 0)),Aw 18 16 (.mv (.t 3)),Aw 19 16 (.ia 2 (.t 17) (.t 18)),Aw 20 16 (.fa 0 (.t 19)),Aw 21 16 (.ld none (.t 20)),Aw 22 16 (.mv (.t 0)),Aw 23 16 (.mv (.t 3)),Aw 24 16 (.ia 2 (.t 22) (.t 23)),Aw 25 16 (.fa 1 (.t 24)),Aw 26 16 (.ld none (.t 25)),Aw 27 16 (.bin .geq (.t 21) (.t 26)),Ao 28 16 27,Am 29 28,Aw 30 29 (.mv (.t 0)),
 Aw 31 29 (.mv (.t 3)),Aw 32 29 (.ia 2 (.t 30) (.t 31)),Aw 33 29 (.fa 1 (.t 32)),Aw 34 29 (.ld none (.t 33)),Aw 35 29 (.bin .gtr (.t 34) (.c (.i .i64 4096))),Ao 36 29 35,Am 37 36,Aw 38 37 (.mv (.t 3)),Aw 39 37 (.bin .gtr (.t 38) (.c (.i .i64 0))),Aw 40 37 (.mv (.t 39)),Av 41 40 (.mv (.t 0)),Av 42 40 (.mv (.t 3)),Av 43 40 (.ia 2 (.t 41) (.t 42)),Av 44 40 (.fa 0 (.t 43)),Av 45 40 (.ld none (.t 44)),Av 46 40 (.mv (.t 0)),Av 47 40 (.mv (.t 3)),Av 48 40 (.bin .sub (.t 47) (.c (.i .i64 1))),Av 49 40 (.ia 2 (.t 46) (.t 48)),Av 50 40 (.fa 1 (.t 49)),Av 51 40 (.ld none (.t 50)),Av 52 40 (.bin .leq (.t 45) (.t 51)),
 Aw 53 37 (.pick (.t 40) (.t 52) (.c (.b false))),Ao 54 37 53] []) (.ite (.t 54) (.seq (.reg [Ab 2 false]) .ret) .skip))) (.reg [Am 8 3,Ad 9 8 1,Am 3 9])))))) (.seq (.reg [Am 55 0,An 56 0 55,Ak .gtr 57 56 0,Am 2 57]) .ret)))
def L16.r:List Rr:=[.tmp 2]
abbrev L16.n:Nat:=58
def L15.c (L16:FuncId):C :=(.seq (.reg [Au 1 (.box (.t 0)),Ab 2 false]) (.seq (.seq (.reg [Ac 3 0]) (.blk 0 (.loop (.seq (.seq (.reg [Am 5 3,Af 6 0 1,Al 7 6,An 8 0 7,Aj .lss 9 5 8]) (.ite (.t 9) .skip (.exit 0))) (.seq (.blk 1 (.seq (.reg [Af 12 0 1,Al 13 12,Am 14 3,Ai 15 2 13 14,Af 16 0 15,Al 17 16,Am 4 17]) (.seq (.reg [Am 18 4,Ak .lss 19 18 (-4096),Am 20 19,Aw 21 20 (.mv (.t 4)),Aw 22 20 (.bin .geq (.t 21) (.c (.i .i64 4096))),Ao 23 20 22,Am 24 23,Aw 25 24 (.mv (.t 3)),Aw 26 24 (.bin .gtr (.t 25) (.c (.i .i64 0))),Aw 27 24 (.mv (.t 26)),Av 28 27 (.mv (.t 4)),Av 29 27 (.fa 0 (.t 1)),Av 30 27 (.ld none (.t 29)),
 Av 31 27 (.mv (.t 3)),Av 32 27 (.bin .sub (.t 31) (.c (.i .i64 1))),Av 33 27 (.ia 2 (.t 30) (.t 32)),Av 34 27 (.fa 0 (.t 33)),Av 35 27 (.ld none (.t 34)),Av 36 27 (.bin .leq (.t 28) (.t 35)),Aw 37 24 (.pick (.t 27) (.t 36) (.c (.b false))),Ao 38 24 37,Am 39 38,Aw 40 39 (.fa 0 (.t 1)),Aw 41 39 (.ld none (.t 40)),Aw 42 39 (.mv (.t 3)),Aw 43 39 (.ia 2 (.t 41) (.t 42)),Aw 44 39 (.fa 1 (.t 43)),Aw 45 39 (.ld none (.t 44)),Aw 46 39 (.call L16 [.t 45]),Aw 47 39 (.un .not (.t 46)),Ao 48 39 47]) (.ite (.t 48) (.seq (.reg [Ab 2 false]) .ret) .skip)))) (.reg [Am 10 3,Ad 11 10 1,Am 3 11])))))) (.seq (.reg [
 Ab 2 true]) .ret)))
def L15.r:List Rr:=[.tmp 2]
abbrev L15.n:Nat:=49
def L14.c:C :=(.seq (.reg [Au 2 (.box (.t 0)),Au 3 (.box (.t 1)),Ab 4 false]) (.seq (.seq (.reg [Af 9 0 2,Al 10 9,An 11 0 10,Af 12 0 3,Al 13 12,An 14 0 13,Aj .neq 15 11 14]) (.ite (.t 15) (.seq (.reg [Ab 4 false]) .ret) .skip)) (.seq (.seq (.reg [Ac 5 0]) (.blk 0 (.loop (.seq (.seq (.reg [Am 16 5,Af 17 0 2,Al 18 17,An 19 0 18,Aj .lss 20 16 19]) (.ite (.t 20) .skip (.exit 0))) (.seq (.blk 1 (.seq (.drw [Af 23 0 2,Al 24 23,Am 25 5,Ai 26 2 24 25,Ag 27 2 26,Af 28 0 3,Al 29 28,Am 30 5,Ai 31 2 29 30,Ag 32 2 31,Au 6 (.alloc [(.i .i64 0),.nil]),Au 7 (.alloc [(.i .i64 0),.nil]),As 2 6 27,As 2 7 32] [[],[],[],[],[],[],[],[],[],[],[],[],[5,6,8,9],[]])
 (.seq (.seq (.reg [Af 33 0 6,Al 34 33,Af 35 0 7,Al 36 35,Aj .neq 37 34 36,Am 38 37,Aw 39 38 (.fa 1 (.t 6)),Aw 40 38 (.ld none (.t 39)),Aw 41 38 (.len 0 (.t 40)),Aw 42 38 (.fa 1 (.t 7)),Aw 43 38 (.ld none (.t 42)),Aw 44 38 (.len 0 (.t 43)),Aw 45 38 (.bin .neq (.t 41) (.t 44)),Ao 46 38 45]) (.ite (.t 46) (.seq (.reg [Ab 4 false]) .ret) .skip)) (.seq (.reg [Ac 8 0]) (.blk 2 (.loop (.seq (.seq (.reg [Am 47 8,Af 48 1 6,Al 49 48,An 50 0 49,Aj .lss 51 47 50]) (.ite (.t 51) .skip (.exit 2))) (.seq (.blk 3 (.seq (.drw [Af 54 1 6,Al 55 54,Am 56 8,Ai 57 2 55 56,Ag 58 2 57,Af 59 1 7,Al 60 59,Am 61 8,Ai 62 2 60 61,
 Ag 63 2 62,Au 64 (.eqa [1,1] true (.t 58) (.t 63))] []) (.ite (.t 64) (.seq (.reg [Ab 4 false]) .ret) .skip))) (.reg [Am 52 8,Ad 53 52 1,Am 8 53]))))))))) (.reg [Am 21 5,Ad 22 21 1,Am 5 22])))))) (.seq (.reg [Ab 4 true]) .ret))))
def L14.r:List Rr:=[.tmp 4]
abbrev L14.n:Nat:=65
def Qtz (P:Program) (f:FuncId):Prop:=∀l:List Rn,RnsV l->RnI l->l≠[]->CallIs P f [Zj l] (.b true)
def Q15 (P:Program) (f:FuncId):Prop:=∀g:List Rw,RgV g->RgB g->CallIs P f [rgV g] (.b true)
def rwL (g:List Rw):V:=.l 2 (g.map Rw.cs)
section
variable {P:Program} (hm:P.follows .mixedOrders=true)
include hm
theorem Q7c {f:FuncId} (hf:Qa P f L16.c L16.r L16.n):Qtz P f:=by
 intro l hl hb hn
 have hll:=hl.len hb
 refine PureC.is (Q8 hm hf (qh rfl) ?_) rfl
 unfold L16.c
 simp[go_sem,Zj]
 refine Qf (α:=Nat) (λi=>i<=l.length)
  (λi=>⟨[(0,Zj l),(3,.i .i64 i)],[]⟩)
  (λi=>l.length-i) 0 (Nat.zero_le _) ?_ ?_
 ·simp[go_sem,Zj]
 intro i hi
 by_cases hil:i=l.length
 ·subst hil
  have:0<l.length:=List.length_pos_iff.2 hn
  simp[go_sem,Zj,this,L16.r]
 have hlt:i<l.length:=by omega
 have hq:l[i]?=some l[i]:=q9 hlt
 have h1:=hl.1 _ (qb hq)
 have h2:=hb _ (qb hq)
 have hprev:∀j,i=j+1->∃s,l[j]?=some s/\s.b<(l[i]).a:=λj hj=>by
  subst hj
  exact⟨l[j],q9 (by omega),j5.1 hl.2 j (j+1) (by omega) hlt (by omega)⟩
 generalize l[i]=r at *
 obtain⟨_,hq'⟩:=q8.1 hq
 by_cases hi0:i=0
 ·subst hi0
  simp (disch:=omega) [go_sem,Zj,hlt,hq,hq',Rn.cs,show ¬ r.a < -4096 by omega,show ¬ r.b<=r.a by omega,show ¬ 4096<r.b by omega,Q3]
  exact⟨1,by omega,by omega,by omega⟩
 ·obtain⟨j,rfl⟩:∃j,i=j+1:=⟨i-1,by omega⟩
  obtain⟨s,hs,hsr⟩:=hprev j rfl
  obtain⟨hjl,hs'⟩:=q8.1 hs
  have hlz:(j:Int)+1<(l.length:Int):=by omega
  have hz0:(0:Int)<=(j:Int)+1:=by omega
  simp (disch:=omega) [go_sem,Zj,hz0,hlt,hlz,hjl,hq,hq',hs,hs',Rn.cs,show ¬ r.a < -4096 by omega,show ¬ r.b<=r.a by omega,show ¬ 4096<r.b by omega,show ¬ r.a<=s.b by omega,Q3]
  exact⟨j+2,by omega,by omega,by omega⟩
theorem Q52 {f fn:FuncId} (hf:Qa P f (L15.c fn) L15.r L15.n) (hfn:Qtz P fn):Q15 P f:=by
 intro g hg hb
 have hll:=hg.len hb
 refine PureC.is (Q8 hm hf (qh rfl) ?_) rfl
 unfold L15.c
 simp[go_sem,rgV]
 refine Qf (α:=Nat) (λi=>i<=g.length)
  (λi=>⟨[(1,.p 0 1 0 0),(3,.i .i64 i)],[.arr 1 1 [[rwL g]]]⟩)
  (λi=>g.length-i) 0 (Nat.zero_le _) ?_ ?_
 ·simp[go_sem,rwL]
 intro i hi
 by_cases hil:i=g.length
 ·subst hil
  simp[go_sem,rwL,L15.r]
 have hlt:i<g.length:=by omega
 have hq:g[i]?=some g[i]:=q9 hlt
 have h1:=hb.yb hg (qb hq)
 have hcall:=hfn _ (hg.rs _ (qb hq)) (hb.rnb hg (qb hq)) (hg.ne _ (qb hq))
 have hprev:∀j,i=j+1->∃s,g[j]?=some s/\s.y<(g[i]).y:=λj hj=>by
  subst hj
  exact⟨g[j],q9 (by omega),j5.1 hg.asc j (j+1) (by omega) hlt (by omega)⟩
 generalize g[i]=w at *
 obtain⟨_,hq'⟩:=q8.1 hq
 by_cases hi0:i=0
 ·subst hi0
  simp (disch:=omega) [go_sem,rwL,hlt,hq,hq',Rw.cs,show ¬ w.y < -4096 by omega,show ¬ 4096<=w.y by omega,Q3]
  refine Q4 hcall ?_
  simp (disch:=omega) [go_sem,rwL,Q3]
  exact⟨1,by omega,by omega,by omega⟩
 ·obtain⟨j,rfl⟩:∃j,i=j+1:=⟨i-1,by omega⟩
  obtain⟨s,hs,hsr⟩:=hprev j rfl
  obtain⟨hjl,hs'⟩:=q8.1 hs
  have hlz:(j:Int)+1<(g.length:Int):=by omega
  simp (disch:=omega) [go_sem,rwL,hlt,hlz,hjl,hq,hq',hs,hs',Rw.cs,show ¬ w.y < -4096 by omega,show ¬ 4096<=w.y by omega,show ¬ w.y<=s.y by omega,Q3]
  refine⟨by omega,Q4 hcall ?_⟩
  simp (disch:=omega) [go_sem,rwL,Q3]
  exact⟨j+2,by omega,by omega,by omega⟩
end
def L1y.c:C :=(.seq (.reg [Ab 6 false]) (.seq (.reg [Am 7 0,Am 8 1,Aj .geq 9 7 8,Am 10 9,Av 11 10 (.mv (.t 0)),Av 12 10 (.mv (.t 2)),Av 13 10 (.bin .leq (.t 11) (.t 12)),Ap 14 10 13,Am 15 14,Av 16 15 (.mv (.t 0)),Av 17 15 (.bin .rem (.t 16) (.c (.i .i64 2))),Av 18 15 (.bin .eql (.t 17) (.c (.i .i64 0))),Ap 19 15 18,Am 6 19]) .ret))
def L1y.r:List Rr:=[.tmp 6]
abbrev L1y.n:Nat:=20
def L1x.c (L1y L1k L08 L0u:FuncId):C :=(.seq (.reg [Au 3 (.box (.t 0)),Au 6 (.alloc [.nil]),Ac 7 0]) (.seq (.seq (.reg [Am 11 2,Au 12 (.call L1y [.t 11,(.c (.i .i64 32)),(.c (.i .i64 1024))]),Au 13 (.un .not (.t 12))]) (.ite (.t 13) (.seq (.reg [Au 14 (.build [.nil] []),As 1 6 14,Ac 7 1]) .ret) .skip)) (.seq (.reg [Ag 16 2 3,Am 17 1,Au 18 (.call L1k [.t 16,.t 17]),Am 15 18,Ax1 19 0 15,Ax1 20 1 15,Am 8 19,Am 9 20]) (.seq (.seq (.reg [Am 21 9,Ak .neq 22 21 0]) (.ite (.t 22) (.seq (.reg [Au 23 (.build [.nil] []),Am 24 9,As 1 6 23,Am 7 24]) .ret) .skip)) (.seq (.reg [Am 26 8,Au 27 (.call L08 [.t 26]),
 Am 25 27,Ax1 28 0 25,Ax1 29 1 25,Am 10 28,Am 9 29]) (.seq (.seq (.reg [Am 30 9,Ak .neq 31 30 0]) (.ite (.t 31) (.seq (.reg [Au 32 (.build [.nil] []),Am 33 9,As 1 6 32,Am 7 33]) .ret) .skip)) (.seq (.reg [Am 34 10,Am 35 2,Au 36 (.call L0u [.t 34,.t 35]),Ax1 37 0 36,Ax1 38 1 36,As 1 6 37,Am 7 38]) .ret)))))))
def L1x.r:List Rr:=[.cell 6 (some 1),.tmp 7]
abbrev L1x.n:Nat:=39
def L0f.c (L0g L28:FuncId):C :=(.seq (.reg [Au 1 (.box (.t 0)),Au 2 (.alloc [(.i .i64 0),(.i .i64 0),(.i .i64 0)]),Au 3 (.alloc [(.i .i64 0),(.i .i64 0),(.i .i64 0)]),Ab 4 false]) (.seq (.seq (.reg [Ag 5 2 1,Au 6 (.call L0g [.t 5]),Ak .neq 7 6 0]) (.ite (.t 7) (.seq (.reg [Au 8 (.build [(.i .i64 0),(.i .i64 0),(.i .i64 0)] []),Au 9 (.build [(.i .i64 0),(.i .i64 0),(.i .i64 0)] []),As 3 2 8,As 3 3 9,Ab 4 false]) .ret) .skip)) (.seq (.reg [Af 10 0 1,Al 11 10,Au 12 (.call L28 [.t 11]),Ax1 13 0 12,Ax1 14 1 12,Ax1 15 2 12,As 3 2 13,As 3 3 14,Am 4 15]) .ret)))
def L0f.r:List Rr:=[.cell 2 (some 3),.cell 3 (some 3),.tmp 4]
abbrev L0f.n:Nat:=16
def L28.c (L29:FuncId):C :=(.seq (.reg [Au 2 (.alloc [(.i .i64 0),(.i .i64 0),(.i .i64 0)]),Au 3 (.alloc [(.i .i64 0),(.i .i64 0),(.i .i64 0)]),Ab 4 false]) (.seq (.seq (.reg [Am 10 0,An 11 0 10,Ak .eql 12 11 0]) (.ite (.t 12) (.seq (.reg [Au 13 (.build [(.i .i64 0),(.i .i64 0),(.i .i64 0)] []),Au 14 (.build [(.i .i64 0),(.i .i64 0),(.i .i64 0)] []),As 3 2 13,As 3 3 14,Ab 4 false]) .ret) .skip)) (.seq (.drw [Am 15 0,Au 16 (.ia 3 (.t 15) (.c (.i .i64 0))),Ag 17 3 16,Am 18 0,Au 19 (.ia 3 (.t 18) (.c (.i .i64 0))),Ag 20 3 19,Au 5 (.alloc [(.i .i64 0),(.i .i64 0),(.i .i64 0)]),Au 6 (.alloc [(.i .i64 0),(.i .i64 0),(.i .i64 0)]),
 As 3 5 17,As 3 6 20] [[],[],[],[],[],[],[],[],[4,5],[]]) (.seq (.reg [Au 7 (.mv (.c (.f L29 [])))]) (.seq (.seq (.reg [Am 21 0,An 22 0 21,Ac 23 0]) (.blk 0 (.loop (.seq (.reg [Aj .lss 24 23 22]) (.seq (.ite (.t 24) .skip (.exit 0)) (.seq (.blk 1 (.seq (.reg [Ai 25 3 21 23,Ag 26 3 25,Au 9 (.alloc [(.i .i64 0),(.i .i64 0),(.i .i64 0)]),As 3 9 26]) (.seq (.reg [Am 28 7,Af 29 0 5,Al 30 29,Af 31 0 6,Al 32 31,Af 33 0 9,Al 34 33,Au 35 (.callv (.t 28) [.t 30,.t 32,.t 34]),Am 27 35,Ax1 36 0 27,Ax1 37 1 27,Af 38 0 5,As 1 38 36,Af 39 0 6,As 1 39 37]) (.seq (.reg [Am 41 7,Af 42 1 5,Al 43 42,Af 44 1 6,Al 45 44,
 Af 46 1 9,Al 47 46,Au 48 (.callv (.t 41) [.t 43,.t 45,.t 47]),Am 40 48,Ax1 49 0 40,Ax1 50 1 40,Af 51 1 5,As 1 51 49,Af 52 1 6,As 1 52 50]) (.reg [Am 54 7,Af 55 2 5,Al 56 55,Af 57 2 6,Al 58 57,Af 59 2 9,Al 60 59,Au 61 (.callv (.t 54) [.t 56,.t 58,.t 60]),Am 53 61,Ax1 62 0 53,Ax1 63 1 53,Af 64 2 5,As 1 64 62,Af 65 2 6,As 1 65 63]))))) (.reg [Ad 66 23 1,Am 23 66]))))))) (.seq (.drw [Ag 67 3 5,Ag 68 3 6,As 3 2 67,As 3 3 68,Ab 4 true] [[],[],[1],[],[]]) .ret))))))
def L28.r:List Rr:=[.cell 2 (some 3),.cell 3 (some 3),.tmp 4]
abbrev L28.n:Nat:=69
def L29.c:C :=(.seq (.reg [Ac 6 0,Ac 7 0]) (.seq (.reg [Am 8 0,Am 9 2,Au 10 (.mn [.t 8,.t 9]),Am 11 1,Am 12 2,Au 13 (.mx [.t 11,.t 12]),Am 6 10,Am 7 13]) .ret))
def L29.r:List Rr:=[.tmp 6,.tmp 7]
abbrev L29.n:Nat:=14
def Qu1 (P:Program) (f:FuncId):Prop:=∀n lo hi:Int,0<=lo->CallIs P f [.i .i64 n,.i .i64 lo,.i .i64 hi] (.b (Xn n lo hi))
def Qtj (P:Program) (f:FuncId):Prop:=Z3 P f=true/\∀a b c:Int,CallIs P f [.i .i64 a,.i .i64 b,.i .i64 c] (.t [.i .i64 (min a c),.i .i64 (max b c)])
def Q6w (P:Program) (f:FuncId):Prop:=∀l:List V3,l.length<=1000000->CallIs P f [vsV l] (.t [(bLo l).enc,(bHi l).enc,.b (decide (l≠[]))])
def Qjw (P:Program) (f:FuncId):Prop:=∀m:Mesh,m.check=0->CallIs P f [m.enc] (.t [(bLo m.verts).enc,(bHi m.verts).enc,.b (decide (m.verts≠[]))])
section
variable {P:Program} (hm:P.follows .mixedOrders=true)
include hm
theorem Q78 {f:FuncId} (hf:Qa P f L1y.c L1y.r L1y.n):Qu1 P f:=by
 intro n lo hi h0
 refine PureC.is (Q8 hm hf (qh rfl) ?_) rfl
 unfold L1y.c Xn
 by_cases h1:lo<=n
 ·by_cases h2:n<=hi
  ·have ht:n.tmod 2=n % 2:=jn (by omega)
   have w:=Q3 (z:=n % 2) (by omega) (by omega)
   by_cases h3:n % 2=0
   ·simp[go_sem,h1,h2,ht,h3,L1y.r]
   ·have hb:(n % 2 == 0)=false:=by simpa using h3
    simp[go_sem,h1,h2,ht,w,h3,hb,L1y.r]
  ·simp[go_sem,h1,h2,L1y.r]
 ·simp[go_sem,h1,L1y.r]
theorem Q31 {f:FuncId} (hf:Qa P f L29.c L29.r L29.n) (hcb:Z3 P f=true):Qtj P f:=by
 refine⟨hcb,λa b c=>?_⟩
 refine PureC.is (Q8 hm hf (qh rfl) ?_) rfl
 unfold L29.c
 have e1:(if c<a then c else a)=min a c:=by split<;>omega
 have e2:(if b<c then c else b)=max b c:=by split<;>omega
 simp[go_sem,e1,e2,L29.r]
end
end Go.Abs
