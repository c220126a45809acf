/- Part of the library on which the proof stands: an abstract machine, its values and its soundness against the model; or what functions of the program do to such values. -/
import Derived.Test.YtjggbpiapinceaaGreatGoSc
import Derived.Test.YtjggbpiapinceaaGreatGoUnF
import Derived.Test.YtjggbpiapinceaaGreatGoRw
import Derived.Test.YtjggbpiapinceaaGreatGoDet
import Derived.Test.YtjggbpiapinceaaGreatGoTpD
set_option linter.unusedVariables false
set_option linter.unusedSimpArgs false
set_option maxHeartbeats 2000000
set_option maxRecDepth 20000
namespace Go.Abs
def T3.sft (n:Int) (t:T3):T3:=⟨t.a+n,t.b+n,t.c+n⟩
def Mesh.join (a b:Mesh):Mesh:=⟨a.verts++b.verts,a.tris++b.tris.map (T3.sft a.verts.length)⟩
def Zu (a b:Mesh):Mesh × Int:=if a.check=0/\b.check=0 then (if a.verts.length+b.verts.length<=4096/\a.tris.length+b.tris.length<=4096 then (a.join b,0) else (noMesh,2)) else (noMesh,1)
def Qnv (P:Program) (f:FuncId):Prop:=∀a b:Mesh,CallIs P f [a.enc,b.enc] (.t [(Zu a b).1.enc,.i .i64 (Zu a b).2])
theorem Qc8 {a b:Mesh} (ha:a.check=0) (hb:b.check=0) (h1:a.verts.length+b.verts.length<=4096) (h2:a.tris.length+b.tris.length<=4096):(a.join b).check=0:=by
 obtain⟨_,_,a3,a4⟩:=Mesh.check_zero.1 ha
 obtain⟨_,_,b3,b4⟩:=Mesh.check_zero.1 hb
 refine Mesh.check_zero.2 ⟨by simpa[Mesh.join]using h1,by simpa[Mesh.join]using h2,?_,?_⟩
 ·simp only[Mesh.join,Jm,List.all_append,Bool.and_eq_true]
  exact⟨a3,b3⟩
 ·simp only[Mesh.join,Kr,List.all_append,Bool.and_eq_true,qj,j3]at a4 b4 ⊢
  refine⟨λt ht=>?_,λt ht=>?_⟩
  ·have:=T3.ok_iff.1 (a4 t ht)
   exact T3.ok_iff.2 (by omega)
  ·obtain⟨s,hs,rfl⟩:=qo.1 ht
   have:=T3.ok_iff.1 (b4 s hs)
   exact T3.ok_iff.2 (by simp only[T3.sft];omega)
def jtK (a b:Mesh) (k:Nat):List T3:=a.tris++(b.tris.take k).map (T3.sft a.verts.length)
theorem jtK_len {a b:Mesh} {k:Nat} (h:k<=b.tris.length):(jtK a b k).length=a.tris.length+k:=by simp[jtK];omega
theorem Qkx {a b:Mesh} {k:Nat} {t:T3} (h:b.tris[k]?=some t):jtK a b (k+1)=jtK a b k++[t.sft a.verts.length]:=by
 unfold jtK;rw[Qf h,qw,<- qz];rfl
section
variable {P:Program} (hm:P.follows .mixedOrders=true)
include hm
omit hm in
theorem Qee (e:Int):Le (.t [.a [.nil,.nil],.i .i64 e]) (.t [noMesh.enc,.i .i64 e]) :=
 .inr ⟨_,_,rfl,rfl,.inr ⟨_,_,rfl,rfl,Le0.nil 3,Le0.nil 3,trivial⟩,Le1.refl _,trivial⟩
theorem Q6q {f fc:FuncId} (hf:Q9 P f (L0e.c fc) L0e.r L0e.n) (hc:Jl P fc):Qnv P f:=by
 intro a b
 by_cases hz:a.check=0/\b.check=0
 case neg =>
  have hR:Zu a b=(noMesh,1):=by unfold Zu;rw[if_neg hz]
  rw[hR]
  refine CallIs.res ?_ (Qee _)
  refine PureC.is (Q8 hm hf (qh rfl) ?_) rfl
  unfold L0e.c
  simp[go_sem,Mesh.enc,Mesh.cs]
  refine Q5 (hc a) ?_
  by_cases h1:a.check=0
  ·have h2:¬ b.check=0:=λh=>hz ⟨h1,h⟩
   have hb:(b.check != 0)=true:=by simpa using h2
   simp[go_sem,h1]
   refine Q5 (hc b) ?_
   simp[go_sem,h2,hb,L0e.r]
  ·have hb:(a.check != 0)=true:=by simpa using h1
   simp[go_sem,h1,hb,L0e.r]
 obtain⟨z1,z2,_,za4⟩:=Mesh.check_zero.1 hz.1
 obtain⟨y1,y2,_,yb4⟩:=Mesh.check_zero.1 hz.2
 by_cases hl:a.verts.length+b.verts.length<=4096/\a.tris.length+b.tris.length<=4096
 case neg =>
  have hR:Zu a b=(noMesh,2):=by unfold Zu;rw[if_pos hz,if_neg hl]
  rw[hR]
  refine CallIs.res ?_ (Qee _)
  refine PureC.is (Q8 hm hf (qh rfl) ?_) rfl
  unfold L0e.c
  simp[go_sem,Mesh.enc,Mesh.cs,vsV,tsV]
  refine Q5 (hc a) ?_
  simp[go_sem,hz.1]
  refine Q5 (hc b) ?_
  by_cases h1:a.verts.length+b.verts.length<=4096
  ·simp (disch:=omega) [go_sem,hz.2,Q3,show ¬ (4096:Int)<(a.verts.length:Int)+b.verts.length by omega,show (4096:Int)<(a.tris.length:Int)+b.tris.length by omega,L0e.r]
  ·simp (disch:=omega) [go_sem,hz.2,Q3,show (4096:Int)<(a.verts.length:Int)+b.verts.length by omega,L0e.r]
 have hR:Zu a b=(a.join b,0):=by unfold Zu;rw[if_pos hz,if_pos hl]
 rw[hR]
 refine PureC.is (Q8 hm hf (qh rfl) ?_) rfl
 unfold L0e.c
 simp[go_sem,Mesh.enc,Mesh.cs,vsV,tsV]
 refine Q5 (hc a) ?_
 simp[go_sem,hz.1]
 refine Q5 (hc b) ?_
 simp (disch:=omega) [go_sem,hz.2,Q3,show ¬ (4096:Int)<(a.verts.length:Int)+b.verts.length by omega,show ¬ (4096:Int)<(a.tris.length:Int)+b.tris.length by omega]
 refine⟨⟨by omega,by omega⟩,⟨by omega,by omega⟩,⟨by omega,by omega⟩,?_⟩
 refine Qj (α:=Nat) (λk=>k<=b.tris.length)
  (λk=>⟨[(4,.p 2 1 0 0),(6,.i .i64 a.verts.length),(7,.p 5 1 0 0),(55,tsV b.tris),(56,.i .i64 b.tris.length),(57,.i .i64 k)],
   [.dead,.dead,.arr 1 2 [[.nil,.nil]],.arr 2 3 (a.verts.map V3.cs++b.verts.map V3.cs),.arr (k+1) 3 ((jtK a b k).map T3.cs),.arr 1 2 [[.own 3 2 0 (a.verts.length+b.verts.length),.own 4 (k+1) 0 (jtK a b k).length]]]⟩)
  (λk=>b.tris.length-k) 0 (Nat.zero_le _) ?_ ?_
 ·have h0:jtK a b 0=a.tris:=by simp[jtK]
  simp[go_sem,tsV,h0,or_imp,forall_and,Q1o,Ka]
 ·intro k hk
  by_cases hkl:k=b.tris.length
  ·subst hkl
   have hj:a.join b=⟨a.verts++b.verts,jtK a b b.tris.length⟩:=by unfold Mesh.join jtK;rw[qi]
   rw[hj]
   have htk:List.take (jtK a b b.tris.length).length ((jtK a b b.tris.length).map T3.cs)=(jtK a b b.tris.length).map T3.cs:=qe (by simp)
   have htv:List.take (a.verts.length+b.verts.length) (a.verts.map V3.cs++b.verts.map V3.cs)=a.verts.map V3.cs++b.verts.map V3.cs:=qe (by simp)
   generalize jtK a b b.tris.length=T at *
   simp (disch:=omega) [go_sem,tsV,vsV,Mesh.enc,Mesh.cs,L0e.r,Qdr,Q5z,or_imp,forall_and,htv]
  ·have hlt:k<b.tris.length:=by omega
   have hp:b.tris[k]?=some b.tris[k]:=q9 hlt
   have htm:b.tris[k]∈b.tris:=List.getElem_mem _
   generalize b.tris[k]=t at hp htm
   obtain⟨_,hp'⟩:=q8.1 hp
   obtain⟨a1,a2,b1,b2,c1,c2⟩:=T3.ok_iff.1 (qj.1 yb4 t htm)
   have hjl:=jtK_len (a:=a) (b:=b) (k:=k) (by omega)
   have hjs:=Qkx (a:=a) hp
   have htk:List.take (jtK a b k).length ((jtK a b k).map T3.cs)=(jtK a b k).map T3.cs:=qe (by simp)
   generalize jtK a b k=T at *
   simp (disch:=omega) [go_sem,tsV,hlt,hp,hp',tcs,Q3,htk]
   refine⟨⟨by omega,by omega⟩,k+1,by omega,by omega,?_⟩
   rw[hjs]
   simp[T3.sft,tcs,or_imp,forall_and,Q1o,Ka]
end
theorem Q1z {m:Mesh} {z k:Int} (h:(Qn m z k).2=0):(Yq k 32 1024=true/\m.check=0/\(-65536<=z/\z<=65536))/\BalE (egs (Qs m z m.tris))/\(Qn m z k).1=Jz (egs (Qs m z m.tris)) k:=by
 unfold Qn at h ⊢
 split at h
 ·simp at h
 ·rename_i h1
  rw[if_neg h1]
  split at h
  ·rename_i h2;exact absurd h h2
  ·rename_i h2
   rw[if_neg h2]
   split at h
   ·rename_i h3
    rw[if_pos h3]
    have h2:=Decidable.not_not.1 h2
    unfold Ze at h2 h3 ⊢
    split at h2
    ·rename_i hz
     rw[if_pos hz]at h3 ⊢
     split at h2
     ·simp at h2
     ·rename_i hr
      rw[if_neg hr]at h3 ⊢
      exact⟨⟨by simpa using h1,hz,by omega⟩,h3,rfl⟩
    ·rename_i hz;exact absurd h2 hz
   ·simp at h
theorem Qjb {m:Mesh} {z k:Int} (h1:Yq k 32 1024=true) (h2:m.check=0) (h3:-65536<=z/\z<=65536) (h4:BalE (egs (Qs m z m.tris))):Qn m z k=(Jz (egs (Qs m z m.tris)) k,0):=by
 have hs:Ze m z=(Qs m z m.tris,0):=by
  unfold Ze
  rw[if_pos h2,if_neg (by omega)]
 unfold Qn
 rw[hs,if_neg (by rw[h1];simp),if_neg (by simp),if_pos h4]
theorem BalE.app {a b:List Eg} (ha:BalE a) (hb:BalE b):BalE (a++b):=λp=>by
 rw[List.countP_append,List.countP_append,ha p,hb p]
theorem Qjf (m:Mesh) (z:Int) (a b:List T3):egs (Qs m z (a++b))=egs (Qs m z a)++egs (Qs m z b):=by
 simp[Qs,egs]
theorem Qim {m:Mesh} (h:m.check=0) {t:T3} (ht:t∈m.tris):(0<=t.a/\t.a<m.verts.length)/\(0<=t.b/\t.b<m.verts.length)/\0<=t.c/\t.c<m.verts.length:=by
 obtain⟨_,_,_,h4⟩:=Mesh.check_zero.1 h
 obtain⟨i,hi⟩:=qq ht
 have:=T3.ok_iff.1 (Ec h4 hi)
 omega
theorem Q25 {m n:Mesh} {z:Int} {ts us:List T3} (h:ts.map (Yn m z)=us.map (Yn n z)):Qs m z ts=Qs n z us:=by
 unfold Qs;rw[h]
theorem Qgv {a b:Mesh} (ha:a.check=0) (hb:b.check=0) (z:Int):egs (Qs (a.join b) z (a.join b).tris)=egs (Qs a z a.tris)++egs (Qs b z b.tris):=by
 have e:(a.join b).tris=a.tris++b.tris.map (T3.sft a.verts.length):=rfl
 have v1:∀i:Int,0<=i->i<a.verts.length->(a.join b).v i=a.v i:=λi h1 h2=>by
  unfold Mesh.v
  show (((a.verts++b.verts)[i.toNat]?).getD _)=_
  rw[qd (by omega)]
 have v2:∀i:Int,0<=i->(a.join b).v (i+a.verts.length)=b.v i:=λi h1=>by
  unfold Mesh.v
  show (((a.verts++b.verts)[(i+a.verts.length).toNat]?).getD _)=_
  rw[qf (by omega)]
  congr 2
  omega
 rw[e,Qjf]
 congr 2
 ·refine Q25 (jo λt ht=>?_)
  obtain⟨h1,h2,h3⟩:=Qim ha ht
  unfold Yn
  rw[v1 _ h1.1 h1.2,v1 _ h2.1 h2.2,v1 _ h3.1 h3.2]
 ·refine Q25 ?_
  rw[List.map_map]
  refine jo λt ht=>?_
  obtain⟨h1,h2,h3⟩:=Qim hb ht
  unfold Yn T3.sft Function.comp
  simp only
  rw[v2 _ h1.1,v2 _ h2.1,v2 _ h3.1]
theorem Qgu {a b:Mesh} (h:(Zu a b).2=0):a.check=0/\b.check=0/\(Zu a b).1=a.join b/\(a.join b).check=0:=by
 unfold Zu at h ⊢
 split at h
 ·rename_i hc
  rw[if_pos hc]
  split at h
  ·rename_i hl
   rw[if_pos hl]
   exact⟨hc.1,hc.2,rfl,Qc8 hc.1 hc.2 hl.1 hl.2⟩
  ·simp at h
 ·simp at h
theorem Qc7 {a b:Mesh} {z k:Int} (hj:(Zu a b).2=0) (ha:(Qn a z k).2=0) (hb:(Qn b z k).2=0) :
  (Qn (Zu a b).1 z k).2=0/\(∀y x,Z0 (Qn a z k).1 y x->Z0 (Qn b z k).1 y x->Z0 (Qn (Zu a b).1 z k).1 y x)/\∀y x,Z0 (Qn (Zu a b).1 z k).1 y x->Z0 (Qn a z k).1 y x∨Z0 (Qn b z k).1 y x:=by
 obtain⟨c1,c2,c3,c4⟩:=Qgu hj
 obtain⟨⟨a1,a2,a3⟩,a4,a5⟩:=Q1z ha
 obtain⟨⟨b1,b2,b3⟩,b4,b5⟩:=Q1z hb
 have hs:=Qgv c1 c2 z
 rw[c3]
 have h:=Qjb (m:=a.join b) a1 c4 a3 (by rw[hs];exact a4.app b4)
 rw[h,a5,b5,hs]
 refine⟨rfl,λy x h1 h2=>?_,λy x h1=>?_⟩
 ·unfold Jz at *
  rw[in_canonR]at *
  refine⟨h1.1,h1.2.1,?_⟩
  have e1:=h1.2.2
  have e2:=h2.2.2
  simp only[decide_eq_true_eq]at *
  rw[Qdp];omega
 ·unfold Jz at *
  simp only[in_canonR]at *
  obtain⟨g1,g2,g3⟩:=h1
  simp only[decide_eq_true_eq]at *
  rw[Qdp]at g3
  by_cases h5:0<wnd (egs (Qs a z a.tris)) (ctr k y x)
  ·exact .inl ⟨g1,g2,h5⟩
  ·exact .inr ⟨g1,g2,by omega⟩
theorem Qji {g:List Rw} (hg:RgV g) (h:∀y x,¬ Z0 g y x):g=[] :=
 hg.ext RgV.nil λy x=>⟨λhx=>absurd hx (h y x),λhx=>by simp[Z0]at hx⟩
theorem opR_sub {a b:List Rw} (ha:RgB a) (hb:RgB b):opR 2 a b=[]↔∀y x,Z0 a y x->Z0 b y x:=by
 have e:∀y x,Z0 (opR 2 a b) y x↔Z0 a y x/\¬ Z0 b y x:=λy x=>by
  rw[Bm ha hb]
  by_cases h1:Z0 a y x<;>by_cases h2:Z0 b y x<;>simp[Y7,h1,h2]
 constructor
 ·intro h y x hx
  refine Classical.byContradiction λhn=>?_
  have:=(e y x).2 ⟨hx,hn⟩
  rw[h]at this
  simp[Z0]at this
 ·intro h
  exact Qji (Q09 _ _ _) λy x hx=>((e y x).1 hx).2 (h y x ((e y x).1 hx).1)
theorem Qeg {a b:List Rw} (ha:RgB a) (hb:RgB b) {y x:Int}:Z0 (opR 1 a b) y x↔Z0 a y x/\Z0 b y x:=by
 rw[Bm ha hb]
 by_cases h1:Z0 a y x<;>by_cases h2:Z0 b y x<;>simp[Y7,h1,h2]
def L10.c (L0z L0x:FuncId):C :=(.seq (.reg [Au 2 (.box (.t 0)),Au 3 (.box (.t 1)),Ab 4 false]) (.seq (.reg [Ag 5 1 2,Au 6 (.call L0z [.t 5]),Am 7 6,Av 8 7 (.ld (some 1) (.t 3)),Av 9 7 (.call L0z [.t 8]),Ap 10 7 9,Am 11 10,Av 12 11 (.ld (some 1) (.t 2)),Av 13 11 (.ld (some 1) (.t 3)),Av 14 11 (.call L0x [.t 12,.t 13]),Av 15 11 (.fld 0 none (.t 14)),Av 16 11 (.len 0 (.t 15)),Av 17 11 (.bin .eql (.t 16) (.c (.i .i64 0))),Ap 18 11 17,Am 4 18]) .ret))
def L10.r:List Rr:=[.tmp 4]
abbrev L10.n:Nat:=19
def L0v.c (L16:FuncId):C :=(.seq (.reg [Au 2 (.box (.t 0)),Au 3 (.box (.t 1)),Au 4 (.alloc [.nil])]) (.seq (.reg [Ag 5 1 2,Ag 6 1 3,Au 7 (.call L16 [(.c (.i .i64 1)),.t 5,.t 6]),As 1 4 7]) .ret))
def L0v.r:List Rr:=[.cell 4 (some 1)]
abbrev L0v.n:Nat:=8
def L0x.c (L16:FuncId):C :=(.seq (.reg [Au 2 (.box (.t 0)),Au 3 (.box (.t 1)),Au 4 (.alloc [.nil])]) (.seq (.reg [Ag 5 1 2,Ag 6 1 3,Au 7 (.call L16 [(.c (.i .i64 2)),.t 5,.t 6]),As 1 4 7]) .ret))
def L0x.r:List Rr:=[.cell 4 (some 1)]
abbrev L0x.n:Nat:=8
def L03.c:C :=(.seq (.reg [Au 6 (.alloc [.nil])]) (.seq (.reg [Au 9 (.build [.nil] []),Au 7 (.alloc [.nil]),As 1 7 9]) (.seq (.seq (.reg [Ac 8 0]) (.blk 0 (.loop (.seq (.seq (.reg [Am 10 8,Am 11 2,Aj .lss 12 10 11]) (.ite (.t 12) .skip (.exit 0))) (.seq (.blk 1 (.reg [Af 15 0 7,Al 16 15,Am 17 1,Am 18 8,Aj .add 19 17 18,Am 20 0,Am 21 0,Am 22 2,Aj .add 23 21 22,Au 24 (.build [(.i .i64 0),(.i .i64 0)] [(0,1,(.t 20)),(1,1,(.t 23))]),Au 25 (.bso 2 1 [(.i .i64 0),(.i .i64 0)] [(0,(.t 24))]),Au 26 (.build [(.i .i64 0),.nil] [(0,1,(.t 19)),(1,1,(.t 25))]),Au 27 (.bso 2 1 [(.i .i64 0),.nil] [(0,(.t 26))]),
 Au 28 (.app 2 32 (.t 16) (.t 27)),Af 29 0 7,As 1 29 28])) (.reg [Am 13 8,Ad 14 13 1,Am 8 14])))))) (.seq (.reg [Ag 30 1 7,As 1 6 30]) .ret))))
def L03.r:List Rr:=[.cell 6 (some 1)]
abbrev L03.n:Nat:=31
def L01.c (L1h L1n L03 L0w L17:FuncId):C :=(.seq (.reg [Ab 0 false]) (.seq (.reg [Au 6 (.build [(.i .i64 0),(.i .i64 0),(.i .i64 0)] [(0,1,(.c (.i .i64 40))),(1,1,(.c (.i .i64 80)))]),Au 7 (.build [(.i .i64 0),(.i .i64 0),(.i .i64 0)] [(0,1,(.c (.i .i64 120))),(1,1,(.c (.i .i64 120))),(2,1,(.c (.i .i64 20)))]),Au 8 (.call L1h [.t 6,.t 7]),Am 5 8,Ax1 9 0 5,Ax1 10 1 5,Au 1 (.alloc [.nil,.nil]),As 2 1 9,Am 2 10]) (.seq (.reg [Ag 12 2 1,Au 13 (.call L1n [.t 12,(.c (.i .i64 10)),(.c (.i .i64 40))]),Am 11 13,Ax1 14 0 11,Ax1 15 1 11,Au 3 (.alloc [.nil]),As 1 3 14,Am 4 15]) (.seq (.drw [Am 16 2,Ak .eql 17 16 0,
 Am 18 17,Av 19 18 (.mv (.t 4)),Av 20 18 (.bin .eql (.t 19) (.c (.i .i64 0))),Ap 21 18 20,Am 22 21,Av 23 22 (.ld (some 1) (.t 3)),Av 24 22 (.call L03 [(.c (.i .i64 1)),(.c (.i .i64 2)),(.c (.i .i64 3))]),Av 25 22 (.call L0w [.t 23,.t 24]),Ap 26 22 25,Am 27 26,Av 28 27 (.ld (some 2) (.t 1)),Av 29 27 (.call L17 [.t 28]),Av 30 27 (.bin .eql (.t 29) (.c (.i .i64 0))),Ap 31 27 30,Am 0 31] [[],[],[],[],[],[],[],[],[7],[],[],[],[],[],[],[],[]]) .ret))))
def L01.r:List Rr:=[.tmp 0]
abbrev L01.n:Nat:=32
def L02.c:C :=(.seq (.reg [Au 1 (.box (.t 0)),Ab 2 false]) (.seq (.reg [Af 3 0 1,Al 4 3,An 5 0 4,Ak .leq 6 5 60,Am 7 6,Av 8 7 (.fa 1 (.t 1)),Av 9 7 (.ld none (.t 8)),Av 10 7 (.len 0 (.t 9)),Av 11 7 (.bin .leq (.t 10) (.c (.i .i64 60))),Ap 12 7 11,Am 2 12]) .ret))
def L02.r:List Rr:=[.tmp 2]
abbrev L02.n:Nat:=13
def L00.c (L02 L01 L0e L1n L0v L10 L0y:FuncId):C :=(.seq (.reg [Au 3 (.box (.t 0)),Au 4 (.box (.t 1)),Au 5 (.box (.t 2)),Ab 6 false]) (.seq (.drw [Au 17 (.iaa 2 1 (.t 5) (.c (.i .i64 0))),Al 18 17,Au 19 (.iaa 2 1 (.t 5) (.c (.i .i64 1))),Al 20 19,Am 7 18,Am 8 20] []) (.seq (.seq (.reg [Ag 21 2 3,Au 22 (.call L02 [.t 21]),Au 23 (.un .not (.t 22)),Am 24 23,Aw 25 24 (.ld (some 2) (.t 4)),Aw 26 24 (.call L02 [.t 25]),Aw 27 24 (.un .not (.t 26)),Ao 28 24 27]) (.ite (.t 28) (.seq (.reg [Au 29 (.call L01 []),Am 6 29]) .ret) .skip)) (.seq (.reg [Ag 31 2 3,Ag 32 2 4,Au 33 (.call L0e [.t 31,.t 32]),Am 30 33,
 Ax1 34 0 30,Ax1 35 1 30,Au 9 (.alloc [.nil,.nil]),As 2 9 34,Am 10 35]) (.seq (.reg [Ag 37 2 3,Am 38 7,Am 39 8,Au 40 (.call L1n [.t 37,.t 38,.t 39]),Am 36 40,Ax1 41 0 36,Ax1 42 1 36,Au 11 (.alloc [.nil]),As 1 11 41,Am 12 42]) (.seq (.reg [Ag 44 2 4,Am 45 7,Am 46 8,Au 47 (.call L1n [.t 44,.t 45,.t 46]),Am 43 47,Ax1 48 0 43,Ax1 49 1 43,Au 13 (.alloc [.nil]),As 1 13 48,Am 14 49]) (.seq (.seq (.reg [Am 50 10,Ak .neq 51 50 0,Am 52 51,Aw 53 52 (.mv (.t 12)),Aw 54 52 (.bin .neq (.t 53) (.c (.i .i64 0))),Ao 55 52 54,Am 56 55,Aw 57 56 (.mv (.t 14)),Aw 58 56 (.bin .neq (.t 57) (.c (.i .i64 0))),Ao 59 56 58])
 (.ite (.t 59) (.seq (.reg [Au 60 (.call L01 []),Am 6 60]) .ret) .skip)) (.seq (.reg [Ag 62 2 9,Am 63 7,Am 64 8,Au 65 (.call L1n [.t 62,.t 63,.t 64]),Am 61 65,Ax1 66 0 61,Ax1 67 1 61,Au 15 (.alloc [.nil]),As 1 15 66,Am 16 67]) (.seq (.drw [Am 68 16,Ak .eql 69 68 0,Am 70 69,Av 71 70 (.ld (some 1) (.t 11)),Av 72 70 (.ld (some 1) (.t 13)),Av 73 70 (.call L0v [.t 71,.t 72]),Av 74 70 (.ld (some 1) (.t 15)),Av 75 70 (.call L10 [.t 73,.t 74]),Ap 76 70 75,Am 77 76,Av 78 77 (.ld (some 1) (.t 15)),Av 79 77 (.ld (some 1) (.t 11)),Av 80 77 (.ld (some 1) (.t 13)),Av 81 77 (.call L0y [.t 79,.t 80]),Av 82 77 (.call L10 [.t 78,.t 81]),
 Ap 83 77 82,Am 84 83,Av 85 84 (.call L01 []),Ap 86 84 85,Am 6 86] [[],[],[],[],[],[],[5],[],[],[],[],[],[],[10],[],[],[],[],[],[]]) .ret)))))))))
def L00.r:List Rr:=[.tmp 6]
abbrev L00.n:Nat:=87
end Go.Abs
