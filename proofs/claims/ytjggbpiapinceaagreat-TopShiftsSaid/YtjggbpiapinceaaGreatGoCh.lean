/- Part of the library on which the proof stands: an abstract machine, its values and its soundness against the model; or what functions of the program do to such values. -/
import Derived.Test.YtjggbpiapinceaaGreatGoRevC
import Derived.Test.YtjggbpiapinceaaGreatGoRsA
set_option linter.unusedVariables false
set_option linter.unusedSimpArgs false
set_option maxHeartbeats 4000000
set_option maxRecDepth 4000
namespace Go.Abs
def L17.c (L0g:FuncId):C :=(.seq (.reg [Ac 10 0]) (.seq (.reg [Am 14 1,Am 15 0,Aj .sub 16 14 15,Am 17 4,Au 18 (.bin .mul (.c (.i .i64 2)) (.t 17)),Ad 19 18 1,Am 20 2,Au 21 (.bin .mul (.c (.i .i64 2)) (.t 20)),Aj .sub 22 19 21,Aj .mul 23 16 22,Am 24 3,Am 25 2,Aj .sub 26 24 25,Au 27 (.bin .mul (.c (.i .i64 2)) (.t 26)),Au 28 (.call L0g [.t 23,.t 27]),Am 13 28,Ax1 29 0 13,Ax1 30 1 13,Am 11 29,Am 12 30]) (.seq (.reg [Am 31 0,Am 32 11,Aj .add 33 31 32,Am 10 33]) .ret)))
def L17.r:List Rr:=[.tmp 10]
abbrev L17.n:Nat:=34
def L16.c (L1z L17:FuncId):C :=(.seq (.reg [Au 3 (.box (.t 0)),Au 4 (.box (.t 1)),Au 6 (.alloc [(.i .i64 0),(.i .i64 0)]),Ab 7 false]) (.seq (.seq (.reg [Ag 8 3 3,Au 9 (.call L1z [.t 8]),Au 10 (.un .not (.t 9)),Am 11 10,Aw 12 11 (.ld (some 3) (.t 4)),Aw 13 11 (.call L1z [.t 12]),Aw 14 11 (.un .not (.t 13)),Ao 15 11 14,Am 16 15,Aw 17 16 (.fa 2 (.t 3)),Aw 18 16 (.ld none (.t 17)),Aw 19 16 (.mv (.t 2)),Aw 20 16 (.bin .gtr (.t 18) (.t 19)),Ao 21 16 20,Am 22 21,Aw 23 22 (.mv (.t 2)),Aw 24 22 (.fa 2 (.t 4)),Aw 25 22 (.ld none (.t 24)),Aw 26 22 (.bin .geq (.t 23) (.t 25)),Ao 27 22 26]) (.ite (.t 27) (.seq
 (.reg [Au 28 (.build [(.i .i64 0),(.i .i64 0)] []),As 2 6 28,Ab 7 false]) .ret) .skip)) (.seq (.drw [Af 29 0 3,Al 30 29,Af 31 0 4,Al 32 31,Af 33 2 3,Al 34 33,Af 35 2 4,Al 36 35,Am 37 2,Au 38 (.call L17 [.t 30,.t 32,.t 34,.t 36,.t 37]),Af 39 1 3,Al 40 39,Af 41 1 4,Al 42 41,Af 43 2 3,Al 44 43,Af 45 2 4,Al 46 45,Am 47 2,Au 48 (.call L17 [.t 40,.t 42,.t 44,.t 46,.t 47]),Au 49 (.build [(.i .i64 0),(.i .i64 0)] [(0,1,(.t 38)),(1,1,(.t 48))]),As 2 6 49,Ab 7 true] [[],[],[],[],[],[],[],[],[],[],[9],[9],[9],[9],[9],[9],[9],[9],[],[],[],[],[]]) .ret)))
def L16.r:List Rr:=[.cell 6 (some 2),.tmp 7]
abbrev L16.n:Nat:=50
def L18.c (L16:FuncId):C :=(.seq (.reg [Au 2 (.box (.t 0)),Au 4 (.alloc [(.i .i64 0),(.i .i64 0),(.i .i64 0),(.i .i64 0)]),Ab 5 false]) (.seq (.reg [Au 6 (.alloc [(.i .i64 0),(.i .i64 0),(.i .i64 0),(.i .i64 0)])]) (.seq (.reg [Ab 7 false]) (.seq (.seq (.reg [Ag 15 9 2,Ac 16 0]) (.blk 0 (.loop (.seq (.reg [Ak .lss 17 16 3]) (.seq (.ite (.t 17) .skip (.exit 0)) (.seq (.blk 1 (.seq (.reg [Am 18 16,Au 19 (.ix 3 3 (some 3) (.t 15) (.t 16)),Au 9 (.alloc [(.i .i64 0),(.i .i64 0),(.i .i64 0)]),Am 8 18,As 3 9 19]) (.seq (.reg [Am 20 8,Ad 21 20 1,Ak .rem 22 21 3,Au 23 (.iaa 3 3 (.t 2) (.t 22)),Ag 24 3 23,
 Au 10 (.alloc [(.i .i64 0),(.i .i64 0),(.i .i64 0)]),As 3 10 24]) (.seq (.seq (.reg [Ag 26 3 9,Ag 27 3 10,Am 28 1,Au 29 (.call L16 [.t 26,.t 27,.t 28]),Am 25 29,Ax1 30 0 25,Ax1 31 1 25,Au 11 (.alloc [(.i .i64 0),(.i .i64 0)]),As 2 11 30,Am 12 31]) (.seq (.reg [Am 32 12]) (.ite (.t 32) (.reg [Ag 33 2 11,Af 34 2 6,As 2 34 33,Ab 7 true]) .skip))) (.seq (.reg [Ag 36 3 10,Ag 37 3 9,Am 38 1,Au 39 (.call L16 [.t 36,.t 37,.t 38]),Am 35 39,Ax1 40 0 35,Ax1 41 1 35,Au 13 (.alloc [(.i .i64 0),(.i .i64 0)]),As 2 13 40,Am 14 41]) (.seq (.reg [Am 42 14]) (.ite (.t 42) (.reg [Ag 43 2 13,Af 44 0 6,As 2 44 43])
 .skip))))))) (.reg [Ad 45 16 1,Am 16 45]))))))) (.seq (.reg [Ag 46 4 6,Am 47 7,As 4 4 46,Am 5 47]) .ret)))))
def L18.r:List Rr:=[.cell 4 (some 4),.tmp 5]
abbrev L18.n:Nat:=48
def L15.c (L0c L0d L18:FuncId):C :=(.seq (.reg [Au 2 (.box (.t 0)),Az 4,Ac 5 0]) (.seq (.seq (.reg [Ag 15 2 2,Au 16 (.call L0c [.t 15]),Am 6 16]) (.seq (.reg [Am 17 6,Ak .neq 18 17 0]) (.ite (.t 18) (.seq (.reg [Am 19 6,Az 4,Am 5 19]) .ret) .skip))) (.seq (.seq (.reg [Am 20 1,Ak .lss 21 20 (-65536),Am 22 21,Aw 23 22 (.mv (.t 1)),Aw 24 22 (.bin .gtr (.t 23) (.c (.i .i64 65536))),Ao 25 22 24]) (.ite (.t 25) (.seq (.reg [Az 4,Ac 5 8]) .ret) .skip)) (.seq (.reg [Az 7]) (.seq (.seq (.reg [Af 26 1 2,Al 27 26,An 28 0 27,Ac 29 0]) (.blk 0 (.loop (.seq (.reg [Aj .lss 30 29 28]) (.seq (.ite (.t 30) .skip
 (.exit 0)) (.seq (.blk 1 (.seq (.reg [Am 31 29,Am 8 31]) (.seq (.reg [Ag 33 2 2,Am 34 8,Au 35 (.call L0d [.t 33,.t 34]),Am 32 35,Ax1 36 0 32,Ax1 37 1 32,Ax1 38 2 32,Ax1 39 3 32,Au 9 (.alloc [(.i .i64 0),(.i .i64 0),(.i .i64 0)]),Au 10 (.alloc [(.i .i64 0),(.i .i64 0),(.i .i64 0)]),Au 11 (.alloc [(.i .i64 0),(.i .i64 0),(.i .i64 0)]),As 3 9 36,As 3 10 37,As 3 11 38,Am 12 39]) (.seq (.reg [Ag 41 3 9,Ag 42 3 10,Ag 43 3 11,Au 44 (.build [(.i .i64 0),(.i .i64 0),(.i .i64 0),(.i .i64 0),(.i .i64 0),(.i .i64 0),(.i .i64 0),(.i .i64 0),(.i .i64 0)] [(0,3,(.t 41)),(3,3,(.t 42)),(6,3,(.t 43))]),Am 45 1,
 Au 46 (.call L18 [.t 44,.t 45]),Am 40 46,Ax1 47 0 40,Ax1 48 1 40,Au 13 (.alloc [(.i .i64 0),(.i .i64 0),(.i .i64 0),(.i .i64 0)]),As 4 13 47,Am 14 48]) (.seq (.reg [Am 49 14]) (.ite (.t 49) (.reg [Am 50 7,Ag 51 4 13,Au 52 (.bsi 4 1 [(.i .i64 0),(.i .i64 0),(.i .i64 0),(.i .i64 0)] [(0,(.t 51))]),Au 53 (.app 4 32 (.t 50) (.t 52)),Am 7 53]) .skip)))))) (.reg [Ad 54 29 1,Am 29 54]))))))) (.seq (.reg [Am 55 7,Am 4 55,Ac 5 0]) .ret))))))
def L15.r:List Rr:=[.tmp 4,.tmp 5]
abbrev L15.n:Nat:=56
theorem Qbs {x y A B:Int} (h1:-A<=x) (h2:x<=A) (h3:-B<=y) (h4:y<=B):-(A*B)<=x*y/\x*y<=A*B:=by
 have hA:0<=A:=by omega
 have hB:0<=B:=by omega
 have h5:=Nat.mul_le_mul (show x.natAbs<=A.natAbs by omega) (show y.natAbs<=B.natAbs by omega)
 rw[<- Int.natAbs_mul,<- Int.natAbs_mul]at h5
 have h6:0<=A*B:=Int.mul_nonneg hA hB
 omega
def E9 (c0 c1 z0 z1 z:Int):Int:=c0+rnd ((c1-c0)*(2*z+1-2*z0)) (2*(z1-z0))
def Qnw (P:Program) (f:FuncId):Prop:=∀c0 c1 z0 z1 z:Int,-65536<=c0->c0<=65536->-65536<=c1->c1<=65536->-65536<=z0->z1<=65536->z0<=z->z<z1 ->
 CallIs P f [.i .i64 c0,.i .i64 c1,.i .i64 z0,.i .i64 z1,.i .i64 z] (.i .i64 (E9 c0 c1 z0 z1 z))
def point (a b:V3) (z:Int):Option (Int × Int) :=
 if a.valid=true/\b.valid=true/\a.z<=z/\z<b.z then some (E9 a.x b.x a.z b.z z,E9 a.y b.y a.z b.z z) else none
def ptR:Option (Int × Int)->V
 | none=>.t [.a [.i .i64 0,.i .i64 0],.b false]
 | some p=>.t [.a [.i .i64 p.1,.i .i64 p.2],.b true]
def Qd7 (P:Program) (f:FuncId):Prop:=∀(a b:V3) (z:Int),CallIs P f [a.enc,b.enc,.i .i64 z] (ptR (point a b z))
theorem crs_rnd {a b:Int} (h1:-34359738368<=a) (h2:a<=34359738368) (h3:0<b):-34359738369<=rnd a b/\rnd a b<=34359738369:=by
 unfold rnd
 have h4:=Int.mul_ediv_add_emod (2*a+b) (2*b)
 have h5:=Int.emod_nonneg (2*a+b) (show 2*b≠0 by omega)
 have h6:=Int.emod_lt_of_pos (2*a+b) (show 0<2*b by omega)
 generalize (2*a+b) / (2*b)=q at h4 ⊢
 generalize (2*a+b) % (2*b)=r at *
 have h7:2*b*q=2*(b*q):=Int.mul_assoc 2 b q
 constructor
 ·refine j7 λhh=>?_
  have:=jg (show q<=-34359738370 by omega) (show 0<=b by omega)
  omega
 ·refine j7 λhh=>?_
  have:=jg (show 34359738370<=q by omega) (show 0<=b by omega)
  omega
section
variable {P:Program} (hm:P.follows .mixedOrders=true)
include hm
theorem B6 {f fr:FuncId} (hf:Qa P f (L17.c fr) L17.r L17.n) (hr:Qd5 P fr):Qnw P f:=by
 intro c0 c1 z0 z1 z h1 h2 h3 h4 h5 h6 h7 h8
 refine PureC.is (Q8 hm hf (qh rfl) ?_) rfl
 unfold L17.c
 have hp:=Qbs (x:=c1-c0) (y:=2*z+1-2*z0) (A:=131072) (B:=262144) (by omega) (by omega) (by omega) (by omega)
 have hb:=crs_rnd (a:=(c1-c0)*(2*z+1-2*z0)) (b:=2*(z1-z0)) (by omega) (by omega) (by omega)
 simp (disch:=omega) [go_sem,Q3]
 refine Q5 (hr _ _ (by omega) (by omega) (by omega) (by omega)) ?_
 simp (disch:=omega) [go_sem,Q3,L17.r,E9]
theorem B7 {f fv fc:FuncId} (hf:Qa P f (L16.c fv fc) L16.r L16.n) (hv:Eh P fv) (hc:Qnw P fc):Qd7 P f:=by
 intro a b z
 refine PureC.is (Q8 hm hf (qh rfl) ?_) rfl
 unfold L16.c
 simp[go_sem,V3.enc,vcs]
 refine Q5 (hv a) ?_
 simp +contextual -implicitDefEqProofs [go_sem]
 refine Gq_is' (r:=.b b.valid) (λhh=>?_) ?_
 ·have hh':a.valid=true:=by simpa using hh
  simp[go_sem,hh']
  exact hv b
 by_cases h:a.valid=true/\b.valid=true/\a.z<=z/\z<b.z
 ·obtain⟨h1,h2,h3,h4⟩:=h
  have g1:=V3.valid_iff.1 h1
  have g2:=V3.valid_iff.1 h2
  simp[go_sem,h1,h2,show ¬ z<a.z by omega,show ¬ b.z<=z by omega]
  refine Qx (hc _ _ _ _ _ (by omega) (by omega) (by omega) (by omega) (by omega) (by omega) (by omega) (by omega)) ?_
  simp[go_sem]
  refine Qx (hc _ _ _ _ _ (by omega) (by omega) (by omega) (by omega) (by omega) (by omega) (by omega) (by omega)) ?_
  simp[go_sem,L16.r,point,h1,h2,h3,h4,ptR]
 ·have hn:point a b z=none:=by simp only[point,h,if_false]
  rw[hn]
  cases h1:a.valid
  ·simp[go_sem,L16.r,ptR]
  ·cases h2:b.valid
   ·simp[go_sem,L16.r,ptR]
   ·simp +contextual -implicitDefEqProofs [go_sem,L16.r,ptR]
    exact λh3 h4=>absurd ⟨h1,h2,h3,h4⟩ h
end
structure Sg4 where
 a:Int × Int
 b:Int × Int
 found:Bool
def Sg4.init:Sg4:=⟨(0,0),(0,0),false⟩
def Sg4.step (z:Int) (s:Sg4) (u v:V3):Sg4 :=
 let s1:Sg4:=match point u v z with | some p=>⟨s.a,p,true⟩ | none=>s
 match point v u z with | some p=>⟨p,s1.b,s1.found⟩ | none=>s1
def Sg4.cs (s:Sg4):List V:=[.i .i64 s.a.1,.i .i64 s.a.2,.i .i64 s.b.1,.i .i64 s.b.2]
def Xq (z:Int) (a b c:V3):Nat->Sg4
 | 0=>.init
 | 1=>Sg4.init.step z a b
 | 2=>(Sg4.init.step z a b).step z b c
 | _=>((Sg4.init.step z a b).step z b c).step z c a
def U8 (z:Int) (a b c:V3):Sg4:=Xq z a b c 3
def CutC (P:Program) (f:FuncId):Prop:=∀(a b c:V3) (z:Int),CallIs P f [.a (a.cs++b.cs++c.cs),.i .i64 z] (.t [.a (U8 z a b c).cs,.b (U8 z a b c).found])
section
variable {P:Program} (hm:P.follows .mixedOrders=true)
include hm
theorem Q22 {f fp:FuncId} (hf:Qa P f (L18.c fp) L18.r L18.n) (hp:Qd7 P fp):CutC P f:=by
 intro a b c z
 refine PureC.is (Q8 hm hf (qh rfl) ?_) rfl
 unfold L18.c
 simp[go_sem,vcs]
 refine Qj (α:=Nat) (λk=>k<=3)
  (λk=>⟨[(1,.i .i64 z),(2,.p 0 1 0 0),(4,.p 1 1 0 0),(6,.p 2 1 0 0),(7,.b (Xq z a b c k).found),(15,.a (a.cs++b.cs++c.cs)),(16,.i .i64 k)],
   [.arr 1 9 [a.cs++b.cs++c.cs],.arr 1 4 [[.i .i64 0,.i .i64 0,.i .i64 0,.i .i64 0]],.arr 1 4 [(Xq z a b c k).cs]]⟩)
  (λk=>3-k) 0 (Nat.zero_le _) ?_ ?_
 ·simp[go_sem,vcs,Xq,Sg4.init,Sg4.cs]
 ·intro k hk
  obtain rfl | rfl | rfl | rfl:k=0∨k=1∨k=2∨k=3:=by omega
  ·have hs:Xq z a b c 1=(Xq z a b c 0).step z a b:=Rfl rfl
   generalize Xq z a b c 0=s at hs ⊢
   simp (disch:=omega) [go_sem,vcs,Sg4.cs,Q3]
   refine Q5 (hp a b z) ?_
   cases h1:point a b z<;>simp[go_sem,ptR]<;>refine Q5 (hp b a z) ?_<;>cases h2:point b a z<;>simp[go_sem,ptR] <;>
    simp (disch:=omega) [go_sem,Q3]<;>refine⟨1,by omega,by omega,?_⟩<;>rw[hs]<;>simp[go_sem,vcs,Sg4.cs,Sg4.step,h1,h2]
  ·have hs:Xq z a b c 2=(Xq z a b c 1).step z b c:=Rfl rfl
   generalize Xq z a b c 1=s at hs ⊢
   simp (disch:=omega) [go_sem,vcs,Sg4.cs,Q3]
   refine Q5 (hp b c z) ?_
   cases h1:point b c z<;>simp[go_sem,ptR]<;>refine Q5 (hp c b z) ?_<;>cases h2:point c b z<;>simp[go_sem,ptR] <;>
    simp (disch:=omega) [go_sem,Q3]<;>refine⟨2,by omega,by omega,?_⟩<;>rw[hs]<;>simp[go_sem,vcs,Sg4.cs,Sg4.step,h1,h2]
  ·have hs:Xq z a b c 3=(Xq z a b c 2).step z c a:=Rfl rfl
   generalize Xq z a b c 2=s at hs ⊢
   simp (disch:=omega) [go_sem,vcs,Sg4.cs,Q3]
   refine Q5 (hp c a z) ?_
   cases h1:point c a z<;>simp[go_sem,ptR]<;>refine Q5 (hp a c z) ?_<;>cases h2:point a c z<;>simp[go_sem,ptR] <;>
    simp (disch:=omega) [go_sem,Q3]<;>refine⟨3,by omega,by omega,?_⟩<;>rw[hs]<;>simp[go_sem,vcs,Sg4.cs,Sg4.step,h1,h2]
  ·simp[go_sem,vcs,Sg4.cs,L18.r,U8]
end
instance:Inhabited V3:=⟨⟨0,0,0⟩⟩
def Mesh.v (m:Mesh) (i:Int):V3:=m.verts[i.toNat]?.getD ⟨0,0,0⟩
theorem Mesh.v_get {m:Mesh} {i:Int} (h1:i<m.verts.length) (h:i.toNat<m.verts.length):m.verts[i.toNat]=m.v i:=by simp[Mesh.v,h]
def zV3:V:=.a [.i .i64 0,.i .i64 0,.i .i64 0]
def Mesh.corners (m:Mesh) (i:Int):V :=
 if 0<=i/\i<m.tris.length/\m.check=0 then match m.tris[i.toNat]? with
  | some t=>.t [(m.v t.a).enc,(m.v t.b).enc,(m.v t.c).enc,.b true]
  | none=>.any
 else .t [zV3,zV3,zV3,.b false]
def Ix (P:Program) (f:FuncId):Prop:=∀(m:Mesh) (i:Int),CallIs P f [m.enc,.i .i64 i] (m.corners i)
def apS (t:Nat) (e:List (Nat × V)) (pre:List O) (d sz:Nat) (els:List (List V)):St :=
 if els=[] then ⟨(t,.nil)::e,pre⟩ else ⟨(t,.own (pre.length+d) els.length 0 els.length)::e,pre++List.replicate d .dead++[.arr els.length sz els]⟩
section
variable {P:Program} (hm:P.follows .mixedOrders=true)
include hm
theorem Q16 {f fc:FuncId} (hf:Qa P f (L0d.c fc) L0d.r L0d.n) (hc:Jl P fc):Ix P f:=by
 intro m i
 refine PureC.is (Q8 hm hf (qh rfl) ?_) rfl
 unfold L0d.c
 by_cases h:0<=i/\i<m.tris.length
 ·obtain⟨h0,h1⟩:=h
  have hlt:i.toNat<m.tris.length:=by omega
  simp[go_sem,Mesh.enc,Mesh.cs,vsV,tsV,show ¬ i<0 by omega,show ¬ (m.tris.length:Int)<=i by omega]
  refine Q5 (hc m) ?_
  by_cases hz:m.check=0
  ·obtain⟨z1,z2,z3,z4⟩:=Mesh.check_zero.1 hz
   obtain⟨t,hp⟩:∃t,m.tris[i.toNat]?=some t:=⟨_,q9 hlt⟩
   obtain⟨hlt',hp'⟩:=q8.1 hp
   obtain⟨t1,t2,t3,t4,t5,t6⟩:=T3.ok_iff.1 (Ek z4 hp)
   have ga:=Mesh.v_get t2 (by omega)
   have gb:=Mesh.v_get t4 (by omega)
   have gc:=Mesh.v_get t6 (by omega)
   have hr:m.corners i=.t [(m.v t.a).enc,(m.v t.b).enc,(m.v t.c).enc,.b true]:=by
    simp only[Mesh.corners,h0,h1,hz,and_self,if_true,hp]
   rw[hr]
   simp[go_sem,hz,h0,h1,hlt,hp',tcs,vcs,t1,t2,t3,t4,t5,t6,show t.a.toNat<m.verts.length by omega,show t.b.toNat<m.verts.length by omega,show t.c.toNat<m.verts.length by omega,ga,gb,gc,L0d.r,V3.enc]
  ·simp[go_sem,hz,L0d.r,Mesh.corners,zV3]
 ·have:i<0∨(m.tris.length:Int)<=i:=by omega
  have hr:m.corners i=.t [zV3,zV3,zV3,.b false]:=by
   unfold Mesh.corners;rw[if_neg (by omega)]
  rw[hr]
  by_cases h0:i<0
  ·simp[go_sem,Mesh.enc,Mesh.cs,vsV,tsV,h0,L0d.r,zV3]
  ·simp[go_sem,Mesh.enc,Mesh.cs,vsV,tsV,h0,show (m.tris.length:Int)<=i by omega,L0d.r,zV3]
end
def Y5 (m:Mesh) (z:Int) (t:T3):Sg4:=U8 z (m.v t.a) (m.v t.b) (m.v t.c)
def Qw (m:Mesh) (z:Int) (ts:List T3):List Sg4:=(ts.map (Y5 m z)).filter (·.found)
def Ym (m:Mesh) (z:Int) (ts:List T3):List (List V):=(Qw m z ts).map Sg4.cs
def Zb (m:Mesh) (z:Int):List Sg4 × Int:=if m.check=0 then (if z < -65536∨65536<z then ([],8) else (Qw m z m.tris,0)) else ([],m.check)
def secV (r:List Sg4 × Int):V:=.t [apV 4 (r.1.map Sg4.cs),.i .i64 r.2]
def secL (r:List Sg4 × Int):V:=.t [.l 4 (r.1.map Sg4.cs),.i .i64 r.2]
theorem secV_le (r:List Sg4 × Int):Le (secV r) (secL r):=.inr ⟨_,_,rfl,rfl,.inl (apV_le 4 _),Le1.refl _,trivial⟩
def SecC (P:Program) (f:FuncId):Prop:=∀(m:Mesh) (z:Int),CallIs P f [m.enc,.i .i64 z] (secL (Zb m z))
theorem Q8q {m:Mesh} {z:Int} {ts:List T3} {k:Nat} {t:T3} (h:ts[k]?=some t) :
  Ym m z (ts.take (k+1))=Ym m z (ts.take k)++(if (Y5 m z t).found=true then [(Y5 m z t).cs] else []):=by
 simp only[Ym,Qw,List.take_add_one,h,Option.toList_some,qw,List.map_cons,List.map_nil,List.filter_append,List.filter_cons,List.filter_nil]
 split<;>simp
theorem Qba (m:Mesh) (z:Int) (ts:List T3):(Ym m z ts).length<=ts.length:=by
 simp only[Ym,Qw,List.length_map]
 exact Nat.le_trans (j8 _ _) (by simp)
theorem Qbb (m:Mesh) (z:Int) (ts:List T3):(∀x∈Ym m z ts,∀y∈x,y.isD=true)=True:=by
 simp[Ym,Sg4.cs,V.isD]
theorem Qfm (m:Mesh) (z:Int) (ts:List T3) (n:Nat):(∀x∈Ym m z ts,∀y∈x,y.cl n=true)=True:=by
 simp[Ym,Sg4.cs,V.cl,V.cl1,V.cl0]
section
variable {P:Program} (hm:P.follows .mixedOrders=true)
include hm
theorem Q23 {f fc fk ft:FuncId} (hf:Qa P f (L15.c fc fk ft) L15.r L15.n) (hc:Jl P fc) (hk:Ix P fk) (ht:CutC P ft):SecC P f:=by
 intro m z
 refine CallIs.res ?_ (secV_le _)
 refine PureC.is (Q8 hm hf (qh rfl) ?_) rfl
 unfold L15.c
 simp[go_sem,Mesh.enc,Mesh.cs,vsV,tsV]
 refine Q5 (hc m) ?_
 by_cases hz:m.check=0
 ·obtain⟨z1,z2,z3,z4⟩:=Mesh.check_zero.1 hz
  by_cases hr:z < -65536∨65536<z
  ·have hres:Zb m z=([],8):=by simp only[Zb,hz,hr,if_true]
   rw[hres]
   simp +contextual -implicitDefEqProofs [go_sem,hz,L15.r,secV,apV]
   intro h1 h2
   omega
  ·have hres:secV (Zb m z)=.t [apV 4 (Ym m z m.tris),.i .i64 0]:=by simp only[Zb,hz,hr,if_true,if_false];rfl
   rw[hres]
   simp[go_sem,hz,show ¬ z < -65536 by omega,show ¬ 65536<z by omega]
   refine Qj (α:=Nat) (λk=>k<=m.tris.length)
    (λk=>apS 7 [(1,.i .i64 z),(2,.p 0 1 0 0),(28,.i .i64 m.tris.length),(29,.i .i64 k)] [.arr 1 2 [m.cs]] 4 4 (Ym m z (m.tris.take k)))
    (λk=>m.tris.length-k) 0 (Nat.zero_le _) ?_ ?_
   ·simp[go_sem,apS,Ym,Qw,Mesh.cs,vsV,tsV]
   ·intro k hk'
    have hlen:=Qba m z (m.tris.take k)
    have hlen2:(m.tris.take k).length<=k:=by simp;omega
    cases hp:m.tris[k]? with
    | none =>
      have:¬ k<m.tris.length:=by simpa using hp
      obtain rfl:k=m.tris.length:=by omega
      rw[qi]
      have hd:=of_eq_true (Qbb m z m.tris)
      generalize hels:Ym m z m.tris=els at *
      by_cases he:els=[]
      ·simp[go_sem,apS,he,L15.r,apV]
      ·simp[go_sem,apS,he,L15.r,apV,qe]
       rw[if_pos hd]
       rfl
    | some t =>
      obtain⟨hlt,hp'⟩:=q8.1 hp
      have hsucc:=Q8q (m:=m) (z:=z) hp
      have hcor:m.corners k=.t [(m.v t.a).enc,(m.v t.b).enc,(m.v t.c).enc,.b true]:=by
       simp only[Mesh.corners,hz,Int.toNat_natCast,hp,show (0:Int)<=k by omega,show (k:Int)<m.tris.length by omega,and_self,if_true]
      have hcut:CallIs P ft [.a ((m.v t.a).cs++(m.v t.b).cs++(m.v t.c).cs),.i .i64 z] (.t [.a (Y5 m z t).cs,.b (Y5 m z t).found]):=ht _ _ _ z
      have hcl:=of_eq_true (Qfm m z (m.tris.take k) 6)
      generalize hels:Ym m z (m.tris.take k)=els at *
      by_cases he:els=[]
      ·subst he
       simp[go_sem,apS,hlt,Mesh.cs,vsV,tsV]
       refine Q5 (hk m k) ?_
       rw[hcor]
       simp[go_sem,V3.enc,vcs]
       simp only[vcs,List.cons_append,List.nil_append]at hcut
       refine Q5 hcut ?_
       cases hfo:(Y5 m z t).found
       ·simp[go_sem,Sg4.cs]
        simp (disch:=omega) [go_sem,Q3]
        refine⟨k+1,by omega,by omega,?_⟩
        rw[hsucc]
        simp[go_sem,hfo,Mesh.cs,vsV,tsV]
       ·simp[go_sem,Sg4.cs]
        simp (disch:=omega) [go_sem,Q3]
        refine⟨k+1,by omega,by omega,?_⟩
        rw[hsucc]
        simp[go_sem,hfo,Mesh.cs,vsV,tsV,Sg4.cs]
      ·simp[go_sem,apS,hlt,Mesh.cs,vsV,tsV,he]
       refine Q5 (hk m k) ?_
       rw[hcor]
       simp[go_sem,V3.enc,vcs]
       simp only[vcs,List.cons_append,List.nil_append]at hcut
       refine Q5 hcut ?_
       cases hfo:(Y5 m z t).found
       ·simp[go_sem,Sg4.cs]
        simp (disch:=omega) [go_sem,Q3]
        refine⟨k+1,by omega,by omega,?_⟩
        rw[hsucc]
        simp[go_sem,hfo,Mesh.cs,vsV,tsV,he]
        exact hcl
       ·simp[go_sem,Sg4.cs]
        simp (disch:=omega) [go_sem,Q3]
        refine⟨⟨by omega,by omega⟩,k+1,by omega,by omega,?_⟩
        rw[hsucc]
        simp[go_sem,hfo,Mesh.cs,vsV,tsV,he,Sg4.cs]
        rintro el (he | rfl) x hx
        ·exact hcl el he x hx
        ·simp at hx;rcases hx with rfl | rfl | rfl | rfl<;>rfl
 ·have hres:Zb m z=([],m.check):=by simp only[Zb,hz,if_false]
  rw[hres]
  simp[go_sem,hz,L15.r,secV,apV]
end
def Ud:List P2->List Eg
 | a::b::l=>(a,b)::Ud (b::l)
 | _=>[]
def Z1:List P2->List Eg
 | []=>[]
 | a::l=>Ud (a::l++[a])
theorem Q2e:∀(l:List P2) (a b:P2),Ud (l++[a]++[b])=Ud (l++[a])++[(a,b)]
 | [],a,b=>rfl
 | [c],a,b=>rfl
 | c::d::l,a,b=>by
   have:=Q2e (d::l) a b
   simp only[List.cons_append,Ud]at this ⊢
   rw[this]
theorem Q4q:∀l:List P2,(Ud l).length=l.length-1
 | []=>rfl
 | [a]=>rfl
 | a::b::l=>by
   have:=Q4q (b::l)
   simp only[Ud,List.length_cons]at this ⊢
   omega
theorem Q4r:∀(l:List P2) (i:Nat) (h:i+1<l.length),(Ud l)[i]?=some (l[i],l[i+1])
 | [],i,h=>by simp at h
 | [a],i,h=>by simp at h
 | a::b::l,0,h=>rfl
 | a::b::l,i+1,h=>by
   have:=Q4r (b::l) i (by simpa using h)
   simpa[Ud]using this
theorem Jy (l:List P2):(Z1 l).length=l.length:=by
 cases l with
 | nil=>rfl
 | cons a l=>unfold Z1;rw[Q4q];simp
theorem Q4o {l:List P2} {i:Nat} (h:i<l.length):(Z1 l)[i]?=some (l[i],l[(i+1) % l.length]'(Nat.mod_lt _ (by omega))):=by
 cases l with
 | nil=>simp at h
 | cons a l =>
   unfold Z1
   rw[Q4r (a::l++[a]) i (by simpa using h)]
   congr 2
   ·rw[List.getElem_append_left h]
   ·by_cases hi:i+1<(a::l).length
    ·rw[List.getElem_append_left hi]
     congr 1
     exact(Nat.mod_eq_of_lt hi).symm
    ·have he:i+1=(a::l).length:=by omega
     have h0:(i+1) % (a::l).length=0:=by rw[he,Nat.mod_self]
     simp only[h0,he]
     simp
def Uc (l:List P2) (k:Nat):List Eg:=(Z1 l).take k
theorem Qbf {l:List P2} {k:Nat} (h:k<l.length):Uc l (k+1)=Uc l k++[(l[k],l[(k+1) % l.length]'(Nat.mod_lt _ (by omega)))]:=by
 unfold Uc
 rw[List.take_add_one,Q4o h];rfl
theorem Qfp (l:List P2):Uc l l.length=Z1 l:=by
 unfold Uc
 rw[<- Jy l,qi]
theorem Qfq (l:List P2):(Z1 l).map Prod.fst=l:=by
 apply qx
 intro i
 rw[qp]
 by_cases h:i<l.length
 ·rw[Q4o h,q9 h];rfl
 ·rw[qk (by rw[Jy];omega),qk (by omega)];rfl
structure Trail (f c:P2) (vs:List P2) (R E:List Eg):Prop where
 pm:(Ud (vs++[c])++R).Perm E
 hd:(vs++[c]).head? = some f
 bal:∀p:P2,R.countP (λe=>decide (e.1=p))+(if p=f then 1 else 0)=R.countP (λe=>decide (e.2=p))+(if p=c then 1 else 0)
theorem Trail.start {R:List Eg} (h:BalE R) (f:P2):Trail f f [] R R:=⟨List.Perm.refl _,rfl,λp=>by rw[h p]⟩
theorem Trail.step {f c b:P2} {vs:List P2} {R R' E:List Eg} (h:Trail f c vs R E) (hp:R.Perm ((c,b)::R')):Trail f b (vs++[c]) R' E where
 pm:=by
  rw[Q2e]
  refine List.Perm.trans ?_ h.pm
  rw[qz]
  exact List.Perm.append_left _ hp.symm
 hd:=by
  have:=h.hd
  cases vs<;>simpa using this
 bal p:=by
  have:=h.bal p
  rw[hp.countP_eq,hp.countP_eq,List.countP_cons,List.countP_cons]at this
  simp only[decide_eq_true_eq]at this
  by_cases h1:c=p<;>by_cases h2:b=p
  ·subst h1;subst h2;simp only[if_true]at this ⊢;omega
  ·subst h1
   simp only[if_true,if_neg h2,if_neg (show ¬ c=b from λhh=>h2 hh.symm)]at this ⊢;omega
  ·subst h2
   simp only[if_true,if_neg h1,if_neg (show ¬ b=c from λhh=>h1 hh.symm)]at this ⊢;omega
  ·simp only[if_neg h1,if_neg h2,if_neg (show ¬ p=b from λhh=>h2 hh.symm),if_neg (show ¬ p=c from λhh=>h1 hh.symm)]at this ⊢;omega
theorem Trail.more {f c:P2} {vs:List P2} {R E:List Eg} (h:Trail f c vs R E) (hc:c≠f):∃e∈R,e.1=c:=by
 have:=h.bal c
 rw[if_neg hc,if_pos rfl]at this
 have hp:0<R.countP λe=>decide (e.1=c):=by omega
 obtain⟨e,he,h2⟩:=List.countP_pos_iff.1 hp
 exact⟨e,he,by simpa using h2⟩
theorem Trail.close {f:P2} {vs:List P2} {R E:List Eg} (h:Trail f f vs R E) (hn:vs≠[]):BalE R/\(Z1 vs++R).Perm E:=by
 refine⟨λp=>by have:=h.bal p;omega,?_⟩
 have h1:=h.pm
 cases vs with
 | nil=>exact absurd rfl hn
 | cons a l =>
   have:=h.hd
   simp at this
   subst this
   exact h1
def Sg4.eg (s:Sg4):Eg:=(⟨s.a.1,s.a.2⟩,⟨s.b.1,s.b.2⟩)
def egs (l:List Sg4):List Eg:=l.map Sg4.eg
def neE (es:List Eg):List Eg:=es.filter λe=>decide (e.1≠e.2)
theorem neE_bal {es:List Eg} (h:BalE es):BalE (neE es):=by
 intro p
 have h1:∀(l:List Eg),l.countP (λe=>decide (e.1=p))=(neE l).countP (λe=>decide (e.1=p))+l.countP (λe=>decide (e.1=p/\e.2=p))/\l.countP (λe=>decide (e.2=p))=(neE l).countP (λe=>decide (e.2=p))+l.countP (λe=>decide (e.1=p/\e.2=p)):=by
  intro l
  induction l with
  | nil=>exact⟨rfl,rfl⟩
  | cons e l ih =>
    obtain⟨i1,i2⟩:=ih
    unfold neE at *
    simp only[ne_eq]at i1 i2 ⊢
    rw[List.filter_cons]
    obtain⟨u,v⟩:=e
    by_cases hne:u=v
    ·subst hne
     simp only[List.countP_cons,ne_eq,not_true_eq_false,decide_false,Bool.false_eq_true,if_false,decide_eq_true_eq,and_self]
     omega
    ·rw[if_pos (by simpa using hne)]
     simp only[List.countP_cons,decide_eq_true_eq]
     by_cases hu:u=p
     ·have hv:¬ v=p:=λhv=>hne (hu.trans hv.symm)
      simp only[if_pos hu,if_neg hv,if_neg (λhh:u=p/\v=p=>hv hh.2)]
      exact⟨by omega,by omega⟩
     ·simp only[if_neg hu,if_neg (λhh:u=p/\v=p=>hu hh.1)]
      exact⟨by omega,by omega⟩
 have:=h p
 obtain⟨a,b⟩:=h1 es
 omega
def Qo (ps:List (List P2)):V:=.l 1 (ps.map λp=>[psV p])
end Go.Abs
