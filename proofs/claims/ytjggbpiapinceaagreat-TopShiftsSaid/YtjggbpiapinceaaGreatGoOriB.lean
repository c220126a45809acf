/- Part of the library on which the proof stands: an abstract machine, its values and its soundness against the model; or what functions of the program do to such values. -/
import Derived.Test.YtjggbpiapinceaaGreatGoRsA
import Derived.Test.YtjggbpiapinceaaGreatGoCh
import Derived.Test.YtjggbpiapinceaaGreatGoRevC
import Derived.Test.YtjggbpiapinceaaGreatGoShpD
set_option linter.unusedVariables false
set_option linter.unusedSimpArgs false
set_option maxHeartbeats 4000000
namespace Go.Abs
def E5.cs (e:E5):List V:=[.i .i64 e.lo.x,.i .i64 e.lo.y,.i .i64 e.hi.x,.i .i64 e.hi.y,.i .i64 e.sg]
def E5.ints (e:E5):List Int:=[e.lo.x,e.lo.y,e.hi.x,e.hi.y,e.sg]
def e5V (l:List E5):V:=.l 5 (l.map E5.cs)
structure E5B (e:E5):Prop where
 a1:-65536<=e.lo.x
 a2:e.lo.x<=65536
 b1:-65536<=e.lo.y
 b2:e.lo.y<=65536
 c1:-65536<=e.hi.x
 c2:e.hi.x<=65536
 d1:-65536<=e.hi.y
 d2:e.hi.y<=65536
 up:e.lo.y<e.hi.y
 s1:-1<=e.sg
 s2:e.sg<=1
structure PitchOk (k:Int):Prop where
 lo:32<=k
 hi:k<=1024
 ev:k % 2=0
theorem Qbz {es:List Eg} (h:EgB es 65536) {e:E5} (he:e∈es.filterMap E1):E5B e:=by
 obtain⟨s,hs,h1⟩:=List.mem_filterMap.1 he
 obtain⟨a,b,c,d⟩:=h s hs
 unfold E1 at h1
 split at h1
 ·obtain rfl:=Option.some.inj h1
  constructor<;>simp only[]<;>omega
 ·split at h1
  ·obtain rfl:=Option.some.inj h1
   constructor<;>simp only[]<;>omega
  ·simp at h1
def Q7x (P:Program) (f:FuncId):Prop:=∀(e:E5) (cy k:Int),E5B e->PitchOk k->e.lo.y<=cy->cy<e.hi.y->CallIs P f [.a e.cs,.i .i64 cy,.i .i64 k] (.a [.i .i64 (Q4c k cy e),.i .i64 e.sg])
def CenC (P:Program) (f:FuncId):Prop:=∀y k:Int,-10000<=y->y<=10000->PitchOk k->CallIs P f [.i .i64 y,.i .i64 k] (.i .i64 (y*k+k / 2))
theorem quoK {k:Int} (h:PitchOk k):k.tdiv 2=k / 2:=by
 rw[Int.tdiv_eq_ediv_of_nonneg];have:=h.lo;omega
theorem Qlv {e:E5} {cy k:Int} (h:E5B e) (hk:PitchOk k) (h1:e.lo.y<=cy) (h2:cy<e.hi.y) :
  (-17179869184<=e.lo.x*(e.hi.y-e.lo.y)/\e.lo.x*(e.hi.y-e.lo.y)<=17179869184)/\(-17179869184<=(e.hi.x-e.lo.x)*(cy-e.lo.y)/\(e.hi.x-e.lo.x)*(cy-e.lo.y)<=17179869184) /\
  (0<=k / 2*(e.hi.y-e.lo.y)/\k / 2*(e.hi.y-e.lo.y)<=134217728)/\(0<k*(e.hi.y-e.lo.y)/\k*(e.hi.y-e.lo.y)<=134217728):=by
 obtain⟨a1,a2,b1,b2,c1,c2,d1,d2,up,_,_⟩:=h
 obtain⟨k1,k2,_⟩:=hk
 have m1:=Wa (a:=e.lo.x) (b:=e.hi.y-e.lo.y) (k:=65536) (m:=131072) (by omega) (by omega)
 have m2:=Wa (a:=e.hi.x-e.lo.x) (b:=cy-e.lo.y) (k:=131072) (m:=131072) (by omega) (by omega)
 have m3:=Wa (a:=k / 2) (b:=e.hi.y-e.lo.y) (k:=512) (m:=131072) (by omega) (by omega)
 have m4:=Wa (a:=k) (b:=e.hi.y-e.lo.y) (k:=1024) (m:=131072) (by omega) (by omega)
 have p3:0<=k / 2*(e.hi.y-e.lo.y):=Int.mul_nonneg (by omega) (by omega)
 have p4:0<k*(e.hi.y-e.lo.y):=Int.mul_pos (by omega) (by omega)
 refine⟨⟨?_,?_⟩,⟨?_,?_⟩,⟨p3,?_⟩,p4,?_⟩<;>omega
theorem Qmj {e:E5} {cy k:Int} (h:E5B e) (hk:PitchOk k) (h1:e.lo.y<=cy) (h2:cy<e.hi.y):-100000000000<=Q4c k cy e/\Q4c k cy e<=100000000000:=by
 obtain⟨m1,m2,m3,m4⟩:=Qlv h hk h1 h2
 unfold Q4c Qgw
 generalize e.lo.x*(e.hi.y-e.lo.y)=A at *
 generalize (e.hi.x-e.lo.x)*(cy-e.lo.y)=B at *
 generalize k / 2*(e.hi.y-e.lo.y)=C at *
 generalize k*(e.hi.y-e.lo.y)=D at *
 have h3:(-(A+B-C)) / D<=90000000000:=by
  by_cases hn:0<=-(A+B-C)
  ·exact Int.le_trans (Int.ediv_le_self _ hn) (by omega)
  ·have:(-(A+B-C)) / D<0:=Int.ediv_neg_of_neg_of_pos (by omega) m4.1
   omega
 have h4:-90000000000<=(-(A+B-C)) / D:=by
  rw[Int.le_ediv_iff_mul_le m4.1]
  have:-90000000000*D<=-90000000000*1:=Int.mul_le_mul_of_nonpos_left (by omega) (by omega)
  omega
 omega
section
variable {P:Program} (hm:P.follows .mixedOrders=true)
include hm
theorem B9 {f:FuncId} (hf:Qa P f L0m.c L0m.r L0m.n):CenC P f:=by
 intro y k h1 h2 hk
 obtain⟨k1,k2,k3⟩:=hk
 refine PureC.is (Q8 hm hf (qh rfl) ?_) rfl
 unfold L0m.c
 have m1:=Wa (a:=y) (b:=k) (k:=10000) (m:=1024) (by omega) (by omega)
 have hq:=quoK ⟨k1,k2,k3⟩
 generalize hA:y*k=A at *
 have w1:IntKind.i64.wrap A=A:=Q3 (by omega) (by omega)
 have w2:IntKind.i64.wrap (k / 2)=k / 2:=Q3 (by omega) (by omega)
 have w3:IntKind.i64.wrap (A+k / 2)=A+k / 2:=Q3 (by omega) (by omega)
 simp[go_sem,hq,hA,w1,w2,w3,L0m.r]
theorem Q0s {f fl:FuncId} (hf:Qa P f (L0o.c fl) L0o.r L0o.n) (hl:Q7t P fl):Q7x P f:=by
 intro e cy k he hk h1 h2
 obtain⟨m1,m2,m3,m4⟩:=Qlv he hk h1 h2
 have hb:=Qmj he hk h1 h2
 have hq:=quoK hk
 obtain⟨a1,a2,b1,b2,c1,c2,d1,d2,up,_,_⟩:=he
 obtain⟨k1,k2,k3⟩:=hk
 refine PureC.is (Q8 hm hf (qh rfl) ?_) rfl
 unfold L0o.c
 have w1:IntKind.i64.wrap (e.hi.y-e.lo.y)=e.hi.y-e.lo.y:=Q3 (by omega) (by omega)
 have w2:IntKind.i64.wrap (e.hi.x-e.lo.x)=e.hi.x-e.lo.x:=Q3 (by omega) (by omega)
 have w3:IntKind.i64.wrap (cy-e.lo.y)=cy-e.lo.y:=Q3 (by omega) (by omega)
 have w4:IntKind.i64.wrap (k / 2)=k / 2:=Q3 (by omega) (by omega)
 unfold Q4c Qgw at hb ⊢
 generalize hA:e.lo.x*(e.hi.y-e.lo.y)=A at *
 generalize hB:(e.hi.x-e.lo.x)*(cy-e.lo.y)=B at *
 generalize hC:k / 2*(e.hi.y-e.lo.y)=C at *
 generalize hD:k*(e.hi.y-e.lo.y)=D at *
 have x1:IntKind.i64.wrap A=A:=Q3 (by omega) (by omega)
 have x2:IntKind.i64.wrap B=B:=Q3 (by omega) (by omega)
 have x3:IntKind.i64.wrap C=C:=Q3 (by omega) (by omega)
 have x4:IntKind.i64.wrap D=D:=Q3 (by omega) (by omega)
 have x5:IntKind.i64.wrap (A+B)=A+B:=Q3 (by omega) (by omega)
 have x6:IntKind.i64.wrap (A+B-C)=A+B-C:=Q3 (by omega) (by omega)
 have x7:IntKind.i64.wrap (-(A+B-C))=-(A+B-C):=Q3 (by omega) (by omega)
 have hl1:=hl (-(A+B-C)) D (by omega) (by omega) (by omega) (by omega)
 generalize (-(A+B-C)) / D=Q at *
 have x8:IntKind.i64.wrap (-Q)=-Q:=Q3 (by omega) (by omega)
 generalize hS:A+B-C=S at *
 simp[go_sem,E5.cs,w1,w2,w3,w4,hq,hA,hB,hC,hD,x1,x2,x3,x4,x5,x6,hS,x7]
 refine Q5 hl1 ?_
 simp[go_sem,x8,L0o.r]
 done
end
def Y1 (l:List Sg4):V:=.l 4 (l.map Sg4.cs)
theorem rnd_in {n d k:Int} (hd:0<d) (h1:0<=n) (h2:n<=k*d):0<=rnd n d/\rnd n d<=k:=by
 unfold rnd
 refine⟨Int.ediv_nonneg (by omega) (by omega),?_⟩
 have h4:k*(2*d)=2*(k*d):=by rw[Int.mul_left_comm]
 have h3:(2*n+d) / (2*d)<k+1:=Int.ediv_lt_of_lt_mul (by omega) (by rw[Int.add_mul];omega)
 omega
theorem rnd_in' {n d k:Int} (hd:0<d) (h1:n<=0) (h2:-(k*d)<=n):-k<=rnd n d/\rnd n d<=0:=by
 unfold rnd
 constructor
 ·refine Int.le_ediv_of_mul_le (by omega) ?_
  have:-k*(2*d)=-(2*(k*d)):=by rw[Int.neg_mul,Int.mul_left_comm]
  omega
 ·have h3:(2*n+d) / (2*d)<1:=Int.ediv_lt_of_lt_mul (by omega) (by omega)
  omega
theorem Q77 {c0 c1 z0 z1 z:Int} (h1:z0<=z) (h2:z<z1):min c0 c1<=E9 c0 c1 z0 z1 z/\E9 c0 c1 z0 z1 z<=max c0 c1:=by
 unfold E9
 by_cases h:c0<=c1
 ·have h3:=rnd_in (n:=(c1-c0)*(2*z+1-2*z0)) (d:=2*(z1-z0)) (k:=c1-c0) (by omega) (Int.mul_nonneg (by omega) (by omega)) (jg (by omega) (by omega))
  omega
 ·have h4:(c1-c0)*(2*z+1-2*z0)=-((c0-c1)*(2*z+1-2*z0)):=by rw[<- Int.neg_mul];congr 1;omega
  have h5:0<=(c0-c1)*(2*z+1-2*z0):=Int.mul_nonneg (by omega) (by omega)
  have h6:(c0-c1)*(2*z+1-2*z0)<=(c0-c1)*(2*(z1-z0)):=jg (by omega) (by omega)
  have h3:=rnd_in' (n:=(c1-c0)*(2*z+1-2*z0)) (d:=2*(z1-z0)) (k:=c0-c1) (by omega) (by omega) (by omega)
  omega
def Qeh (l:List Sg4):Prop:=l.length<=4096/\EgB (egs l) 65536
def PtB (p:Int × Int):Prop:=(-65536<=p.1/\p.1<=65536)/\-65536<=p.2/\p.2<=65536
theorem V3.val_iff {v:V3}:v.valid=true↔(-65536<=v.x/\v.x<=65536)/\(-65536<=v.y/\v.y<=65536)/\-65536<=v.z/\v.z<=65536:=by
 unfold V3.valid V3.within
 simp[and_assoc]
theorem Ey {a b:V3} {z:Int} {p:Int × Int} (h:point a b z=some p):PtB p:=by
 unfold point at h
 split at h
 ·rename_i hh
  obtain⟨ha,hb,h1,h2⟩:=hh
  obtain rfl:=Option.some.inj h
  have a1:=V3.val_iff.1 ha
  have b1:=V3.val_iff.1 hb
  have x:=Q77 (c0:=a.x) (c1:=b.x) h1 h2
  have y:=Q77 (c0:=a.y) (c1:=b.y) h1 h2
  unfold PtB
  simp only[]
  omega
 ·simp at h
theorem Q5r {z:Int} {s:Sg4} {u v:V3} (ha:PtB s.a) (hb:PtB s.b):PtB (s.step z u v).a/\PtB (s.step z u v).b:=by
 unfold Sg4.step
 cases h1:point u v z<;>cases h2:point v u z<;>simp only[]
 ·exact⟨ha,hb⟩
 ·exact⟨Ey h2,hb⟩
 ·exact⟨ha,Ey h1⟩
 ·exact⟨Ey h2,Ey h1⟩
theorem cut3_bd (z:Int) (a b c:V3):PtB (U8 z a b c).a/\PtB (U8 z a b c).b:=by
 have h0:PtB Sg4.init.a/\PtB Sg4.init.b:=by unfold PtB Sg4.init;simp
 have h1:=Q5r (z:=z) (u:=a) (v:=b) h0.1 h0.2
 have h2:=Q5r (z:=z) (u:=b) (v:=c) h1.1 h1.2
 exact Q5r (z:=z) (u:=c) (v:=a) h2.1 h2.2
theorem Qdo (m:Mesh) (z:Int) (ts:List T3):EgB (egs (Qw m z ts)) 65536:=by
 intro e he
 obtain⟨s,hs,rfl⟩:=qo.1 he
 obtain⟨h1,_⟩:=qu.1 hs
 obtain⟨t,_,rfl⟩:=qo.1 h1
 obtain⟨h2,h3⟩:=cut3_bd z (m.v t.a) (m.v t.b) (m.v t.c)
 exact⟨h2.1,h2.2,h3.1,h3.2⟩
theorem sec_ok (m:Mesh) (z:Int):Qeh (Zb m z).1:=by
 unfold Zb
 split
 ·rename_i hz
  split
  ·exact⟨by simp,by intro e he;simp[egs]at he⟩
  ·refine⟨?_,Qdo _ _ _⟩
   have h1:=(Mesh.check_zero.1 hz).2.1
   have h2:(Qw m z m.tris).length<=m.tris.length:=by
    unfold Qw
    exact Nat.le_trans (j8 _ _) (by simp)
   exact Nat.le_trans h2 h1
 ·exact⟨by simp,by intro e he;simp[egs]at he⟩
def Zz (n lo hi:Int):Bool:=decide (lo<=n) && decide (n<=hi) && decide (n % 2=0)
noncomputable def Zd (m:Mesh) (z k:Int):List Rw × Int :=
 open Classical in
 if Zz k 32 1024=false then ([],1) else if (Zb m z).2≠0 then ([],(Zb m z).2) else if BalE (egs (Zb m z).1) then (Jz (egs (Zb m z).1) k,0) else ([],12)
theorem Q8n (m:Mesh) (z k:Int):RgV (Zd m z k).1/\RgB (Zd m z k).1:=by
 unfold Zd
 split
 ·exact⟨RgV.nil,RgB.nil⟩
 ·split
  ·exact⟨RgV.nil,RgB.nil⟩
  ·split
   ·exact⟨Q3c _,Qmc _⟩
   ·exact⟨RgV.nil,RgB.nil⟩
def L0h.c (L0c L0i:FuncId):C :=(.seq (.reg [Au 1 (.box (.t 0)),Ab 2 false]) (.seq (.reg [Ag 3 2 1,Au 4 (.call L0c [.t 3]),Ak .eql 5 4 0,Am 6 5,Av 7 6 (.fa 1 (.t 1)),Av 8 6 (.ld none (.t 7)),Av 9 6 (.call L0i [.t 8]),Ap 10 6 9,Am 2 10]) .ret))
def L0h.r:List Rr:=[.tmp 2]
abbrev L0h.n:Nat:=11
def L0i.c (L0j:FuncId):C :=(.seq (.reg [Ab 2 false]) (.seq (.reg [Au 8 (.mkm none),Am 3 8]) (.seq (.seq (.reg [Am 9 0,An 10 0 9,Ac 11 0]) (.blk 0 (.loop (.seq (.reg [Aj .lss 12 11 10]) (.seq (.ite (.t 12) .skip (.exit 0)) (.seq (.blk 1 (.seq (.reg [Ai 13 3 9 11,Ag 14 3 13,Au 5 (.alloc [(.i .i64 0),(.i .i64 0),(.i .i64 0)]),As 3 5 14]) (.seq (.reg [Ag 15 3 5,Au 16 (.call L0j [.t 15]),An 17 0 16,Ac 18 0]) (.blk 2 (.loop (.seq (.reg [Aj .lss 19 18 17]) (.seq (.ite (.t 19) .skip (.exit 2)) (.seq (.blk 3 (.seq (.reg [Ai 20 2 16 18,Ag 21 2 20,Au 7 (.alloc [(.i .i64 0),(.i .i64 0)]),As 2 7 21]) (.seq
 (.reg [Am 22 3,Ag 23 2 7,⟨none,none,.eqa [1,1] false (.t 23) (.t 23)⟩,Au 24 (.lk [1,1] (.i .i64 0) false (.t 22) (.t 23)),Ad 25 24 1,Au 26 (.ment [1,1] (.i .i64 0) (.t 22) (.t 23)),Ax1 27 1 26,⟨none,none,.est (.t 22) (.t 27) (.t 25)⟩]) (.seq (.reg [Am 28 3,Ag 29 2 7,Au 30 (.lk [1,1] (.i .i64 0) false (.t 28) (.t 29)),Ak .gtr 31 30 1]) (.ite (.t 31) (.seq (.reg [Ab 2 false]) .ret) .skip))))) (.reg [Ad 32 18 1,Am 18 32]))))))))) (.reg [Ad 33 11 1,Am 11 33]))))))) (.seq (.reg [Ab 2 true]) .ret))))
def L0i.r:List Rr:=[.tmp 2]
abbrev L0i.n:Nat:=34
def L0j.c:C :=(.seq (.reg [Au 1 (.box (.t 0)),Az 2]) (.seq (.reg [Az 3]) (.seq (.seq (.reg [Af 6 0 1,Al 7 6,Af 8 1 1,Al 9 8,Au 10 (.build [(.i .i64 0),(.i .i64 0)] [(0,1,(.t 7)),(1,1,(.t 9))]),Af 11 1 1,Al 12 11,Af 13 2 1,Al 14 13,Au 15 (.build [(.i .i64 0),(.i .i64 0)] [(0,1,(.t 12)),(1,1,(.t 14))]),Af 16 2 1,Al 17 16,Af 18 0 1,Al 19 18,Au 20 (.build [(.i .i64 0),(.i .i64 0)] [(0,1,(.t 17)),(1,1,(.t 19))]),Au 21 (.build [(.i .i64 0),(.i .i64 0),(.i .i64 0),(.i .i64 0),(.i .i64 0),(.i .i64 0)] [(0,2,(.t 10)),(2,2,(.t 15)),(4,2,(.t 20))]),Ac 22 0]) (.blk 0 (.loop (.seq (.reg [Ak .lss 23 22 3]) (.seq
 (.ite (.t 23) .skip (.exit 0)) (.seq (.blk 1 (.seq (.reg [Au 24 (.ix 3 2 (some 2) (.t 21) (.t 22)),Au 5 (.alloc [(.i .i64 0),(.i .i64 0)]),As 2 5 24]) (.seq (.reg [Af 25 0 5,Al 26 25,Af 27 1 5,Al 28 27,Aj .neq 29 26 28]) (.ite (.t 29) (.reg [Am 30 3,Ag 31 2 5,Au 32 (.bsi 2 1 [(.i .i64 0),(.i .i64 0)] [(0,(.t 31))]),Au 33 (.app 2 16 (.t 30) (.t 32)),Am 3 33]) .skip)))) (.reg [Ad 34 22 1,Am 22 34]))))))) (.seq (.reg [Am 35 3,Am 2 35]) .ret))))
def L0j.r:List Rr:=[.tmp 2]
abbrev L0j.n:Nat:=36
theorem Qgx (h:List O) (id:Nat):Zc h (.mp id)=match h[id]? with | some (.mp es)=>some es | some (.md es)=>some es | _=>none:=Rfl rfl
attribute [go_sem] Qgx V.isT
def asE (p:P2 × Int):V × V:=(p.1.enc,.i .i64 p.2)
def fnd (e:P2):List (P2 × Int)->Option (Nat × Int)
 | []=>none
 | (k,n)::r=>if e=k then some (0,n) else (fnd e r).map λp=>(p.1+1,p.2)
theorem veq2 (a b:P2):Z7 [1,1] a.enc.cells b.enc.cells=some (decide (a=b)):=by
 cases a;cases b
 simp[Z7,P2.enc,P2.cs,V.cells,Q24,P2.mk.injEq]
 rw[Bool.eq_iff_iff];simp
theorem Q9x (e:P2):∀L:List (P2 × Int),Qk [1,1] e.enc (L.map asE)=some ((fnd e L).map λp=>(p.1,.i .i64 p.2))
 | []=>rfl
 | (k,n)::r=>by
   simp only[List.map_cons,asE,Qk,fnd]
   rw[if_pos (by rfl),veq2]
   by_cases h:e=k
   ·simp[h]
   ·simp only[h,decide_false,if_false]
    have:=Q9x e r
    rw[this]
    cases fnd e r<;>rfl
theorem Q36 {e:P2}:∀{L:List (P2 × Int)},fnd e L=none↔∀p∈L,p.1≠e
 | []=>by simp[fnd]
 | (k,n)::r=>by
   simp only[fnd]
   by_cases h:e=k
   ·simp[h]
   ·have h':¬ k=e:=λhh=>h hh.symm
    rw[if_neg h,Option.map_eq_none_iff,Q36 (L:=r)]
    simp[h']
theorem Q6s {e:P2} {n:Int}:∀{L:List (P2 × Int)},fnd e L=none->fnd e (L++[(e,n)])=some (L.length,n)
 | [],_=>by simp[fnd]
 | (k,m)::r,h=>by
   simp only[fnd]at h
   by_cases hk:e=k
   ·simp[hk]at h
   ·simp only[hk,if_false,Option.map_eq_none_iff]at h
    simp[fnd,hk,Q6s h]
theorem Kh {e:P2} {i:Nat} {n n':Int}:∀{L:List (P2 × Int)},fnd e L=some (i,n)->L[i]?=some (e,n)/\fnd e (L.set i (e,n'))=some (i,n')
 | [],h=>by simp[fnd]at h
 | (k,m)::r,h=>by
   simp only[fnd]at h
   by_cases hk:e=k
   ·simp[hk]at h;obtain⟨rfl,rfl⟩:=h;simp[fnd,hk]
   ·simp only[hk,if_false,qa,Prod.mk.injEq]at h
    obtain⟨⟨j,n1⟩,hj,rfl,rfl⟩:=h
    have:=Kh (n':=n') hj
    simp[fnd,hk,this.1,this.2]
def Jq (t:T3):List P2:=[⟨t.a,t.b⟩,⟨t.b,t.c⟩,⟨t.c,t.a⟩]
def Zm (t:T3) (k:Nat):List P2:=((Jq t).take k).filter λe=>decide (e.x≠e.y)
def Q7 (t:T3):List P2:=Zm t 3
def Ei (P:Program) (f:FuncId):Prop:=∀t:T3,CallIs P f [t.enc] (psV (Q7 t))
theorem Qjk (p:P2):(∀y∈p.cs,y.isD=true)=True:=by simp[P2.cs,V.isD]
theorem Ez (t:P2) (n:Nat):(∀y∈t.cs,y.cl n=true)=True:=by simp[P2.cs,V.cl,V.cl1,V.cl0]
theorem Qlz (t:T3):Zm t 0=[]:=rfl
theorem Qlu (x y:Int) (l:List P2):(l++[(⟨x,y⟩:P2)]).filter (λe=>decide (e.x≠e.y))=if x=y then l.filter (λe=>decide (e.x≠e.y)) else l.filter (λe=>decide (e.x≠e.y))++[⟨x,y⟩]:=by
 rw[List.filter_append]
 by_cases h:x=y<;>simp[h]
theorem Qly (t:T3):Zm t 1=if t.a=t.b then Zm t 0 else Zm t 0++[⟨t.a,t.b⟩]:=Qlu t.a t.b []
theorem Qlx (t:T3):Zm t 2=if t.b=t.c then Zm t 1 else Zm t 1++[⟨t.b,t.c⟩]:=Qlu t.b t.c [⟨t.a,t.b⟩]
theorem Qlw (t:T3):Zm t 3=if t.c=t.a then Zm t 2 else Zm t 2++[⟨t.c,t.a⟩]:=Qlu t.c t.a [⟨t.a,t.b⟩,⟨t.b,t.c⟩]
theorem X6 (t:T3) (k:Nat):(Zm t k).length<=3:=by
 refine Nat.le_trans (j8 _ _) ?_
 simp[Jq];omega
section
variable {P:Program} (hm:P.follows .mixedOrders=true)
include hm
theorem Kr {f:FuncId} (hf:Qa P f L0j.c L0j.r L0j.n):Ei P f:=by
 intro t
 refine PureC.is (Q8 hm hf (qh rfl) ?_) rfl
 unfold L0j.c
 simp[go_sem,T3.enc,T3.cs]
 have w1:IntKind.i64.wrap 1=1:=rfl
 have w2:IntKind.i64.wrap 2=2:=rfl
 have w3:IntKind.i64.wrap 3=3:=rfl
 refine Zg [.t 3 2] (α:=Nat) (λk=>k<=3)
  (λk=>⟨[(3,.own 1 ((Zm t k).length+1) 0 (Zm t k).length),(21,.a [.i .i64 t.a,.i .i64 t.b,.i .i64 t.b,.i .i64 t.c,.i .i64 t.c,.i .i64 t.a]),(22,.i .i64 k)],
   [.dead,.arr ((Zm t k).length+1) 2 ((Zm t k).map P2.cs)]⟩)
  (λk=>3-k) 0 (by omega) ?_ ?_
 ·simp[go_sem,Qlz]
 ·intro k hk
  have hl:=X6 t k
  by_cases h3:k=3
  ·subst h3
   simp[go_sem,L0j.r,psV,Q7,Qjk]
  ·have:k=0∨k=1∨k=2:=by omega
   rcases this with rfl | rfl | rfl
   ·have hs:=Qly t
    generalize hE:Zm t 0=E0 at hs hl
    by_cases h:t.a=t.b
    ·rw[if_pos h]at hs
     simp[go_sem,h,w1,w2,w3]
     exact⟨1,by omega,by omega,by simp[hs],by simp[hs],by simp[Ez]⟩
    ·rw[if_neg h]at hs
     simp[go_sem,h,w1,w2,w3]
     exact⟨by omega,1,by omega,by omega,by simp[hs],by simp[hs,pcs,or_imp,forall_and,V.cl,V.cl1,V.cl0]⟩
   ·have hs:=Qlx t
    generalize hE:Zm t 1=E0 at hs hl
    by_cases h:t.b=t.c
    ·rw[if_pos h]at hs
     simp[go_sem,h,w1,w2,w3]
     exact⟨2,by omega,by omega,by simp[hs],by simp[hs],by simp[Ez]⟩
    ·rw[if_neg h]at hs
     simp[go_sem,h,w1,w2,w3]
     exact⟨by omega,2,by omega,by omega,by simp[hs],by simp[hs,pcs,or_imp,forall_and,V.cl,V.cl1,V.cl0]⟩
   ·have hs:=Qlw t
    generalize hE:Zm t 2=E0 at hs hl
    by_cases h:t.c=t.a
    ·rw[if_pos h]at hs
     simp[go_sem,h,w1,w2,w3]
     exact⟨3,by omega,by omega,by simp[hs],by simp[hs],by simp[Ez]⟩
    ·rw[if_neg h]at hs
     simp[go_sem,h,w1,w2,w3]
     exact⟨by omega,3,by omega,by omega,by simp[hs],by simp[hs,pcs,or_imp,forall_and,V.cl,V.cl1,V.cl0]⟩
end
def Qb (l:List T3):List P2:=l.flatMap Q7
def Q01 (l:List T3):Bool:=decide (Qb l).Nodup
def CohC (P:Program) (f:FuncId):Prop:=∀l:List T3,l.length<=1000000->CallIs P f [tsV l] (.b (Q01 l))
def asV (p:P2 × Int):V × V:=(.a [.i .i64 p.1.x,.i .i64 p.1.y],.i .i64 p.2)
theorem J4 (e:P2) (L:List (P2 × Int)):Qk [1,1] (.a [.i .i64 e.x,.i .i64 e.y]) (L.map asV)=some ((fnd e L).map λp=>(p.1,.i .i64 p.2)):=Q9x e L
def X1 (S:List P2):List (P2 × Int):=S.map λe=>(e,1)
theorem Uf {e:P2} {S:List P2} (h:e∉S):fnd e (X1 S)=none:=by
 rw[Q36]
 intro p hp
 simp only[X1,qo]at hp
 obtain⟨a,ha,rfl⟩:=hp
 rintro rfl
 exact h ha
theorem Ue {e:P2}:∀{S:List P2},e∈S->∃i,fnd e (X1 S)=some (i,1)
 | [],h=>by simp at h
 | a::S,h=>by
   by_cases ha:e=a
   ·exact⟨0,by simp[X1,fnd,ha]⟩
   ·have:e∈S:=by simpa[ha]using h
    obtain⟨i,hi⟩:=Ue this
    exact⟨i+1,by simp only[X1,List.map_cons,fnd,if_neg ha];rw[show S.map (λe=>(e,(1:Int)))=X1 S from rfl,hi];rfl⟩
theorem Qjm (S:List P2) (e:P2):X1 (S++[e])=X1 S++[(e,1)]:=by simp[X1]
theorem X7 (L:List (P2 × Int)) (n:Nat):∀(a b:V) (x:P2) (y:Int),(x,y)∈L->asV (x,y)=(a,b)->V.cl n a=true/\V.cl n b=true:=by
 rintro _ _ x y _ h
 simp only[asV,Prod.mk.injEq]at h
 obtain⟨rfl,rfl⟩:=h
 exact⟨rfl,rfl⟩
theorem Yp {l:List T3} {k:Nat} {t:T3} (h:l[k]?=some t):Qb (l.take (k+1))=Qb (l.take k)++Q7 t:=by
 simp[Qb,List.take_add_one,h]
theorem Q0k (l:List T3) (k:Nat):(Qb (l.take k)).length<=3*k:=by
 induction k with
 | zero=>simp[Qb]
 | succ k ih =>
   by_cases hk:k<l.length
   ·rw[Yp (q9 hk),j3]
    have:(Q7 l[k]).length<=3:=X6 _ 3
    omega
   ·rw[qe (by omega)]at ih ⊢;omega
theorem coh_pre {l:List T3} {k:Nat} {S:List P2} (h:S <+: Q7 ((l[k]?).getD ⟨0,0,0⟩)) (hk:k<l.length):Qb (l.take k)++S <+: Qb l:=by
 have h1:l[k]?=some l[k]:=q9 hk
 rw[h1]at h
 obtain⟨r,hr⟩:=h
 have h2:Qb l=Qb (l.take (k+1))++Qb (l.drop (k+1)):=by
  rw[Qb,Qb,Qb,<- List.flatMap_append,List.take_append_drop]
 rw[h2,Yp h1,show Q7 l[k]=S++r from hr.symm]
 exact⟨r++Qb (l.drop (k+1)),by simp⟩
section
variable {P:Program} (hm:P.follows .mixedOrders=true)
include hm
theorem Ur {f fe:FuncId} (hf:Qa P f (L0i.c fe) L0i.r L0i.n) (he:Ei P fe):CohC P f:=by
 intro l hl
 refine PureC.is (Q8 hm hf (qh rfl) ?_) rfl
 unfold L0i.c
 simp[go_sem,tsV]
 refine Qj (α:=Nat) (λk=>k<=l.length/\(Qb (l.take k)).Nodup)
  (λk=>⟨[(3,.mp 0),(9,tsV l),(10,.i .i64 l.length),(11,.i .i64 k)],[.mp ((X1 (Qb (l.take k))).map asV)]⟩)
  (λk=>l.length-k) 0 ⟨by omega,by simp[Qb]⟩ ?_ ?_
 ·simp[go_sem,tsV,Qb,X1]
 ·rintro k ⟨hk,hnd⟩
  by_cases hkl:k=l.length
  ·subst hkl
   simp[go_sem,tsV,L0i.r]
   rw[qi]at hnd
   simp[Q01,hnd]
  ·have hlt:k<l.length:=by omega
   have hp:l[k]?=some l[k]:=q9 hlt
   generalize l[k]=t at hp
   obtain⟨_,hp'⟩:=q8.1 hp
   simp[go_sem,tsV,hlt,hp',tcs]
   refine Q5 (he t) ?_
   have hlen:(Q7 t).length<=3:=X6 t 3
   simp[go_sem,psV]
   refine Qj (α:=Nat) (λj=>j<=(Q7 t).length/\(Qb (l.take k)++(Q7 t).take j).Nodup)
    (λj=>⟨[(3,.mp 0),(9,tsV l),(10,.i .i64 l.length),(11,.i .i64 k),(16,psV (Q7 t)),(17,.i .i64 (Q7 t).length),(18,.i .i64 j)],[.mp ((X1 (Qb (l.take k)++(Q7 t).take j)).map asV)]⟩)
    (λj=>(Q7 t).length-j) 0 ⟨by omega,by simpa using hnd⟩ ?_ ?_
   ·simp[go_sem,tsV,psV]
    exact X7 _ 1
   ·rintro j ⟨hj,hnd2⟩
    by_cases hjl:j=(Q7 t).length
    ·subst hjl
     simp (disch:=omega) [go_sem,tsV,psV,Q3]
     rw[qi]at hnd2
     exact⟨k+1,⟨by omega,by rw[Yp hp];exact hnd2⟩,by omega,by omega,by rw[Yp hp],X7 _ 1⟩
    ·have hjlt:j<(Q7 t).length:=by omega
     have hq:(Q7 t)[j]?=some (Q7 t)[j]:=q9 hjlt
     have htk:(Q7 t).take (j+1)=(Q7 t).take j++[(Q7 t)[j]]:=by rw[List.take_add_one,hq];rfl
     generalize (Q7 t)[j]=e at hq htk
     obtain⟨_,hq'⟩:=q8.1 hq
     have hpre:=coh_pre (l:=l) (k:=k) (S:=(Q7 t).take (j+1)) (by rw[hp];exact List.take_prefix _ _) hlt
     rw[htk,<- qz]at hpre
     generalize hS:Qb (l.take k)++(Q7 t).take j=S at hnd2 hpre
     by_cases hmem:e∈S
     ·obtain⟨i,hi⟩:=Ue hmem
      have h1:=J4 e (X1 S)
      rw[hi]at h1
      simp only[Option.map_some]at h1
      have h3:Qk [1,1] (V.a [V.i IntKind.i64 e.x,V.i IntKind.i64 e.y]) ((List.map asV (X1 S)).set i (V.a [V.i .i64 e.x,V.i .i64 e.y],V.i .i64 2))=some (some (i,.i .i64 2)):=by
       have:=J4 e ((X1 S).set i (e,2))
       rw[(Kh (n':=2) hi).2,List.map_set]at this
       exact this
      have hil:i<(X1 S).length:=(q8.1 (Kh (n':=2) hi).1).1
      have hil':i<(List.map asV (X1 S)).length:=by simpa using hil
      have w2:IntKind.i64.wrap 2=2:=rfl
      simp[go_sem,psV,hjlt,hq',pcs,h1,h3,w2,qm hil',List.set_set,L0i.r]
      unfold Q01
      rw[decide_eq_false]
      intro hall
      have:=hall.sublist hpre.sublist
      rw[List.nodup_append]at this
      exact this.2.2 e hmem e (by simp) rfl
     ·have h1:=J4 e (X1 S)
      rw[Uf hmem]at h1
      simp only[Option.map_none]at h1
      have w1:IntKind.i64.wrap 1=1:=rfl
      have h3:Qk [1,1] (V.a [V.i IntKind.i64 e.x,V.i IntKind.i64 e.y]) (List.map asV (X1 S)++[(V.a [V.i .i64 e.x,V.i .i64 e.y],V.i .i64 1)])=some (some ((X1 S).length,.i .i64 1)):=by
       have:=J4 e (X1 S++[(e,1)])
       rw[Q6s (Uf hmem),qw]at this
       exact this
      simp[go_sem,psV,hjlt,hq',pcs,h1,h3,w1]
      have hS1:Qb (l.take k)++(Q7 t).take (j+1)=S++[e]:=by rw[htk,<- qz,hS]
      refine⟨j+1,⟨by omega,?_⟩,by omega,⟨.inr rfl,Q3 (by omega) (by omega)⟩,?_,X7 _ 1⟩
      ·rw[hS1,List.nodup_append]
       exact⟨hnd2,by simp,λa ha b hb=>by simp at hb;subst hb;rintro rfl;exact hmem ha⟩
      ·rw[hS1,Qjm,qw];rfl
end
end Go.Abs
