/- Part of the library on which the proof stands: an abstract machine, its values and its soundness against the model; or what functions of the program do to such values. -/
import Derived.Test.YtnaehggpjfdenaaGreatGoSecF
import Derived.Test.YtnaehggpjfdenaaGreatGoShp
import Derived.Test.YtnaehggpjfdenaaGreatGoShpD
set_option linter.unusedVariables false
set_option linter.unusedSimpArgs false
set_option maxHeartbeats 4000000
namespace Go.Abs
def Uo:List P2->List Eg
 | a::b::l=>(a,b)::Uo (b::l)
 | _=>[]
def Z7:List P2->List Eg
 | []=>[]
 | a::l=>Uo (a::l++[a])
theorem Q3a:∀(l:List P2) (a b:P2),Uo (l++[a]++[b])=Uo (l++[a])++[(a,b)]
 | [],a,b=>rfl
 | [c],a,b=>rfl
 | c::d::l,a,b=>by
   have:=Q3a (d::l) a b
   simp only[List.cons_append,Uo]at this ⊢
   rw[this]
theorem Q67:∀l:List P2,(Uo l).length=l.length-1
 | []=>rfl
 | [a]=>rfl
 | a::b::l=>by
   have:=Q67 (b::l)
   simp only[Uo,List.length_cons]at this ⊢
   omega
theorem Q68:∀(l:List P2) (i:Nat) (h:i+1<l.length),(Uo l)[i]?=some (l[i],l[i+1])
 | [],i,h=>by simp at h
 | [a],i,h=>by simp at h
 | a::b::l,0,h=>rfl
 | a::b::l,i+1,h=>by
   have:=Q68 (b::l) i (by simpa using h)
   simpa[Uo]using this
theorem K2 (l:List P2):(Z7 l).length=l.length:=by
 cases l with
 | nil=>rfl
 | cons a l=>unfold Z7;rw[Q67];simp
theorem Q64 {l:List P2} {i:Nat} (h:i<l.length):(Z7 l)[i]?=some (l[i],l[(i+1) % l.length]'(Nat.mod_lt _ (by omega))):=by
 cases l with
 | nil=>simp at h
 | cons a l =>
   unfold Z7
   rw[Q68 (a::l++[a]) i (by simpa using h)]
   congr 2
   ·rw[List.getElem_append_left h]
   ·by_cases hi:i+1<(a::l).length
    ·rw[List.getElem_append_left hi]
     congr 1
     exact(Nat.mod_eq_of_lt hi).symm
    ·have he:i+1=(a::l).length:=by omega
     have h0:(i+1) % (a::l).length=0:=by rw[he,Nat.mod_self]
     simp only[h0,he]
     simp
def Un (l:List P2) (k:Nat):List Eg:=(Z7 l).take k
theorem Qdb {l:List P2} {k:Nat} (h:k<l.length):Un l (k+1)=Un l k++[(l[k],l[(k+1) % l.length]'(Nat.mod_lt _ (by omega)))]:=by
 unfold Un
 rw[List.take_add_one,Q64 h];rfl
theorem Qhu (l:List P2):Un l l.length=Z7 l:=by
 unfold Un
 rw[<- K2 l,qi]
theorem Qhv (l:List P2):(Z7 l).map Prod.fst=l:=by
 apply qx
 intro i
 rw[qp]
 by_cases h:i<l.length
 ·rw[Q64 h,q9 h];rfl
 ·rw[qk (by rw[K2];omega),qk (by omega)];rfl
structure Trail (f c:P2) (vs:List P2) (R E:List Eg):Prop where
 pm:(Uo (vs++[c])++R).Perm E
 hd:(vs++[c]).head? = some f
 bal:∀p:P2,R.countP (λe=>decide (e.1=p))+(if p=f then 1 else 0)=R.countP (λe=>decide (e.2=p))+(if p=c then 1 else 0)
theorem Trail.start {R:List Eg} (h:Ba R) (f:P2):Trail f f [] R R:=⟨List.Perm.refl _,rfl,λp=>by rw[h p]⟩
theorem Trail.step {f c b:P2} {vs:List P2} {R R' E:List Eg} (h:Trail f c vs R E) (hp:R.Perm ((c,b)::R')):Trail f b (vs++[c]) R' E where
 pm:=by
  rw[Q3a]
  refine List.Perm.trans ?_ h.pm
  rw[qz]
  exact List.Perm.append_left _ hp.symm
 hd:=by
  have:=h.hd
  cases vs<;>simpa using this
 bal p:=by
  have:=h.bal p
  rw[hp.countP_eq,hp.countP_eq,List.countP_cons,List.countP_cons]at this
  simp only[decide_eq_true_eq]at this
  by_cases h1:c=p<;>by_cases h2:b=p
  ·subst h1;subst h2;simp only[if_true]at this ⊢;omega
  ·subst h1
   simp only[if_true,if_neg h2,if_neg (show ¬ c=b from λhh=>h2 hh.symm)]at this ⊢;omega
  ·subst h2
   simp only[if_true,if_neg h1,if_neg (show ¬ b=c from λhh=>h1 hh.symm)]at this ⊢;omega
  ·simp only[if_neg h1,if_neg h2,if_neg (show ¬ p=b from λhh=>h2 hh.symm),if_neg (show ¬ p=c from λhh=>h1 hh.symm)]at this ⊢;omega
theorem Trail.more {f c:P2} {vs:List P2} {R E:List Eg} (h:Trail f c vs R E) (hc:c≠f):∃e∈R,e.1=c:=by
 have:=h.bal c
 rw[if_neg hc,if_pos rfl]at this
 have hp:0<R.countP λe=>decide (e.1=c):=by omega
 obtain⟨e,he,h2⟩:=List.countP_pos_iff.1 hp
 exact⟨e,he,by simpa using h2⟩
theorem Trail.close {f:P2} {vs:List P2} {R E:List Eg} (h:Trail f f vs R E) (hn:vs≠[]):Ba R/\(Z7 vs++R).Perm E:=by
 refine⟨λp=>by have:=h.bal p;omega,?_⟩
 have h1:=h.pm
 cases vs with
 | nil=>exact absurd rfl hn
 | cons a l =>
   have:=h.hd
   simp at this
   subst this
   exact h1
def Sg4.eg (s:Sg4):Eg:=(⟨s.a.1,s.a.2⟩,⟨s.b.1,s.b.2⟩)
def egs (l:List Sg4):List Eg:=l.map Sg4.eg
def neE (es:List Eg):List Eg:=es.filter λe=>decide (e.1≠e.2)
theorem neE_bal {es:List Eg} (h:Ba es):Ba (neE es):=by
 intro p
 have h1:∀(l:List Eg),l.countP (λe=>decide (e.1=p))=(neE l).countP (λe=>decide (e.1=p))+l.countP (λe=>decide (e.1=p/\e.2=p))/\l.countP (λe=>decide (e.2=p))=(neE l).countP (λe=>decide (e.2=p))+l.countP (λe=>decide (e.1=p/\e.2=p)):=by
  intro l
  induction l with
  | nil=>exact⟨rfl,rfl⟩
  | cons e l ih =>
    obtain⟨i1,i2⟩:=ih
    unfold neE at *
    simp only[ne_eq]at i1 i2 ⊢
    rw[List.filter_cons]
    obtain⟨u,v⟩:=e
    by_cases hne:u=v
    ·subst hne
     simp only[List.countP_cons,ne_eq,not_true_eq_false,decide_false,Bool.false_eq_true,if_false,decide_eq_true_eq,and_self]
     omega
    ·rw[if_pos (by simpa using hne)]
     simp only[List.countP_cons,decide_eq_true_eq]
     by_cases hu:u=p
     ·have hv:¬ v=p:=λhv=>hne (hu.trans hv.symm)
      simp only[if_pos hu,if_neg hv,if_neg (λhh:u=p/\v=p=>hv hh.2)]
      exact⟨by omega,by omega⟩
     ·simp only[if_neg hu,if_neg (λhh:u=p/\v=p=>hu hh.1)]
      exact⟨by omega,by omega⟩
 have:=h p
 obtain⟨a,b⟩:=h1 es
 omega
def Qs (ps:List (List P2)):V:=.l 1 (ps.map λp=>[psV p])
def E5.cs (e:E5):List V:=[.i .i64 e.lo.x,.i .i64 e.lo.y,.i .i64 e.hi.x,.i .i64 e.hi.y,.i .i64 e.sg]
def E5.ints (e:E5):List Int:=[e.lo.x,e.lo.y,e.hi.x,e.hi.y,e.sg]
def e5V (l:List E5):V:=.l 5 (l.map E5.cs)
structure E5B (e:E5):Prop where
 a1:-65536<=e.lo.x
 a2:e.lo.x<=65536
 b1:-65536<=e.lo.y
 b2:e.lo.y<=65536
 c1:-65536<=e.hi.x
 c2:e.hi.x<=65536
 d1:-65536<=e.hi.y
 d2:e.hi.y<=65536
 up:e.lo.y<e.hi.y
 s1:-1<=e.sg
 s2:e.sg<=1
structure PitchOk (k:Int):Prop where
 lo:32<=k
 hi:k<=1024
 ev:k % 2=0
theorem Qdt {es:List Eg} (h:EgB es 65536) {e:E5} (he:e∈es.filterMap Eh):E5B e:=by
 obtain⟨s,hs,h1⟩:=List.mem_filterMap.1 he
 obtain⟨a,b,c,d⟩:=h s hs
 unfold Eh at h1
 split at h1
 ·obtain rfl:=Option.some.inj h1
  constructor<;>simp only[]<;>omega
 ·split at h1
  ·obtain rfl:=Option.some.inj h1
   constructor<;>simp only[]<;>omega
  ·simp at h1
def Q9m (P:Program) (f:FuncId):Prop:=∀(e:E5) (cy k:Int),E5B e->PitchOk k->e.lo.y<=cy->cy<e.hi.y->CallIs P f [.a e.cs,.i .i64 cy,.i .i64 k] (.a [.i .i64 (Q5s k cy e),.i .i64 e.sg])
def CenC (P:Program) (f:FuncId):Prop:=∀y k:Int,-10000<=y->y<=10000->PitchOk k->CallIs P f [.i .i64 y,.i .i64 k] (.i .i64 (y*k+k / 2))
theorem quoK {k:Int} (h:PitchOk k):k.tdiv 2=k / 2:=by
 rw[Int.tdiv_eq_ediv_of_nonneg];have:=h.lo;omega
theorem Qod {e:E5} {cy k:Int} (h:E5B e) (hk:PitchOk k) (h1:e.lo.y<=cy) (h2:cy<e.hi.y) :
  (-17179869184<=e.lo.x*(e.hi.y-e.lo.y)/\e.lo.x*(e.hi.y-e.lo.y)<=17179869184)/\(-17179869184<=(e.hi.x-e.lo.x)*(cy-e.lo.y)/\(e.hi.x-e.lo.x)*(cy-e.lo.y)<=17179869184) /\
  (0<=k / 2*(e.hi.y-e.lo.y)/\k / 2*(e.hi.y-e.lo.y)<=134217728)/\(0<k*(e.hi.y-e.lo.y)/\k*(e.hi.y-e.lo.y)<=134217728):=by
 obtain⟨a1,a2,b1,b2,c1,c2,d1,d2,up,_,_⟩:=h
 obtain⟨k1,k2,_⟩:=hk
 have m1:=Q06 (a:=e.lo.x) (b:=e.hi.y-e.lo.y) (k:=65536) (m:=131072) (by omega) (by omega)
 have m2:=Q06 (a:=e.hi.x-e.lo.x) (b:=cy-e.lo.y) (k:=131072) (m:=131072) (by omega) (by omega)
 have m3:=Q06 (a:=k / 2) (b:=e.hi.y-e.lo.y) (k:=512) (m:=131072) (by omega) (by omega)
 have m4:=Q06 (a:=k) (b:=e.hi.y-e.lo.y) (k:=1024) (m:=131072) (by omega) (by omega)
 have p3:0<=k / 2*(e.hi.y-e.lo.y):=Int.mul_nonneg (by omega) (by omega)
 have p4:0<k*(e.hi.y-e.lo.y):=Int.mul_pos (by omega) (by omega)
 refine⟨⟨?_,?_⟩,⟨?_,?_⟩,⟨p3,?_⟩,p4,?_⟩<;>omega
theorem Qov {e:E5} {cy k:Int} (h:E5B e) (hk:PitchOk k) (h1:e.lo.y<=cy) (h2:cy<e.hi.y):-100000000000<=Q5s k cy e/\Q5s k cy e<=100000000000:=by
 obtain⟨m1,m2,m3,m4⟩:=Qod h hk h1 h2
 unfold Q5s Qj0
 generalize e.lo.x*(e.hi.y-e.lo.y)=A at *
 generalize (e.hi.x-e.lo.x)*(cy-e.lo.y)=B at *
 generalize k / 2*(e.hi.y-e.lo.y)=C at *
 generalize k*(e.hi.y-e.lo.y)=D at *
 have h3:(-(A+B-C)) / D<=90000000000:=by
  by_cases hn:0<=-(A+B-C)
  ·exact Int.le_trans (Int.ediv_le_self _ hn) (by omega)
  ·have:(-(A+B-C)) / D<0:=Int.ediv_neg_of_neg_of_pos (by omega) m4.1
   omega
 have h4:-90000000000<=(-(A+B-C)) / D:=by
  rw[Int.le_ediv_iff_mul_le m4.1]
  have:-90000000000*D<=-90000000000*1:=Int.mul_le_mul_of_nonpos_left (by omega) (by omega)
  omega
 omega
section
variable {P:Program} (hm:P.follows .mixedOrders=true)
include hm
theorem Bt {f:FuncId} (hf:Q9 P f L0m.c L0m.r L0m.n):CenC P f:=by
 intro y k h1 h2 hk
 obtain⟨k1,k2,k3⟩:=hk
 refine PureC.is (Q8 hm hf (qh rfl) ?_) rfl
 unfold L0m.c
 have m1:=Q06 (a:=y) (b:=k) (k:=10000) (m:=1024) (by omega) (by omega)
 have hq:=quoK ⟨k1,k2,k3⟩
 generalize hA:y*k=A at *
 have w1:IntKind.i64.wrap A=A:=Q3 (by omega) (by omega)
 have w2:IntKind.i64.wrap (k / 2)=k / 2:=Q3 (by omega) (by omega)
 have w3:IntKind.i64.wrap (A+k / 2)=A+k / 2:=Q3 (by omega) (by omega)
 simp[go_sem,hq,hA,w1,w2,w3,L0m.r]
theorem Q1i {f fl:FuncId} (hf:Q9 P f (L0o.c fl) L0o.r L0o.n) (hl:Q9h P fl):Q9m P f:=by
 intro e cy k he hk h1 h2
 obtain⟨m1,m2,m3,m4⟩:=Qod he hk h1 h2
 have hb:=Qov he hk h1 h2
 have hq:=quoK hk
 obtain⟨a1,a2,b1,b2,c1,c2,d1,d2,up,_,_⟩:=he
 obtain⟨k1,k2,k3⟩:=hk
 refine PureC.is (Q8 hm hf (qh rfl) ?_) rfl
 unfold L0o.c
 have w1:IntKind.i64.wrap (e.hi.y-e.lo.y)=e.hi.y-e.lo.y:=Q3 (by omega) (by omega)
 have w2:IntKind.i64.wrap (e.hi.x-e.lo.x)=e.hi.x-e.lo.x:=Q3 (by omega) (by omega)
 have w3:IntKind.i64.wrap (cy-e.lo.y)=cy-e.lo.y:=Q3 (by omega) (by omega)
 have w4:IntKind.i64.wrap (k / 2)=k / 2:=Q3 (by omega) (by omega)
 unfold Q5s Qj0 at hb ⊢
 generalize hA:e.lo.x*(e.hi.y-e.lo.y)=A at *
 generalize hB:(e.hi.x-e.lo.x)*(cy-e.lo.y)=B at *
 generalize hC:k / 2*(e.hi.y-e.lo.y)=C at *
 generalize hD:k*(e.hi.y-e.lo.y)=D at *
 have x1:IntKind.i64.wrap A=A:=Q3 (by omega) (by omega)
 have x2:IntKind.i64.wrap B=B:=Q3 (by omega) (by omega)
 have x3:IntKind.i64.wrap C=C:=Q3 (by omega) (by omega)
 have x4:IntKind.i64.wrap D=D:=Q3 (by omega) (by omega)
 have x5:IntKind.i64.wrap (A+B)=A+B:=Q3 (by omega) (by omega)
 have x6:IntKind.i64.wrap (A+B-C)=A+B-C:=Q3 (by omega) (by omega)
 have x7:IntKind.i64.wrap (-(A+B-C))=-(A+B-C):=Q3 (by omega) (by omega)
 have hl1:=hl (-(A+B-C)) D (by omega) (by omega) (by omega) (by omega)
 generalize (-(A+B-C)) / D=Q at *
 have x8:IntKind.i64.wrap (-Q)=-Q:=Q3 (by omega) (by omega)
 generalize hS:A+B-C=S at *
 simp[go_sem,E5.cs,w1,w2,w3,w4,hq,hA,hB,hC,hD,x1,x2,x3,x4,x5,x6,hS,x7]
 refine Q5 hl1 ?_
 simp[go_sem,x8,L0o.r]
 done
end
def Y7 (l:List Sg4):V:=.l 4 (l.map Sg4.cs)
theorem rnd_in {n d k:Int} (hd:0<d) (h1:0<=n) (h2:n<=k*d):0<=rnd n d/\rnd n d<=k:=by
 unfold rnd
 refine⟨Int.ediv_nonneg (by omega) (by omega),?_⟩
 have h4:k*(2*d)=2*(k*d):=by rw[Int.mul_left_comm]
 have h3:(2*n+d) / (2*d)<k+1:=Int.ediv_lt_of_lt_mul (by omega) (by rw[Int.add_mul];omega)
 omega
theorem rnd_in' {n d k:Int} (hd:0<d) (h1:n<=0) (h2:-(k*d)<=n):-k<=rnd n d/\rnd n d<=0:=by
 unfold rnd
 constructor
 ·refine Int.le_ediv_of_mul_le (by omega) ?_
  have:-k*(2*d)=-(2*(k*d)):=by rw[Int.neg_mul,Int.mul_left_comm]
  omega
 ·have h3:(2*n+d) / (2*d)<1:=Int.ediv_lt_of_lt_mul (by omega) (by omega)
  omega
theorem Q8u {c0 c1 z0 z1 z:Int} (h1:z0<=z) (h2:z<z1):min c0 c1<=Q5r c0 c1 z0 z1 z/\Q5r c0 c1 z0 z1 z<=max c0 c1:=by
 unfold Q5r
 by_cases h:c0<=c1
 ·have h3:=rnd_in (n:=(c1-c0)*(2*z+1-2*z0)) (d:=2*(z1-z0)) (k:=c1-c0) (by omega) (Int.mul_nonneg (by omega) (by omega)) (jf (by omega) (by omega))
  omega
 ·have h4:(c1-c0)*(2*z+1-2*z0)=-((c0-c1)*(2*z+1-2*z0)):=by rw[<- Int.neg_mul];congr 1;omega
  have h5:0<=(c0-c1)*(2*z+1-2*z0):=Int.mul_nonneg (by omega) (by omega)
  have h6:(c0-c1)*(2*z+1-2*z0)<=(c0-c1)*(2*(z1-z0)):=jf (by omega) (by omega)
  have h3:=rnd_in' (n:=(c1-c0)*(2*z+1-2*z0)) (d:=2*(z1-z0)) (k:=c0-c1) (by omega) (by omega) (by omega)
  omega
def Qgj (l:List Sg4):Prop:=l.length<=4096/\EgB (egs l) 65536
def PtB (p:Int × Int):Prop:=(-65536<=p.1/\p.1<=65536)/\-65536<=p.2/\p.2<=65536
theorem V3.val_iff {v:V3}:v.valid=true↔(-65536<=v.x/\v.x<=65536)/\(-65536<=v.y/\v.y<=65536)/\-65536<=v.z/\v.z<=65536:=by
 unfold V3.valid V3.within
 simp[and_assoc]
theorem Ib {a b:V3} {z:Int} {p:Int × Int} (h:point a b z=some p):PtB p:=by
 unfold point at h
 split at h
 ·rename_i hh
  obtain⟨ha,hb,h1,h2⟩:=hh
  obtain rfl:=Option.some.inj h
  have a1:=V3.val_iff.1 ha
  have b1:=V3.val_iff.1 hb
  have x:=Q8u (c0:=a.x) (c1:=b.x) h1 h2
  have y:=Q8u (c0:=a.y) (c1:=b.y) h1 h2
  unfold PtB
  simp only[]
  omega
 ·simp at h
theorem Q76 {z:Int} {s:Sg4} {u v:V3} (ha:PtB s.a) (hb:PtB s.b):PtB (s.step z u v).a/\PtB (s.step z u v).b:=by
 unfold Sg4.step
 cases h1:point u v z<;>cases h2:point v u z<;>simp only[]
 ·exact⟨ha,hb⟩
 ·exact⟨Ib h2,hb⟩
 ·exact⟨ha,Ib h1⟩
 ·exact⟨Ib h2,Ib h1⟩
theorem cut3_bd (z:Int) (a b c:V3):PtB (Q5q z a b c).a/\PtB (Q5q z a b c).b:=by
 have h0:PtB Sg4.init.a/\PtB Sg4.init.b:=by unfold PtB Sg4.init;simp
 have h1:=Q76 (z:=z) (u:=a) (v:=b) h0.1 h0.2
 have h2:=Q76 (z:=z) (u:=b) (v:=c) h1.1 h1.2
 exact Q76 (z:=z) (u:=c) (v:=a) h2.1 h2.2
theorem segs_bd (m:Mesh) (z:Int) (ts:List T3):EgB (egs (Zv m z ts)) 65536:=by
 intro e he
 obtain⟨s,hs,rfl⟩:=qo.1 he
 obtain⟨h1,_⟩:=qu.1 hs
 obtain⟨t,_,rfl⟩:=qo.1 h1
 obtain⟨h2,h3⟩:=cut3_bd z (m.v t.a) (m.v t.b) (m.v t.c)
 exact⟨h2.1,h2.2,h3.1,h3.2⟩
theorem sec_ok (m:Mesh) (z:Int):Qgj (Zr m z).1:=by
 unfold Zr
 split
 ·rename_i hz
  split
  ·exact⟨by simp,by intro e he;simp[egs]at he⟩
  ·refine⟨?_,segs_bd _ _ _⟩
   have h1:=(Mesh.check_zero.1 hz).2.1
   have h2:(Zv m z m.tris).length<=m.tris.length:=by
    unfold Zv
    exact Nat.le_trans (j8 _ _) (by simp)
   exact Nat.le_trans h2 h1
 ·exact⟨by simp,by intro e he;simp[egs]at he⟩
def Zh (n lo hi:Int):Bool:=decide (lo<=n) && decide (n<=hi) && decide (n % 2=0)
noncomputable def Zb (m:Mesh) (z k:Int):List Rw × Int :=
 open Classical in
 if Zh k 32 1024=false then ([],1) else if (Zr m z).2≠0 then ([],(Zr m z).2) else if Ba (egs (Zr m z).1) then (Uc (egs (Zr m z).1) k,0) else ([],12)
theorem Ql8 (m:Mesh) (z k:Int):RgV (Zb m z k).1/\RgB (Zb m z k).1:=by
 unfold Zb
 split
 ·exact⟨RgV.nil,RgB.nil⟩
 ·split
  ·exact⟨RgV.nil,RgB.nil⟩
  ·split
   ·exact⟨Q4b _,Qc1 _⟩
   ·exact⟨RgV.nil,RgB.nil⟩
def L0h.c (L0c L0i:FuncId):C :=(.seq (.reg [Au 1 (.box (.t 0)),Ab 2 false]) (.seq (.reg [Ag 3 2 1,Au 4 (.call L0c [.t 3]),Ak .eql 5 4 0,Am 6 5,Av 7 6 (.fa 1 (.t 1)),Av 8 6 (.ld none (.t 7)),Av 9 6 (.call L0i [.t 8]),Ap 10 6 9,Am 2 10]) .ret))
def L0h.r:List Rr:=[.tmp 2]
abbrev L0h.n:Nat:=11
def L0i.c (L0j:FuncId):C :=(.seq (.reg [Ab 2 false]) (.seq (.reg [Au 8 (.mkm none),Am 3 8]) (.seq (.seq (.reg [Am 9 0,An 10 0 9,Ac 11 0]) (.blk 0 (.loop (.seq (.reg [Aj .lss 12 11 10]) (.seq (.ite (.t 12) .skip (.exit 0)) (.seq (.blk 1 (.seq (.reg [Ai 13 3 9 11,Ag 14 3 13,Au 5 (.alloc [(.i .i64 0),(.i .i64 0),(.i .i64 0)]),As 3 5 14]) (.seq (.reg [Ag 15 3 5,Au 16 (.call L0j [.t 15]),An 17 0 16,Ac 18 0]) (.blk 2 (.loop (.seq (.reg [Aj .lss 19 18 17]) (.seq (.ite (.t 19) .skip (.exit 2)) (.seq (.blk 3 (.seq (.reg [Ai 20 2 16 18,Ag 21 2 20,Au 7 (.alloc [(.i .i64 0),(.i .i64 0)]),As 2 7 21]) (.seq
 (.reg [Am 22 3,Ag 23 2 7,⟨none,none,.eqa [1,1] false (.t 23) (.t 23)⟩,Au 24 (.lk [1,1] (.i .i64 0) false (.t 22) (.t 23)),Ad 25 24 1,Au 26 (.ment [1,1] (.i .i64 0) (.t 22) (.t 23)),Ax1 27 1 26,⟨none,none,.est (.t 22) (.t 27) (.t 25)⟩]) (.seq (.reg [Am 28 3,Ag 29 2 7,Au 30 (.lk [1,1] (.i .i64 0) false (.t 28) (.t 29)),Ak .gtr 31 30 1]) (.ite (.t 31) (.seq (.reg [Ab 2 false]) .ret) .skip))))) (.reg [Ad 32 18 1,Am 18 32]))))))))) (.reg [Ad 33 11 1,Am 11 33]))))))) (.seq (.reg [Ab 2 true]) .ret))))
def L0i.r:List Rr:=[.tmp 2]
abbrev L0i.n:Nat:=34
def L0j.c:C :=(.seq (.reg [Au 1 (.box (.t 0)),Az 2]) (.seq (.reg [Az 3]) (.seq (.seq (.reg [Af 6 0 1,Al 7 6,Af 8 1 1,Al 9 8,Au 10 (.build [(.i .i64 0),(.i .i64 0)] [(0,1,(.t 7)),(1,1,(.t 9))]),Af 11 1 1,Al 12 11,Af 13 2 1,Al 14 13,Au 15 (.build [(.i .i64 0),(.i .i64 0)] [(0,1,(.t 12)),(1,1,(.t 14))]),Af 16 2 1,Al 17 16,Af 18 0 1,Al 19 18,Au 20 (.build [(.i .i64 0),(.i .i64 0)] [(0,1,(.t 17)),(1,1,(.t 19))]),Au 21 (.build [(.i .i64 0),(.i .i64 0),(.i .i64 0),(.i .i64 0),(.i .i64 0),(.i .i64 0)] [(0,2,(.t 10)),(2,2,(.t 15)),(4,2,(.t 20))]),Ac 22 0]) (.blk 0 (.loop (.seq (.reg [Ak .lss 23 22 3]) (.seq
 (.ite (.t 23) .skip (.exit 0)) (.seq (.blk 1 (.seq (.reg [Au 24 (.ix 3 2 (some 2) (.t 21) (.t 22)),Au 5 (.alloc [(.i .i64 0),(.i .i64 0)]),As 2 5 24]) (.seq (.reg [Af 25 0 5,Al 26 25,Af 27 1 5,Al 28 27,Aj .neq 29 26 28]) (.ite (.t 29) (.reg [Am 30 3,Ag 31 2 5,Au 32 (.bsi 2 1 [(.i .i64 0),(.i .i64 0)] [(0,(.t 31))]),Au 33 (.app 2 16 (.t 30) (.t 32)),Am 3 33]) .skip)))) (.reg [Ad 34 22 1,Am 22 34]))))))) (.seq (.reg [Am 35 3,Am 2 35]) .ret))))
def L0j.r:List Rr:=[.tmp 2]
abbrev L0j.n:Nat:=36
theorem Qj1 (h:List O) (id:Nat):Ze h (.mp id)=match h[id]? with | some (.mp es)=>some es | some (.md es)=>some es | _=>none:=Rfl rfl
attribute [go_sem] Qj1 V.isT
def asE (p:P2 × Int):V × V:=(p.1.enc,.i .i64 p.2)
def fnd (e:P2):List (P2 × Int)->Option (Nat × Int)
 | []=>none
 | (k,n)::r=>if e=k then some (0,n) else (fnd e r).map λp=>(p.1+1,p.2)
theorem veq2 (a b:P2):Za [1,1] a.enc.cells b.enc.cells=some (decide (a=b)):=by
 cases a;cases b
 simp[Za,P2.enc,P2.cs,V.cells,Q31,P2.mk.injEq]
 rw[Bool.eq_iff_iff];simp
theorem Qbr (e:P2):∀L:List (P2 × Int),Ql [1,1] e.enc (L.map asE)=some ((fnd e L).map λp=>(p.1,.i .i64 p.2))
 | []=>rfl
 | (k,n)::r=>by
   simp only[List.map_cons,asE,Ql,fnd]
   rw[if_pos (by rfl),veq2]
   by_cases h:e=k
   ·simp[h]
   ·simp only[h,decide_false,if_false]
    have:=Qbr e r
    rw[this]
    cases fnd e r<;>rfl
theorem Q45 {e:P2}:∀{L:List (P2 × Int)},fnd e L=none↔∀p∈L,p.1≠e
 | []=>by simp[fnd]
 | (k,n)::r=>by
   simp only[fnd]
   by_cases h:e=k
   ·simp[h]
   ·have h':¬ k=e:=λhh=>h hh.symm
    rw[if_neg h,Option.map_eq_none_iff,Q45 (L:=r)]
    simp[h']
theorem Q8f {e:P2} {n:Int}:∀{L:List (P2 × Int)},fnd e L=none->fnd e (L++[(e,n)])=some (L.length,n)
 | [],_=>by simp[fnd]
 | (k,m)::r,h=>by
   simp only[fnd]at h
   by_cases hk:e=k
   ·simp[hk]at h
   ·simp only[hk,if_false,Option.map_eq_none_iff]at h
    simp[fnd,hk,Q8f h]
theorem Km {e:P2} {i:Nat} {n n':Int}:∀{L:List (P2 × Int)},fnd e L=some (i,n)->L[i]?=some (e,n)/\fnd e (L.set i (e,n'))=some (i,n')
 | [],h=>by simp[fnd]at h
 | (k,m)::r,h=>by
   simp only[fnd]at h
   by_cases hk:e=k
   ·simp[hk]at h;obtain⟨rfl,rfl⟩:=h;simp[fnd,hk]
   ·simp only[hk,if_false,qa,Prod.mk.injEq]at h
    obtain⟨⟨j,n1⟩,hj,rfl,rfl⟩:=h
    have:=Km (n':=n') hj
    simp[fnd,hk,this.1,this.2]
def Jw (t:T3):List P2:=[⟨t.a,t.b⟩,⟨t.b,t.c⟩,⟨t.c,t.a⟩]
def Zn (t:T3) (k:Nat):List P2:=((Jw t).take k).filter λe=>decide (e.x≠e.y)
def Q7 (t:T3):List P2:=Zn t 3
def Ey (P:Program) (f:FuncId):Prop:=∀t:T3,CallIs P f [t.enc] (psV (Q7 t))
theorem Qlo (p:P2):(∀y∈p.cs,y.isD=true)=True:=by simp[P2.cs,V.isD]
theorem Ic (t:P2) (n:Nat):(∀y∈t.cs,y.cl n=true)=True:=by simp[P2.cs,V.cl,V.cl1,V.cl0]
theorem Qoh (t:T3):Zn t 0=[]:=rfl
theorem Qoc (x y:Int) (l:List P2):(l++[(⟨x,y⟩:P2)]).filter (λe=>decide (e.x≠e.y))=if x=y then l.filter (λe=>decide (e.x≠e.y)) else l.filter (λe=>decide (e.x≠e.y))++[⟨x,y⟩]:=by
 rw[List.filter_append]
 by_cases h:x=y<;>simp[h]
theorem Qog (t:T3):Zn t 1=if t.a=t.b then Zn t 0 else Zn t 0++[⟨t.a,t.b⟩]:=Qoc t.a t.b []
theorem Qof (t:T3):Zn t 2=if t.b=t.c then Zn t 1 else Zn t 1++[⟨t.b,t.c⟩]:=Qoc t.b t.c [⟨t.a,t.b⟩]
theorem Qoe (t:T3):Zn t 3=if t.c=t.a then Zn t 2 else Zn t 2++[⟨t.c,t.a⟩]:=Qoc t.c t.a [⟨t.a,t.b⟩,⟨t.b,t.c⟩]
theorem X7 (t:T3) (k:Nat):(Zn t k).length<=3:=by
 refine Nat.le_trans (j8 _ _) ?_
 simp[Jw];omega
section
variable {P:Program} (hm:P.follows .mixedOrders=true)
include hm
theorem Ku {f:FuncId} (hf:Q9 P f L0j.c L0j.r L0j.n):Ey P f:=by
 intro t
 refine PureC.is (Q8 hm hf (qh rfl) ?_) rfl
 unfold L0j.c
 simp[go_sem,T3.enc,T3.cs]
 have w1:IntKind.i64.wrap 1=1:=rfl
 have w2:IntKind.i64.wrap 2=2:=rfl
 have w3:IntKind.i64.wrap 3=3:=rfl
 refine Qz [.t 3 2] (α:=Nat) (λk=>k<=3)
  (λk=>⟨[(3,.own 1 ((Zn t k).length+1) 0 (Zn t k).length),(21,.a [.i .i64 t.a,.i .i64 t.b,.i .i64 t.b,.i .i64 t.c,.i .i64 t.c,.i .i64 t.a]),(22,.i .i64 k)],
   [.dead,.arr ((Zn t k).length+1) 2 ((Zn t k).map P2.cs)]⟩)
  (λk=>3-k) 0 (by omega) ?_ ?_
 ·simp[go_sem,Qoh]
 ·intro k hk
  have hl:=X7 t k
  by_cases h3:k=3
  ·subst h3
   simp[go_sem,L0j.r,psV,Q7,Qlo]
  ·have:k=0∨k=1∨k=2:=by omega
   rcases this with rfl | rfl | rfl
   ·have hs:=Qog t
    generalize hE:Zn t 0=E0 at hs hl
    by_cases h:t.a=t.b
    ·rw[if_pos h]at hs
     simp[go_sem,h,w1,w2,w3]
     exact⟨1,by omega,by omega,by simp[hs],by simp[hs],by simp[Ic]⟩
    ·rw[if_neg h]at hs
     simp[go_sem,h,w1,w2,w3]
     exact⟨by omega,1,by omega,by omega,by simp[hs],by simp[hs,pcs,or_imp,forall_and,V.cl,V.cl1,V.cl0]⟩
   ·have hs:=Qof t
    generalize hE:Zn t 1=E0 at hs hl
    by_cases h:t.b=t.c
    ·rw[if_pos h]at hs
     simp[go_sem,h,w1,w2,w3]
     exact⟨2,by omega,by omega,by simp[hs],by simp[hs],by simp[Ic]⟩
    ·rw[if_neg h]at hs
     simp[go_sem,h,w1,w2,w3]
     exact⟨by omega,2,by omega,by omega,by simp[hs],by simp[hs,pcs,or_imp,forall_and,V.cl,V.cl1,V.cl0]⟩
   ·have hs:=Qoe t
    generalize hE:Zn t 2=E0 at hs hl
    by_cases h:t.c=t.a
    ·rw[if_pos h]at hs
     simp[go_sem,h,w1,w2,w3]
     exact⟨3,by omega,by omega,by simp[hs],by simp[hs],by simp[Ic]⟩
    ·rw[if_neg h]at hs
     simp[go_sem,h,w1,w2,w3]
     exact⟨by omega,3,by omega,by omega,by simp[hs],by simp[hs,pcs,or_imp,forall_and,V.cl,V.cl1,V.cl0]⟩
end
def Qa (l:List T3):List P2:=l.flatMap Q7
def Q0i (l:List T3):Bool:=decide (Qa l).Nodup
def CohC (P:Program) (f:FuncId):Prop:=∀l:List T3,l.length<=1000000->CallIs P f [tsV l] (.b (Q0i l))
def asV (p:P2 × Int):V × V:=(.a [.i .i64 p.1.x,.i .i64 p.1.y],.i .i64 p.2)
theorem J6 (e:P2) (L:List (P2 × Int)):Ql [1,1] (.a [.i .i64 e.x,.i .i64 e.y]) (L.map asV)=some ((fnd e L).map λp=>(p.1,.i .i64 p.2)):=Qbr e L
def X4 (S:List P2):List (P2 × Int):=S.map λe=>(e,1)
theorem Uq {e:P2} {S:List P2} (h:e∉S):fnd e (X4 S)=none:=by
 rw[Q45]
 intro p hp
 simp only[X4,qo]at hp
 obtain⟨a,ha,rfl⟩:=hp
 rintro rfl
 exact h ha
theorem Up {e:P2}:∀{S:List P2},e∈S->∃i,fnd e (X4 S)=some (i,1)
 | [],h=>by simp at h
 | a::S,h=>by
   by_cases ha:e=a
   ·exact⟨0,by simp[X4,fnd,ha]⟩
   ·have:e∈S:=by simpa[ha]using h
    obtain⟨i,hi⟩:=Up this
    exact⟨i+1,by simp only[X4,List.map_cons,fnd,if_neg ha];rw[show S.map (λe=>(e,(1:Int)))=X4 S from rfl,hi];rfl⟩
theorem Qlq (S:List P2) (e:P2):X4 (S++[e])=X4 S++[(e,1)]:=by simp[X4]
theorem X8 (L:List (P2 × Int)) (n:Nat):∀(a b:V) (x:P2) (y:Int),(x,y)∈L->asV (x,y)=(a,b)->V.cl n a=true/\V.cl n b=true:=by
 rintro _ _ x y _ h
 simp only[asV,Prod.mk.injEq]at h
 obtain⟨rfl,rfl⟩:=h
 exact⟨rfl,rfl⟩
theorem Yt {l:List T3} {k:Nat} {t:T3} (h:l[k]?=some t):Qa (l.take (k+1))=Qa (l.take k)++Q7 t:=by
 simp[Qa,List.take_add_one,h]
theorem Q12 (l:List T3) (k:Nat):(Qa (l.take k)).length<=3*k:=by
 induction k with
 | zero=>simp[Qa]
 | succ k ih =>
   by_cases hk:k<l.length
   ·rw[Yt (q9 hk),j3]
    have:(Q7 l[k]).length<=3:=X7 _ 3
    omega
   ·rw[qe (by omega)]at ih ⊢;omega
theorem coh_pre {l:List T3} {k:Nat} {S:List P2} (h:S <+: Q7 ((l[k]?).getD ⟨0,0,0⟩)) (hk:k<l.length):Qa (l.take k)++S <+: Qa l:=by
 have h1:l[k]?=some l[k]:=q9 hk
 rw[h1]at h
 obtain⟨r,hr⟩:=h
 have h2:Qa l=Qa (l.take (k+1))++Qa (l.drop (k+1)):=by
  rw[Qa,Qa,Qa,<- List.flatMap_append,List.take_append_drop]
 rw[h2,Yt h1,show Q7 l[k]=S++r from hr.symm]
 exact⟨r++Qa (l.drop (k+1)),by simp⟩
section
variable {P:Program} (hm:P.follows .mixedOrders=true)
include hm
theorem E4 {f fe:FuncId} (hf:Q9 P f (L0i.c fe) L0i.r L0i.n) (he:Ey P fe):CohC P f:=by
 intro l hl
 refine PureC.is (Q8 hm hf (qh rfl) ?_) rfl
 unfold L0i.c
 simp[go_sem,tsV]
 refine Qh (α:=Nat) (λk=>k<=l.length/\(Qa (l.take k)).Nodup)
  (λk=>⟨[(3,.mp 0),(9,tsV l),(10,.i .i64 l.length),(11,.i .i64 k)],[.mp ((X4 (Qa (l.take k))).map asV)]⟩)
  (λk=>l.length-k) 0 ⟨by omega,by simp[Qa]⟩ ?_ ?_
 ·simp[go_sem,tsV,Qa,X4]
 ·rintro k ⟨hk,hnd⟩
  by_cases hkl:k=l.length
  ·subst hkl
   simp[go_sem,tsV,L0i.r]
   rw[qi]at hnd
   simp[Q0i,hnd]
  ·have hlt:k<l.length:=by omega
   have hp:l[k]?=some l[k]:=q9 hlt
   generalize l[k]=t at hp
   obtain⟨_,hp'⟩:=q8.1 hp
   simp[go_sem,tsV,hlt,hp',tcs]
   refine Q5 (he t) ?_
   have hlen:(Q7 t).length<=3:=X7 t 3
   simp[go_sem,psV]
   refine Qh (α:=Nat) (λj=>j<=(Q7 t).length/\(Qa (l.take k)++(Q7 t).take j).Nodup)
    (λj=>⟨[(3,.mp 0),(9,tsV l),(10,.i .i64 l.length),(11,.i .i64 k),(16,psV (Q7 t)),(17,.i .i64 (Q7 t).length),(18,.i .i64 j)],[.mp ((X4 (Qa (l.take k)++(Q7 t).take j)).map asV)]⟩)
    (λj=>(Q7 t).length-j) 0 ⟨by omega,by simpa using hnd⟩ ?_ ?_
   ·simp[go_sem,tsV,psV]
    exact X8 _ 1
   ·rintro j ⟨hj,hnd2⟩
    by_cases hjl:j=(Q7 t).length
    ·subst hjl
     simp (disch:=omega) [go_sem,tsV,psV,Q3]
     rw[qi]at hnd2
     exact⟨k+1,⟨by omega,by rw[Yt hp];exact hnd2⟩,by omega,by omega,by rw[Yt hp],X8 _ 1⟩
    ·have hjlt:j<(Q7 t).length:=by omega
     have hq:(Q7 t)[j]?=some (Q7 t)[j]:=q9 hjlt
     have htk:(Q7 t).take (j+1)=(Q7 t).take j++[(Q7 t)[j]]:=by rw[List.take_add_one,hq];rfl
     generalize (Q7 t)[j]=e at hq htk
     obtain⟨_,hq'⟩:=q8.1 hq
     have hpre:=coh_pre (l:=l) (k:=k) (S:=(Q7 t).take (j+1)) (by rw[hp];exact List.take_prefix _ _) hlt
     rw[htk,<- qz]at hpre
     generalize hS:Qa (l.take k)++(Q7 t).take j=S at hnd2 hpre
     by_cases hmem:e∈S
     ·obtain⟨i,hi⟩:=Up hmem
      have h1:=J6 e (X4 S)
      rw[hi]at h1
      simp only[Option.map_some]at h1
      have h3:Ql [1,1] (V.a [V.i IntKind.i64 e.x,V.i IntKind.i64 e.y]) ((List.map asV (X4 S)).set i (V.a [V.i .i64 e.x,V.i .i64 e.y],V.i .i64 2))=some (some (i,.i .i64 2)):=by
       have:=J6 e ((X4 S).set i (e,2))
       rw[(Km (n':=2) hi).2,List.map_set]at this
       exact this
      have hil:i<(X4 S).length:=(q8.1 (Km (n':=2) hi).1).1
      have hil':i<(List.map asV (X4 S)).length:=by simpa using hil
      have w2:IntKind.i64.wrap 2=2:=rfl
      simp[go_sem,psV,hjlt,hq',pcs,h1,h3,w2,qm hil',List.set_set,L0i.r]
      unfold Q0i
      rw[decide_eq_false]
      intro hall
      have:=hall.sublist hpre.sublist
      rw[List.nodup_append]at this
      exact this.2.2 e hmem e (by simp) rfl
     ·have h1:=J6 e (X4 S)
      rw[Uq hmem]at h1
      simp only[Option.map_none]at h1
      have w1:IntKind.i64.wrap 1=1:=rfl
      have h3:Ql [1,1] (V.a [V.i IntKind.i64 e.x,V.i IntKind.i64 e.y]) (List.map asV (X4 S)++[(V.a [V.i .i64 e.x,V.i .i64 e.y],V.i .i64 1)])=some (some ((X4 S).length,.i .i64 1)):=by
       have:=J6 e (X4 S++[(e,1)])
       rw[Q8f (Uq hmem),qw]at this
       exact this
      simp[go_sem,psV,hjlt,hq',pcs,h1,h3,w1]
      have hS1:Qa (l.take k)++(Q7 t).take (j+1)=S++[e]:=by rw[htk,<- qz,hS]
      refine⟨j+1,⟨by omega,?_⟩,by omega,⟨.inr rfl,Q3 (by omega) (by omega)⟩,?_,X8 _ 1⟩
      ·rw[hS1,List.nodup_append]
       exact⟨hnd2,by simp,λa ha b hb=>by simp at hb;subst hb;rintro rfl;exact hmem ha⟩
      ·rw[hS1,Qlq,qw];rfl
end
def L23.c (L0c L24:FuncId):C :=(.seq (.reg [Au 1 (.box (.t 0)),Au 2 (.mv (.c .mnil))]) (.seq (.reg [Au 8 (.mkm none),Am 3 8]) (.seq (.seq (.reg [Ag 9 2 1,Au 10 (.call L0c [.t 9]),Ak .neq 11 10 0]) (.ite (.t 11) (.seq (.reg [Am 12 3,Am 2 12]) .ret) .skip)) (.seq (.seq (.reg [Af 13 1 1,Al 14 13,An 15 0 14,Ac 16 0]) (.blk 0 (.loop (.seq (.reg [Aj .lss 17 16 15]) (.seq (.ite (.t 17) .skip (.exit 0)) (.seq (.blk 1 (.seq (.reg [Ai 18 3 14 16,Ag 19 3 18,Au 5 (.alloc [(.i .i64 0),(.i .i64 0),(.i .i64 0)]),As 3 5 19]) (.seq (.reg [Ag 20 3 5,Au 21 (.call L24 [.t 20]),An 22 0 21,Ac 23 0]) (.blk 2 (.loop (.seq
 (.reg [Aj .lss 24 23 22]) (.seq (.ite (.t 24) .skip (.exit 2)) (.seq (.blk 3 (.seq (.reg [Ai 25 2 21 23,Ag 26 2 25,Au 7 (.alloc [(.i .i64 0),(.i .i64 0)]),As 2 7 26]) (.reg [Am 27 3,Ag 28 2 7,⟨none,none,.eqa [1,1] false (.t 28) (.t 28)⟩,Au 29 (.lk [1,1] (.i .i64 0) false (.t 27) (.t 28)),Ad 30 29 1,Au 31 (.ment [1,1] (.i .i64 0) (.t 27) (.t 28)),Ax1 32 1 31,⟨none,none,.est (.t 27) (.t 32) (.t 30)⟩]))) (.reg [Ad 33 23 1,Am 23 33]))))))))) (.reg [Ad 34 16 1,Am 16 34]))))))) (.seq (.reg [Am 35 3,Am 2 35]) .ret)))))
def L23.r:List Rr:=[.tmp 2]
abbrev L23.n:Nat:=36
def L26.c:C :=(.seq (.reg [Au 1 (.box (.t 0)),Au 2 (.alloc [(.i .i64 0),(.i .i64 0)])]) (.seq (.reg [Af 3 1 1,Al 4 3,Af 5 0 1,Al 6 5,Au 7 (.build [(.i .i64 0),(.i .i64 0)] [(0,1,(.t 4)),(1,1,(.t 6))]),As 2 2 7]) .ret))
def L26.r:List Rr:=[.cell 2 (some 2)]
abbrev L26.n:Nat:=8
def L24.c:C :=(.seq (.reg [Au 1 (.box (.t 0)),Az 2]) (.seq (.reg [Az 3]) (.seq (.seq (.reg [Af 6 0 1,Al 7 6,Af 8 1 1,Al 9 8,Au 10 (.build [(.i .i64 0),(.i .i64 0)] [(0,1,(.t 7)),(1,1,(.t 9))]),Af 11 1 1,Al 12 11,Af 13 2 1,Al 14 13,Au 15 (.build [(.i .i64 0),(.i .i64 0)] [(0,1,(.t 12)),(1,1,(.t 14))]),Af 16 2 1,Al 17 16,Af 18 0 1,Al 19 18,Au 20 (.build [(.i .i64 0),(.i .i64 0)] [(0,1,(.t 17)),(1,1,(.t 19))]),Au 21 (.build [(.i .i64 0),(.i .i64 0),(.i .i64 0),(.i .i64 0),(.i .i64 0),(.i .i64 0)] [(0,2,(.t 10)),(2,2,(.t 15)),(4,2,(.t 20))]),Ac 22 0]) (.blk 0 (.loop (.seq (.reg [Ak .lss 23 22 3]) (.seq
 (.ite (.t 23) .skip (.exit 0)) (.seq (.blk 1 (.seq (.reg [Au 24 (.ix 3 2 (some 2) (.t 21) (.t 22)),Au 5 (.alloc [(.i .i64 0),(.i .i64 0)]),As 2 5 24]) (.seq (.reg [Af 25 0 5,Al 26 25,Af 27 1 5,Al 28 27,Aj .neq 29 26 28]) (.ite (.t 29) (.reg [Am 30 3,Ag 31 2 5,Au 32 (.bsi 2 1 [(.i .i64 0),(.i .i64 0)] [(0,(.t 31))]),Au 33 (.app 2 16 (.t 30) (.t 32)),Am 3 33]) .skip)))) (.reg [Ad 34 22 1,Am 22 34]))))))) (.seq (.reg [Am 35 3,Am 2 35]) .ret))))
def L24.r:List Rr:=[.tmp 2]
abbrev L24.n:Nat:=36
def L27.c:C :=(.seq (.reg [Au 1 (.box (.t 0)),Au 2 (.alloc [(.i .i64 0),(.i .i64 0)])]) (.seq (.reg [Af 3 0 1,Al 4 3,Af 5 1 1,Al 6 5,Au 7 (.mn [.t 4,.t 6]),Af 8 0 1,Al 9 8,Af 10 1 1,Al 11 10,Au 12 (.mx [.t 9,.t 11]),Au 13 (.build [(.i .i64 0),(.i .i64 0)] [(0,1,(.t 7)),(1,1,(.t 12))]),As 2 2 13]) .ret))
def L27.r:List Rr:=[.cell 2 (some 2)]
abbrev L27.n:Nat:=14
def L25.c (L00 L01:FuncId):C :=(.seq (.reg [Au 2 (.box (.t 0)),Au 3 (.box (.t 1)),Ac 4 0]) (.seq (.drw [Af 5 0 2,Al 6 5,Af 7 0 3,Al 8 7,Au 9 (.call L00 [.t 6,.t 8]),Af 10 1 2,Al 11 10,Af 12 1 3,Al 13 12,Au 14 (.call L00 [.t 11,.t 13]),Au 15 (.bsi 1 2 [(.i .i64 0)] [(0,(.t 9)),(1,(.t 14))]),Au 16 (.call L01 [.t 15]),Am 4 16] [[],[],[],[],[],[4],[4],[4],[4],[],[],[],[]]) .ret))
def L25.r:List Rr:=[.tmp 4]
abbrev L25.n:Nat:=17
def L20.c (L23 L26 slices_SortFunc_api_Edge_api_Edge L25:FuncId):C :=(.seq (.reg [Au 1 (.box (.t 0)),Az 2]) (.seq (.reg [Ag 7 2 1,Au 8 (.call L23 [.t 7]),Am 3 8]) (.seq (.reg [Az 4]) (.seq (.seq (.reg [Am 9 3,Au 10 (.mrng (.t 9))]) (.blk 0 (.loop (.seq (.reg [Au 11 (.mnx (.t 10)),Ax1 12 0 11]) (.seq (.ite (.t 12) .skip (.exit 0)) (.blk 1 (.seq (.reg [Au 13 (.men (.t 10)),Ax1 14 0 13,Ax1 15 1 13,Au 5 (.alloc [(.i .i64 0),(.i .i64 0)]),As 2 5 14,Am 6 15]) (.seq (.reg [Am 16 6,Am 17 3,Ag 18 2 5,Au 19 (.call L26 [.t 18]),Au 20 (.lk [1,1] (.i .i64 0) false (.t 17) (.t 19)),Aj .gtr 21 16 20]) (.ite (.t 21)
 (.reg [Am 22 4,Ag 23 2 5,Au 24 (.bsi 2 1 [(.i .i64 0),(.i .i64 0)] [(0,(.t 23))]),Au 25 (.app 2 16 (.t 22) (.t 24)),Am 4 25]) .skip))))))))) (.seq (.reg [Am 26 4,Au 27 (.call slices_SortFunc_api_Edge_api_Edge [.t 26,(.c (.f L25 []))])]) (.seq (.reg [Am 28 4,Am 2 28]) .ret))))))
def L20.r:List Rr:=[.tmp 2]
abbrev L20.n:Nat:=29
def L21.c (L0c L20:FuncId):C :=(.seq (.reg [Au 1 (.box (.t 0)),Ab 2 false]) (.seq (.reg [Ag 3 2 1,Au 4 (.call L0c [.t 3]),Ak .eql 5 4 0,Am 6 5,Av 7 6 (.ld (some 2) (.t 1)),Av 8 6 (.call L20 [.t 7]),Av 9 6 (.len 0 (.t 8)),Av 10 6 (.bin .eql (.t 9) (.c (.i .i64 0))),Ap 11 6 10,Am 2 11]) .ret))
def L21.r:List Rr:=[.tmp 2]
abbrev L21.n:Nat:=12
def L22.c (L0c L24 L27 slices_Sort_int_int:FuncId):C :=(.seq (.reg [Au 1 (.box (.t 0)),Az 2]) (.seq (.seq (.reg [Ag 17 2 1,Au 18 (.call L0c [.t 17]),Ak .neq 19 18 0]) (.ite (.t 19) (.seq (.reg [Az 2]) .ret) .skip)) (.seq (.reg [Au 20 (.mkm none),Am 3 20]) (.seq (.seq (.reg [Af 21 1 1,Al 22 21,An 23 0 22,Ac 24 0]) (.blk 0 (.loop (.seq (.reg [Aj .lss 25 24 23]) (.seq (.ite (.t 25) .skip (.exit 0)) (.seq (.blk 1 (.seq (.reg [Am 26 24,Ai 27 3 22 24,Ag 28 3 27,Au 5 (.alloc [(.i .i64 0),(.i .i64 0),(.i .i64 0)]),Am 4 26,As 3 5 28]) (.seq (.reg [Ag 29 3 5,Au 30 (.call L24 [.t 29]),An 31 0 30,Ac 32 0])
 (.blk 2 (.loop (.seq (.reg [Aj .lss 33 32 31]) (.seq (.ite (.t 33) .skip (.exit 2)) (.seq (.blk 3 (.seq (.reg [Ai 34 2 30 32,Ag 35 2 34,Au 7 (.alloc [(.i .i64 0),(.i .i64 0)]),As 2 7 35]) (.drw [Am 36 3,Ag 37 2 7,Au 38 (.call L27 [.t 37]),Am 39 3,Ag 40 2 7,Au 41 (.call L27 [.t 40]),Au 42 (.lk [1,1] .nil false (.t 39) (.t 41)),Am 43 4,Au 44 (.bsi 1 1 [(.i .i64 0)] [(0,(.t 43))]),Au 45 (.app 1 8 (.t 42) (.t 44)),⟨none,none,.mup [1,1] (.t 36) (.t 38) (.t 45)⟩] [[],[],[],[],[2],[],[],[],[],[],[]]))) (.reg [Ad 46 32 1,Am 32 46]))))))))) (.reg [Ad 47 24 1,Am 24 47]))))))) (.seq (.reg [Az 8]) (.seq (.reg [
 Af 48 1 1,Al 49 48,An 50 0 49,Au 51 (.mks 1 1 [(.b false)] (.t 50)),Am 9 51]) (.seq (.seq (.reg [Af 52 1 1,Al 53 52,An 54 0 53,Ac 55 0]) (.blk 4 (.loop (.seq (.reg [Aj .lss 56 55 54]) (.seq (.ite (.t 56) .skip (.exit 4)) (.seq (.blk 5 (.seq (.reg [Am 57 55,Am 10 57]) (.seq (.seq (.reg [Am 58 9,Am 59 10,Ai 60 1 58 59,Al 61 60]) (.ite (.t 61) (.exit 5) .skip)) (.seq (.reg [Am 62 9,Am 63 10,Ai 64 1 62 63,⟨none,none,.st 1 (.t 64) (.c (.b true))⟩]) (.seq (.reg [Am 65 10,Au 66 (.bso 1 1 [(.i .i64 0)] [(0,(.t 65))]),Am 11 66]) (.seq (.seq (.reg [Ac 12 0]) (.blk 6 (.loop (.seq (.seq (.reg [Am 67 12,Am 68 11,
 An 69 0 68,Aj .lss 70 67 69]) (.ite (.t 70) .skip (.exit 6))) (.seq (.blk 7 (.seq (.drw [Af 73 1 1,Al 74 73,Am 75 11,Am 76 12,Ai 77 1 75 76,Al 78 77,Ai 79 3 74 78,Ag 80 3 79,Au 81 (.call L24 [.t 80]),An 82 0 81,Ac 83 0] []) (.blk 8 (.loop (.seq (.reg [Aj .lss 84 83 82]) (.seq (.ite (.t 84) .skip (.exit 8)) (.seq (.blk 9 (.seq (.reg [Ai 85 2 81 83,Ag 86 2 85,Au 14 (.alloc [(.i .i64 0),(.i .i64 0)]),As 2 14 86]) (.seq (.reg [Am 87 3,Ag 88 2 14,Au 89 (.call L27 [.t 88]),Au 90 (.lk [1,1] .nil false (.t 87) (.t 89)),An 91 0 90,Ac 92 0]) (.blk 10 (.loop (.seq (.reg [Aj .lss 93 92 91]) (.seq (.ite (.t 93)
 .skip (.exit 10)) (.seq (.blk 11 (.seq (.reg [Ai 94 1 90 92,Al 95 94,Am 16 95]) (.seq (.reg [Am 96 9,Am 97 16,Ai 98 1 96 97,Al 99 98,Au 100 (.un .not (.t 99))]) (.ite (.t 100) (.seq (.reg [Am 101 9,Am 102 16,Ai 103 1 101 102,⟨none,none,.st 1 (.t 103) (.c (.b true))⟩]) (.reg [Am 104 11,Am 105 16,Au 106 (.bsi 1 1 [(.i .i64 0)] [(0,(.t 105))]),Au 107 (.app 1 8 (.t 104) (.t 106)),Am 11 107])) .skip)))) (.reg [Ad 108 92 1,Am 92 108]))))))))) (.reg [Ad 109 83 1,Am 83 109])))))))) (.reg [Am 71 12,Ad 72 71 1,Am 12 72])))))) (.seq (.reg [Am 110 11,Au 111 (.call slices_Sort_int_int [.t 110])]) (.reg [Am 112 8,
 Am 113 11,Au 114 (.bso 1 1 [.nil] [(0,(.t 113))]),Au 115 (.app 1 24 (.t 112) (.t 114)),Am 8 115])))))))) (.reg [Ad 116 55 1,Am 55 116]))))))) (.seq (.reg [Am 117 8,Am 2 117]) .ret))))))))
def L22.r:List Rr:=[.tmp 2]
abbrev L22.n:Nat:=118
end Go.Abs
