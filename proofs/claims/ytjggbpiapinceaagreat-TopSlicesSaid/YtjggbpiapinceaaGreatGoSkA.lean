/- Part of the library on which the proof stands: an abstract machine, its values and its soundness against the model; or what functions of the program do to such values. -/
import Derived.Test.YtjggbpiapinceaaGreatGoSecE
import Derived.Test.YtjggbpiapinceaaGreatGoRw
import Derived.Test.YtjggbpiapinceaaGreatGoRevC
set_option linter.unusedVariables false
set_option linter.unusedSimpArgs false
set_option maxHeartbeats 4000000
set_option maxRecDepth 4000
namespace Go.Abs
def Jw (m:Mesh) (z:Int) (t:T3):Sg4:=Q6l z (m.v t.a) (m.v t.b) (m.v t.c)
def Zk (m:Mesh) (z:Int) (ts:List T3):List Sg4:=(ts.map (Jw m z)).filter (·.found)
def Xm (m:Mesh) (z:Int) (ts:List T3):List (List V):=(Zk m z ts).map Sg4.cs
def Y3 (m:Mesh) (z:Int):List Sg4 × Int:=if m.check=0 then (if z < -65536∨65536<z then ([],8) else (Zk m z m.tris,0)) else ([],m.check)
def secV (r:List Sg4 × Int):V:=.t [apV 4 (r.1.map Sg4.cs),.i .i64 r.2]
def secL (r:List Sg4 × Int):V:=.t [.l 4 (r.1.map Sg4.cs),.i .i64 r.2]
theorem secV_le (r:List Sg4 × Int):Le (secV r) (secL r):=.inr ⟨_,_,rfl,rfl,.inl (apV_le 4 _),Le1.refl _,trivial⟩
def SecC (P:Program) (f:FuncId):Prop:=∀(m:Mesh) (z:Int),CallIs P f [m.enc,.i .i64 z] (secL (Y3 m z))
theorem Qd1 {m:Mesh} {z:Int} {ts:List T3} {k:Nat} {t:T3} (h:ts[k]?=some t) :
  Xm m z (ts.take (k+1))=Xm m z (ts.take k)++(if (Jw m z t).found=true then [(Jw m z t).cs] else []):=by
 simp only[Xm,Zk,List.take_add_one,h,Option.toList_some,qx,List.map_cons,List.map_nil,List.filter_append,List.filter_cons,List.filter_nil]
 split<;>simp
theorem Qfy (m:Mesh) (z:Int) (ts:List T3):(Xm m z ts).length<=ts.length:=by
 simp only[Xm,Zk,List.length_map]
 exact Nat.le_trans (j9 _ _) (by simp)
theorem Qfz (m:Mesh) (z:Int) (ts:List T3):(∀x∈Xm m z ts,∀y∈x,y.isD=true)=True:=by
 simp[Xm,Sg4.cs,V.isD]
theorem Ql1 (m:Mesh) (z:Int) (ts:List T3) (n:Nat):(∀x∈Xm m z ts,∀y∈x,y.cl n=true)=True:=by
 simp[Xm,Sg4.cs,V.cl,V.cl1,V.cl0]
section
variable {P:Program} (hm:P.follows .mixedOrders=true)
include hm
theorem Q4y {f fc fk ft:FuncId} (hf:Qa P f (L1k.c fc fk ft) L1k.r L1k.n) (hc:Ys P fc) (hk:Q18 P fk) (ht:CutC P ft):SecC P f:=by
 intro m z
 refine CallIs.res ?_ (secV_le _)
 refine PureC.is (Q8 hm hf (qh rfl) ?_) rfl
 unfold L1k.c
 simp[go_sem,Mesh.enc,Mesh.cs,vsV,tsV]
 refine Q4 (hc m) ?_
 by_cases hz:m.check=0
 ·obtain⟨z1,z2,z3,z4⟩:=Mesh.check_zero.1 hz
  by_cases hr:z < -65536∨65536<z
  ·have hres:Y3 m z=([],8):=by simp only[Y3,hz,hr,if_true]
   rw[hres]
   simp +contextual -implicitDefEqProofs [go_sem,hz,L1k.r,secV,apV]
   intro h1 h2
   omega
  ·have hres:secV (Y3 m z)=.t [apV 4 (Xm m z m.tris),.i .i64 0]:=by simp only[Y3,hz,hr,if_true,if_false];rfl
   rw[hres]
   simp[go_sem,hz,show ¬ z < -65536 by omega,show ¬ 65536<z by omega]
   refine Qf (α:=Nat) (λk=>k<=m.tris.length)
    (λk=>apS 7 [(1,.i .i64 z),(2,.p 0 1 0 0),(28,.i .i64 m.tris.length),(29,.i .i64 k)] [.arr 1 2 [m.cs]] 4 4 (Xm m z (m.tris.take k)))
    (λk=>m.tris.length-k) 0 (Nat.zero_le _) ?_ ?_
   ·simp[go_sem,apS,Xm,Zk,Mesh.cs,vsV,tsV]
   ·intro k hk'
    have hlen:=Qfy m z (m.tris.take k)
    have hlen2:(m.tris.take k).length<=k:=by simp;omega
    cases hp:m.tris[k]? with
    | none =>
      have:¬ k<m.tris.length:=by simpa using hp
      obtain rfl:k=m.tris.length:=by omega
      rw[qi]
      have hd:=of_eq_true (Qfz m z m.tris)
      generalize hels:Xm m z m.tris=els at *
      by_cases he:els=[]
      ·simp[go_sem,apS,he,L1k.r,apV]
      ·simp[go_sem,apS,he,L1k.r,apV,qe]
       rw[if_pos hd]
       rfl
    | some t =>
      obtain⟨hlt,hp'⟩:=q8.1 hp
      have hsucc:=Qd1 (m:=m) (z:=z) hp
      have hcor:m.corners k=.t [(m.v t.a).enc,(m.v t.b).enc,(m.v t.c).enc,.b true]:=by
       simp only[Mesh.corners,hz,Int.toNat_natCast,hp,show (0:Int)<=k by omega,show (k:Int)<m.tris.length by omega,and_self,if_true]
      have hcut:CallIs P ft [.a ((m.v t.a).cs++(m.v t.b).cs++(m.v t.c).cs),.i .i64 z] (.t [.a (Jw m z t).cs,.b (Jw m z t).found]):=ht _ _ _ z
      have hcl:=of_eq_true (Ql1 m z (m.tris.take k) 6)
      generalize hels:Xm m z (m.tris.take k)=els at *
      by_cases he:els=[]
      ·subst he
       simp[go_sem,apS,hlt,Mesh.cs,vsV,tsV]
       refine Q4 (hk m k) ?_
       rw[hcor]
       simp[go_sem,V3.enc,vcs]
       simp only[vcs,List.cons_append,List.nil_append]at hcut
       refine Q4 hcut ?_
       cases hfo:(Jw m z t).found
       ·simp[go_sem,Sg4.cs]
        simp (disch:=omega) [go_sem,Q3]
        refine⟨k+1,by omega,by omega,?_⟩
        rw[hsucc]
        simp[go_sem,hfo,Mesh.cs,vsV,tsV]
       ·simp[go_sem,Sg4.cs]
        simp (disch:=omega) [go_sem,Q3]
        refine⟨k+1,by omega,by omega,?_⟩
        rw[hsucc]
        simp[go_sem,hfo,Mesh.cs,vsV,tsV,Sg4.cs]
      ·simp[go_sem,apS,hlt,Mesh.cs,vsV,tsV,he]
       refine Q4 (hk m k) ?_
       rw[hcor]
       simp[go_sem,V3.enc,vcs]
       simp only[vcs,List.cons_append,List.nil_append]at hcut
       refine Q4 hcut ?_
       cases hfo:(Jw m z t).found
       ·simp[go_sem,Sg4.cs]
        simp (disch:=omega) [go_sem,Q3]
        refine⟨k+1,by omega,by omega,?_⟩
        rw[hsucc]
        simp[go_sem,hfo,Mesh.cs,vsV,tsV,he]
        exact hcl
       ·simp[go_sem,Sg4.cs]
        simp (disch:=omega) [go_sem,Q3]
        refine⟨⟨by omega,by omega⟩,k+1,by omega,by omega,?_⟩
        rw[hsucc]
        simp[go_sem,hfo,Mesh.cs,vsV,tsV,he,Sg4.cs]
        rintro el (he | rfl) x hx
        ·exact hcl el he x hx
        ·simp at hx;rcases hx with rfl | rfl | rfl | rfl<;>rfl
 ·have hres:Y3 m z=([],m.check):=by simp only[Y3,hz,if_false]
  rw[hres]
  simp[go_sem,hz,L1k.r,secV,apV]
end
def Ig:List P2->List Eg
 | a::b::l=>(a,b)::Ig (b::l)
 | _=>[]
def Za:List P2->List Eg
 | []=>[]
 | a::l=>Ig (a::l++[a])
theorem Q59:∀(l:List P2) (a b:P2),Ig (l++[a]++[b])=Ig (l++[a])++[(a,b)]
 | [],a,b=>rfl
 | [c],a,b=>rfl
 | c::d::l,a,b=>by
   have:=Q59 (d::l) a b
   simp only[List.cons_append,Ig]at this ⊢
   rw[this]
theorem Q8o:∀l:List P2,(Ig l).length=l.length-1
 | []=>rfl
 | [a]=>rfl
 | a::b::l=>by
   have:=Q8o (b::l)
   simp only[Ig,List.length_cons]at this ⊢
   omega
theorem Q8p:∀(l:List P2) (i:Nat) (h:i+1<l.length),(Ig l)[i]?=some (l[i],l[i+1])
 | [],i,h=>by simp at h
 | [a],i,h=>by simp at h
 | a::b::l,0,h=>rfl
 | a::b::l,i+1,h=>by
   have:=Q8p (b::l) i (by simpa using h)
   simpa[Ig]using this
theorem Kz (l:List P2):(Za l).length=l.length:=by
 cases l with
 | nil=>rfl
 | cons a l=>unfold Za;rw[Q8o];simp
theorem Q8l {l:List P2} {i:Nat} (h:i<l.length):(Za l)[i]?=some (l[i],l[(i+1) % l.length]'(Nat.mod_lt _ (by omega))):=by
 cases l with
 | nil=>simp at h
 | cons a l =>
   unfold Za
   rw[Q8p (a::l++[a]) i (by simpa using h)]
   congr 2
   ·rw[List.getElem_append_left h]
   ·by_cases hi:i+1<(a::l).length
    ·rw[List.getElem_append_left hi]
     congr 1
     exact(Nat.mod_eq_of_lt hi).symm
    ·have he:i+1=(a::l).length:=by omega
     have h0:(i+1) % (a::l).length=0:=by rw[he,Nat.mod_self]
     simp only[h0,he]
     simp
def Ie (l:List P2) (k:Nat):List Eg:=(Za l).take k
theorem Qg2 {l:List P2} {k:Nat} (h:k<l.length):Ie l (k+1)=Ie l k++[(l[k],l[(k+1) % l.length]'(Nat.mod_lt _ (by omega)))]:=by
 unfold Ie
 rw[List.take_add_one,Q8l h];rfl
theorem Ql5 (l:List P2):Ie l l.length=Za l:=by
 unfold Ie
 rw[<- Kz l,qi]
theorem Ql6 (l:List P2):(Za l).map Prod.fst=l:=by
 apply qy
 intro i
 rw[qq]
 by_cases h:i<l.length
 ·rw[Q8l h,q9 h];rfl
 ·rw[qk (by rw[Kz];omega),qk (by omega)];rfl
structure Trail (f c:P2) (vs:List P2) (R E:List Eg):Prop where
 pm:(Ig (vs++[c])++R).Perm E
 hd:(vs++[c]).head? = some f
 bal:∀p:P2,R.countP (λe=>decide (e.1=p))+(if p=f then 1 else 0)=R.countP (λe=>decide (e.2=p))+(if p=c then 1 else 0)
theorem Trail.start {R:List Eg} (h:Q19 R) (f:P2):Trail f f [] R R:=⟨List.Perm.refl _,rfl,λp=>by rw[h p]⟩
theorem Trail.step {f c b:P2} {vs:List P2} {R R' E:List Eg} (h:Trail f c vs R E) (hp:R.Perm ((c,b)::R')):Trail f b (vs++[c]) R' E where
 pm:=by
  rw[Q59]
  refine List.Perm.trans ?_ h.pm
  rw[j3]
  exact List.Perm.append_left _ hp.symm
 hd:=by
  have:=h.hd
  cases vs<;>simpa using this
 bal p:=by
  have:=h.bal p
  rw[hp.countP_eq,hp.countP_eq,List.countP_cons,List.countP_cons]at this
  simp only[decide_eq_true_eq]at this
  by_cases h1:c=p<;>by_cases h2:b=p
  ·subst h1;subst h2;simp only[if_true]at this ⊢;omega
  ·subst h1
   simp only[if_true,if_neg h2,if_neg (show ¬ c=b from λhh=>h2 hh.symm)]at this ⊢;omega
  ·subst h2
   simp only[if_true,if_neg h1,if_neg (show ¬ b=c from λhh=>h1 hh.symm)]at this ⊢;omega
  ·simp only[if_neg h1,if_neg h2,if_neg (show ¬ p=b from λhh=>h2 hh.symm),if_neg (show ¬ p=c from λhh=>h1 hh.symm)]at this ⊢;omega
theorem Trail.more {f c:P2} {vs:List P2} {R E:List Eg} (h:Trail f c vs R E) (hc:c≠f):∃e∈R,e.1=c:=by
 have:=h.bal c
 rw[if_neg hc,if_pos rfl]at this
 have hp:0<R.countP λe=>decide (e.1=c):=by omega
 obtain⟨e,he,h2⟩:=List.countP_pos_iff.1 hp
 exact⟨e,he,by simpa using h2⟩
theorem Trail.close {f:P2} {vs:List P2} {R E:List Eg} (h:Trail f f vs R E) (hn:vs≠[]):Q19 R/\(Za vs++R).Perm E:=by
 refine⟨λp=>by have:=h.bal p;omega,?_⟩
 have h1:=h.pm
 cases vs with
 | nil=>exact absurd rfl hn
 | cons a l =>
   have:=h.hd
   simp at this
   subst this
   exact h1
def Sg4.eg (s:Sg4):Eg:=(⟨s.a.1,s.a.2⟩,⟨s.b.1,s.b.2⟩)
def egs (l:List Sg4):List Eg:=l.map Sg4.eg
def neE (es:List Eg):List Eg:=es.filter λe=>decide (e.1≠e.2)
theorem neE_bal {es:List Eg} (h:Q19 es):Q19 (neE es):=by
 intro p
 have h1:∀(l:List Eg),l.countP (λe=>decide (e.1=p))=(neE l).countP (λe=>decide (e.1=p))+l.countP (λe=>decide (e.1=p/\e.2=p))/\l.countP (λe=>decide (e.2=p))=(neE l).countP (λe=>decide (e.2=p))+l.countP (λe=>decide (e.1=p/\e.2=p)):=by
  intro l
  induction l with
  | nil=>exact⟨rfl,rfl⟩
  | cons e l ih =>
    obtain⟨i1,i2⟩:=ih
    unfold neE at *
    simp only[ne_eq]at i1 i2 ⊢
    rw[List.filter_cons]
    obtain⟨u,v⟩:=e
    by_cases hne:u=v
    ·subst hne
     simp only[List.countP_cons,ne_eq,not_true_eq_false,decide_false,Bool.false_eq_true,if_false,decide_eq_true_eq,and_self]
     omega
    ·rw[if_pos (by simpa using hne)]
     simp only[List.countP_cons,decide_eq_true_eq]
     by_cases hu:u=p
     ·have hv:¬ v=p:=λhv=>hne (hu.trans hv.symm)
      simp only[if_pos hu,if_neg hv,if_neg (λhh:u=p/\v=p=>hv hh.2)]
      exact⟨by omega,by omega⟩
     ·simp only[if_neg hu,if_neg (λhh:u=p/\v=p=>hu hh.1)]
      exact⟨by omega,by omega⟩
 have:=h p
 obtain⟨a,b⟩:=h1 es
 omega
def Qw (ps:List (List P2)):V:=.l 1 (ps.map λp=>[psV p])
def E5.cs (e:E5):List V:=[.i .i64 e.lo.x,.i .i64 e.lo.y,.i .i64 e.hi.x,.i .i64 e.hi.y,.i .i64 e.sg]
def E5.ints (e:E5):List Int:=[e.lo.x,e.lo.y,e.hi.x,e.hi.y,e.sg]
def e5V (l:List E5):V:=.l 5 (l.map E5.cs)
structure E5B (e:E5):Prop where
 a1:-65536<=e.lo.x
 a2:e.lo.x<=65536
 b1:-65536<=e.lo.y
 b2:e.lo.y<=65536
 c1:-65536<=e.hi.x
 c2:e.hi.x<=65536
 d1:-65536<=e.hi.y
 d2:e.hi.y<=65536
 up:e.lo.y<e.hi.y
 s1:-1<=e.sg
 s2:e.sg<=1
structure PitchOk (k:Int):Prop where
 lo:32<=k
 hi:k<=1024
 ev:k % 2=0
theorem Qgq {es:List Eg} (h:EgB es 65536) {e:E5} (he:e∈es.filterMap Bg):E5B e:=by
 obtain⟨s,hs,h1⟩:=List.mem_filterMap.1 he
 obtain⟨a,b,c,d⟩:=h s hs
 unfold Bg at h1
 split at h1
 ·obtain rfl:=Option.some.inj h1
  constructor<;>simp only[]<;>omega
 ·split at h1
  ·obtain rfl:=Option.some.inj h1
   constructor<;>simp only[]<;>omega
  ·simp at h1
def Qc9 (P:Program) (f:FuncId):Prop:=∀(e:E5) (cy k:Int),E5B e->PitchOk k->e.lo.y<=cy->cy<e.hi.y->CallIs P f [.a e.cs,.i .i64 cy,.i .i64 k] (.a [.i .i64 (Q83 k cy e),.i .i64 e.sg])
def CenC (P:Program) (f:FuncId):Prop:=∀y k:Int,-10000<=y->y<=10000->PitchOk k->CallIs P f [.i .i64 y,.i .i64 k] (.i .i64 (y*k+k / 2))
theorem quoK {k:Int} (h:PitchOk k):k.tdiv 2=k / 2:=by
 rw[Int.tdiv_eq_ediv_of_nonneg];have:=h.lo;omega
theorem Qs0 {e:E5} {cy k:Int} (h:E5B e) (hk:PitchOk k) (h1:e.lo.y<=cy) (h2:cy<e.hi.y) :
  (-17179869184<=e.lo.x*(e.hi.y-e.lo.y)/\e.lo.x*(e.hi.y-e.lo.y)<=17179869184)/\(-17179869184<=(e.hi.x-e.lo.x)*(cy-e.lo.y)/\(e.hi.x-e.lo.x)*(cy-e.lo.y)<=17179869184) /\
  (0<=k / 2*(e.hi.y-e.lo.y)/\k / 2*(e.hi.y-e.lo.y)<=134217728)/\(0<k*(e.hi.y-e.lo.y)/\k*(e.hi.y-e.lo.y)<=134217728):=by
 obtain⟨a1,a2,b1,b2,c1,c2,d1,d2,up,_,_⟩:=h
 obtain⟨k1,k2,_⟩:=hk
 have m1:=Q21 (a:=e.lo.x) (b:=e.hi.y-e.lo.y) (k:=65536) (m:=131072) (by omega) (by omega)
 have m2:=Q21 (a:=e.hi.x-e.lo.x) (b:=cy-e.lo.y) (k:=131072) (m:=131072) (by omega) (by omega)
 have m3:=Q21 (a:=k / 2) (b:=e.hi.y-e.lo.y) (k:=512) (m:=131072) (by omega) (by omega)
 have m4:=Q21 (a:=k) (b:=e.hi.y-e.lo.y) (k:=1024) (m:=131072) (by omega) (by omega)
 have p3:0<=k / 2*(e.hi.y-e.lo.y):=Int.mul_nonneg (by omega) (by omega)
 have p4:0<k*(e.hi.y-e.lo.y):=Int.mul_pos (by omega) (by omega)
 refine⟨⟨?_,?_⟩,⟨?_,?_⟩,⟨p3,?_⟩,p4,?_⟩<;>omega
theorem Qsi {e:E5} {cy k:Int} (h:E5B e) (hk:PitchOk k) (h1:e.lo.y<=cy) (h2:cy<e.hi.y):-100000000000<=Q83 k cy e/\Q83 k cy e<=100000000000:=by
 obtain⟨m1,m2,m3,m4⟩:=Qs0 h hk h1 h2
 unfold Q83 Qmc
 generalize e.lo.x*(e.hi.y-e.lo.y)=A at *
 generalize (e.hi.x-e.lo.x)*(cy-e.lo.y)=B at *
 generalize k / 2*(e.hi.y-e.lo.y)=C at *
 generalize k*(e.hi.y-e.lo.y)=D at *
 have h3:(-(A+B-C)) / D<=90000000000:=by
  by_cases hn:0<=-(A+B-C)
  ·exact Int.le_trans (Int.ediv_le_self _ hn) (by omega)
  ·have:(-(A+B-C)) / D<0:=Int.ediv_neg_of_neg_of_pos (by omega) m4.1
   omega
 have h4:-90000000000<=(-(A+B-C)) / D:=by
  rw[Int.le_ediv_iff_mul_le m4.1]
  have:-90000000000*D<=-90000000000*1:=Int.mul_le_mul_of_nonpos_left (by omega) (by omega)
  omega
 omega
section
variable {P:Program} (hm:P.follows .mixedOrders=true)
include hm
theorem Q1n {f:FuncId} (hf:Qa P f L0v.c L0v.r L0v.n):CenC P f:=by
 intro y k h1 h2 hk
 obtain⟨k1,k2,k3⟩:=hk
 refine PureC.is (Q8 hm hf (qh rfl) ?_) rfl
 unfold L0v.c
 have m1:=Q21 (a:=y) (b:=k) (k:=10000) (m:=1024) (by omega) (by omega)
 have hq:=quoK ⟨k1,k2,k3⟩
 generalize hA:y*k=A at *
 have w1:IntKind.i64.wrap A=A:=Q3 (by omega) (by omega)
 have w2:IntKind.i64.wrap (k / 2)=k / 2:=Q3 (by omega) (by omega)
 have w3:IntKind.i64.wrap (A+k / 2)=A+k / 2:=Q3 (by omega) (by omega)
 simp[go_sem,hq,hA,w1,w2,w3,L0v.r]
theorem Q39 {f fl:FuncId} (hf:Qa P f (L0x.c fl) L0x.r L0x.n) (hl:Qc6 P fl):Qc9 P f:=by
 intro e cy k he hk h1 h2
 obtain⟨m1,m2,m3,m4⟩:=Qs0 he hk h1 h2
 have hb:=Qsi he hk h1 h2
 have hq:=quoK hk
 obtain⟨a1,a2,b1,b2,c1,c2,d1,d2,up,_,_⟩:=he
 obtain⟨k1,k2,k3⟩:=hk
 refine PureC.is (Q8 hm hf (qh rfl) ?_) rfl
 unfold L0x.c
 have w1:IntKind.i64.wrap (e.hi.y-e.lo.y)=e.hi.y-e.lo.y:=Q3 (by omega) (by omega)
 have w2:IntKind.i64.wrap (e.hi.x-e.lo.x)=e.hi.x-e.lo.x:=Q3 (by omega) (by omega)
 have w3:IntKind.i64.wrap (cy-e.lo.y)=cy-e.lo.y:=Q3 (by omega) (by omega)
 have w4:IntKind.i64.wrap (k / 2)=k / 2:=Q3 (by omega) (by omega)
 unfold Q83 Qmc at hb ⊢
 generalize hA:e.lo.x*(e.hi.y-e.lo.y)=A at *
 generalize hB:(e.hi.x-e.lo.x)*(cy-e.lo.y)=B at *
 generalize hC:k / 2*(e.hi.y-e.lo.y)=C at *
 generalize hD:k*(e.hi.y-e.lo.y)=D at *
 have x1:IntKind.i64.wrap A=A:=Q3 (by omega) (by omega)
 have x2:IntKind.i64.wrap B=B:=Q3 (by omega) (by omega)
 have x3:IntKind.i64.wrap C=C:=Q3 (by omega) (by omega)
 have x4:IntKind.i64.wrap D=D:=Q3 (by omega) (by omega)
 have x5:IntKind.i64.wrap (A+B)=A+B:=Q3 (by omega) (by omega)
 have x6:IntKind.i64.wrap (A+B-C)=A+B-C:=Q3 (by omega) (by omega)
 have x7:IntKind.i64.wrap (-(A+B-C))=-(A+B-C):=Q3 (by omega) (by omega)
 have hl1:=hl (-(A+B-C)) D (by omega) (by omega) (by omega) (by omega)
 generalize (-(A+B-C)) / D=Q at *
 have x8:IntKind.i64.wrap (-Q)=-Q:=Q3 (by omega) (by omega)
 generalize hS:A+B-C=S at *
 simp[go_sem,E5.cs,w1,w2,w3,w4,hq,hA,hB,hC,hD,x1,x2,x3,x4,x5,x6,hS,x7]
 refine Q4 hl1 ?_
 simp[go_sem,x8,L0x.r]
 done
end
def Yt (l:List Sg4):V:=.l 4 (l.map Sg4.cs)
theorem rnd_in {n d k:Int} (hd:0<d) (h1:0<=n) (h2:n<=k*d):0<=rnd n d/\rnd n d<=k:=by
 unfold rnd
 refine⟨Int.ediv_nonneg (by omega) (by omega),?_⟩
 have h4:k*(2*d)=2*(k*d):=by rw[Int.mul_left_comm]
 have h3:(2*n+d) / (2*d)<k+1:=Int.ediv_lt_of_lt_mul (by omega) (by rw[Int.add_mul];omega)
 omega
theorem rnd_in' {n d k:Int} (hd:0<d) (h1:n<=0) (h2:-(k*d)<=n):-k<=rnd n d/\rnd n d<=0:=by
 unfold rnd
 constructor
 ·refine Int.le_ediv_of_mul_le (by omega) ?_
  have:-k*(2*d)=-(2*(k*d)):=by rw[Int.neg_mul,Int.mul_left_comm]
  omega
 ·have h3:(2*n+d) / (2*d)<1:=Int.ediv_lt_of_lt_mul (by omega) (by omega)
  omega
theorem Qbg {c0 c1 z0 z1 z:Int} (h1:z0<=z) (h2:z<z1):min c0 c1<=Q81 c0 c1 z0 z1 z/\Q81 c0 c1 z0 z1 z<=max c0 c1:=by
 unfold Q81
 by_cases h:c0<=c1
 ·have h3:=rnd_in (n:=(c1-c0)*(2*z+1-2*z0)) (d:=2*(z1-z0)) (k:=c1-c0) (by omega) (Int.mul_nonneg (by omega) (by omega)) (jg (by omega) (by omega))
  omega
 ·have h4:(c1-c0)*(2*z+1-2*z0)=-((c0-c1)*(2*z+1-2*z0)):=by rw[<- Int.neg_mul];congr 1;omega
  have h5:0<=(c0-c1)*(2*z+1-2*z0):=Int.mul_nonneg (by omega) (by omega)
  have h6:(c0-c1)*(2*z+1-2*z0)<=(c0-c1)*(2*(z1-z0)):=jg (by omega) (by omega)
  have h3:=rnd_in' (n:=(c1-c0)*(2*z+1-2*z0)) (d:=2*(z1-z0)) (k:=c0-c1) (by omega) (by omega) (by omega)
  omega
def Qjs (l:List Sg4):Prop:=l.length<=4096/\EgB (egs l) 65536
def PtB (p:Int × Int):Prop:=(-65536<=p.1/\p.1<=65536)/\-65536<=p.2/\p.2<=65536
theorem V3.val_iff {v:V3}:v.valid=true↔(-65536<=v.x/\v.x<=65536)/\(-65536<=v.y/\v.y<=65536)/\-65536<=v.z/\v.z<=65536:=by
 unfold V3.valid V3.within
 simp[and_assoc]
theorem Q07 {a b:V3} {z:Int} {p:Int × Int} (h:point a b z=some p):PtB p:=by
 unfold point at h
 split at h
 ·rename_i hh
  obtain⟨ha,hb,h1,h2⟩:=hh
  obtain rfl:=Option.some.inj h
  have a1:=V3.val_iff.1 ha
  have b1:=V3.val_iff.1 hb
  have x:=Qbg (c0:=a.x) (c1:=b.x) h1 h2
  have y:=Qbg (c0:=a.y) (c1:=b.y) h1 h2
  unfold PtB
  simp only[]
  omega
 ·simp at h
theorem Q9s {z:Int} {s:Sg4} {u v:V3} (ha:PtB s.a) (hb:PtB s.b):PtB (s.step z u v).a/\PtB (s.step z u v).b:=by
 unfold Sg4.step
 cases h1:point u v z<;>cases h2:point v u z<;>simp only[]
 ·exact⟨ha,hb⟩
 ·exact⟨Q07 h2,hb⟩
 ·exact⟨ha,Q07 h1⟩
 ·exact⟨Q07 h2,Q07 h1⟩
theorem cut3_bd (z:Int) (a b c:V3):PtB (Q6l z a b c).a/\PtB (Q6l z a b c).b:=by
 have h0:PtB Sg4.init.a/\PtB Sg4.init.b:=by unfold PtB Sg4.init;simp
 have h1:=Q9s (z:=z) (u:=a) (v:=b) h0.1 h0.2
 have h2:=Q9s (z:=z) (u:=b) (v:=c) h1.1 h1.2
 exact Q9s (z:=z) (u:=c) (v:=a) h2.1 h2.2
theorem segs_bd (m:Mesh) (z:Int) (ts:List T3):EgB (egs (Zk m z ts)) 65536:=by
 intro e he
 obtain⟨s,hs,rfl⟩:=qp.1 he
 obtain⟨h1,_⟩:=qv.1 hs
 obtain⟨t,_,rfl⟩:=qp.1 h1
 obtain⟨h2,h3⟩:=cut3_bd z (m.v t.a) (m.v t.b) (m.v t.c)
 exact⟨h2.1,h2.2,h3.1,h3.2⟩
theorem sec_ok (m:Mesh) (z:Int):Qjs (Y3 m z).1:=by
 unfold Y3
 split
 ·rename_i hz
  split
  ·exact⟨by simp,by intro e he;simp[egs]at he⟩
  ·refine⟨?_,segs_bd _ _ _⟩
   have h1:=(Mesh.check_zero.1 hz).2.1
   have h2:(Zk m z m.tris).length<=m.tris.length:=by
    unfold Zk
    exact Nat.le_trans (j9 _ _) (by simp)
   exact Nat.le_trans h2 h1
 ·exact⟨by simp,by intro e he;simp[egs]at he⟩
def Xn (n lo hi:Int):Bool:=decide (lo<=n) && decide (n<=hi) && decide (n % 2=0)
noncomputable def Wn (m:Mesh) (z k:Int):List Rw × Int :=
 open Classical in
 if Xn k 32 1024=false then ([],1) else if (Y3 m z).2≠0 then ([],(Y3 m z).2) else if Q19 (egs (Y3 m z).1) then (W2 (egs (Y3 m z).1) k,0) else ([],12)
theorem Qow (m:Mesh) (z k:Int):RgV (Wn m z k).1/\RgB (Wn m z k).1:=by
 unfold Wn
 split
 ·exact⟨RgV.nil,RgB.nil⟩
 ·split
  ·exact⟨RgV.nil,RgB.nil⟩
  ·split
   ·exact⟨Qev _,Qsd _⟩
   ·exact⟨RgV.nil,RgB.nil⟩
end Go.Abs
