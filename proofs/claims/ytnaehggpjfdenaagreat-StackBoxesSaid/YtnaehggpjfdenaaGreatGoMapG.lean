/- Part of the library on which the proof stands: an abstract machine, its values and its soundness against the model; or what functions of the program do to such values. -/
import Derived.Test.YtnaehggpjfdenaaGreatGoRsF
import Derived.Test.YtnaehggpjfdenaaGreatGoTpD
import Derived.Test.YtnaehggpjfdenaaGreatGoRw
import Derived.Test.YtnaehggpjfdenaaGreatGoSecD
import Derived.Test.YtnaehggpjfdenaaGreatAbsCP
import Derived.Test.YtnaehggpjfdenaaGreatGoMap
set_option linter.unusedVariables false
set_option linter.unusedSimpArgs false
set_option maxHeartbeats 8000000
set_option maxRecDepth 20000
namespace Go.Abs
def Rw.cs (w:Rw):List V:=[.i .i64 w.y,Qj w.rs]
def rgV (g:List Rw):V:=.a [.l 2 (g.map Rw.cs)]
theorem Qdb (l:List Rw):∀w∈l,∀y∈w.cs,y.isD=true:=λw _ y hy=>by
 simp[Rw.cs]at hy
 rcases hy with rfl | rfl<;>rfl
theorem Q7k (l:List Rw) (n:Nat):∀w∈l,∀x∈w.cs,x.cl n=true:=λw hw x hx=>K1 n (Qdb l w hw x hx)
def Ky (F:Int->List Rn) (a:Int) (n:Nat):List Rw:=((List.range n).map λ(j:Nat)=>Rw.mk (a+j) (F (a+j))).filter λw=>decide (w.rs≠[])
theorem Qdc (F:Int->List Rn) (a:Int) (n:Nat):Ky F a (n+1)=Ky F a n++(if F (a+n)=[] then [] else [⟨a+n,F (a+n)⟩]):=by
 unfold Ky
 rw[List.range_succ,qy,List.filter_append]
 congr 1
 by_cases h:F (a+n)=[]
 ·simp[h]
 ·simp[h]
theorem Qhw (F:Int->List Rn) (a:Int) (n:Nat):(Ky F a n).length<=n:=by
 unfold Ky
 refine Nat.le_trans (ja _ _) ?_
 simp
theorem mem_rowsT {F:Int->List Rn} {a:Int} {n:Nat} {w:Rw}:w∈Ky F a n↔(∃j:Nat,j<n/\w=⟨a+j,F (a+j)⟩)/\w.rs≠[]:=by
 unfold Ky
 rw[qw,qq]
 simp only[j3,decide_eq_true_eq]
 constructor
 ·rintro⟨⟨j,h1,rfl⟩,h2⟩;exact⟨⟨j,h1,rfl⟩,h2⟩
 ·rintro⟨⟨j,h1,rfl⟩,h2⟩;exact⟨⟨j,h1,rfl⟩,h2⟩
theorem rowsT_v {F:Int->List Rn} {a:Int} {n:Nat} (h:∀j:Nat,j<n->RnsV (F (a+j))):RgV (Ky F a n):=by
 refine⟨λw hw=>?_,λw hw=>(mem_rowsT.1 hw).2,?_⟩
 ·obtain⟨⟨j,hj,rfl⟩,_⟩:=mem_rowsT.1 hw
  exact h j hj
 ·unfold Ky
  refine List.Pairwise.filter _ ?_
  rw[jf]
  exact List.pairwise_lt_range.imp λ{a b} h=>by simp only[];omega
theorem Qn7 {F:Int->List Rn} {a:Int} {n:Nat} {y x:Int}:Wf (Ky F a n) y x↔(a<=y/\y<a+n)/\Qf (F y) x:=by
 unfold Wf
 constructor
 ·rintro⟨w,hw,rfl,hx⟩
  obtain⟨⟨j,hj,rfl⟩,_⟩:=mem_rowsT.1 hw
  exact⟨by simp only[];omega,hx⟩
 ·rintro⟨⟨h1,h2⟩,hx⟩
  refine⟨⟨y,F y⟩,mem_rowsT.2 ⟨⟨(y-a).toNat,by omega,?_⟩,?_⟩,rfl,hx⟩
  ·rw[show a+((y-a).toNat:Int)=y by omega]
  ·rintro h0
   simp only at h0
   rw[h0]at hx
   exact Qk _ hx
theorem Qgy {l l':List E5} (h:l.Perm l') (k cy:Int):(Zp l k cy).Perm (Zp l' k cy):=(h.filter _).map _
theorem Qlg {es:List Eg} {l:List E5} {k:Int} (hB:EgB es 65536) (hl:l.Perm (K0 es)) (hs:l.Pairwise λa b=>a.lo.y<=b.lo.y) (hk:PitchOk k) {F:Int->List Rn}
  (hF:∀y,-10000<=y->y<=10000->RnsV (F y)/\∀x,Qf (F y) x↔(-4096<=x/\x<4096)/\0<Yp (Zp l k (y*k+k / 2)) x):Ky F (Zw l k).1 (Zw l k).2.toNat=Ui es k:=by
 have hlB:∀e∈l,E5B e:=λe he=>Qdx hB (hl.mem_iff.1 he)
 obtain⟨r1,r2,r3,r4⟩:=Q65 hlB hs hk
 generalize Zw l k=an at *
 obtain⟨a,n⟩:=an
 simp only at r1 r2 r3 r4 ⊢
 unfold Ui
 refine Q6x (rowsT_v λj hj=>(hF _ (by omega) (by omega)).1) λy x=>?_
 have hsum:Yp (Zp (es.filterMap El) k (y*k+k / 2)) x=Yp (Zp l k (y*k+k / 2)) x:=(Q2w (Qgy hl k _) x).symm
 rw[Qn7,decide_eq_true_eq,Q9v (by have:=hk.lo;omega),hsum]
 constructor
 ·rintro⟨⟨h1,h2⟩,hx⟩
  obtain⟨h3,h4⟩:=((hF y (by omega) (by omega)).2 x).1 hx
  exact⟨by omega,h3,h4⟩
 ·rintro⟨⟨h1,h2⟩,h3,h4⟩
  refine⟨?_,((hF y (by omega) (by omega)).2 x).2 ⟨h3,h4⟩⟩
  have h5:∃e∈l,onE (y*k+k / 2) e=true:=by
   refine Classical.byContradiction λhn=>?_
   have h6:Zp l k (y*k+k / 2)=[]:=by
    unfold Zp
    rw[List.filter_eq_nil_iff.2]
    ·rfl
    ·intro e he ho
     exact hn ⟨e,he,ho⟩
   rw[h6,J4]at h4
   omega
  have:=r4 y h1 h2 h5
  omega
noncomputable def Km (ps:List (List P2)) (k:Int):List Rw × Int:=if Zf k 32 1024=false then ([],1) else (Ui (ps.flatMap Z7) k,0)
def Q9e (P:Program) (f:FuncId):Prop:=∀(ps:List (List P2)) (k:Int),PolyOk ps->CallIs P f [Qs ps,.i .i64 k] (.t [rgV (Km ps k).1,.i .i64 (Km ps k).2])
section
variable {P:Program} (hm:P.follows .mixedOrders=true)
include hm
theorem Bx {f fc fe fr fw:FuncId} (hf:Q9 P f (L0l.c fc fe fr fw) L0l.r L0l.n) (hc:Q9r P fc) (he:Q9l P fe) (hr:Qph P fr) (hw:Qpi P fw):Q9e P f:=by
 intro ps k hps
 have hcc:=hc ps k hps
 cases hev:Zf k 32 1024 with
 | false =>
   rw[hev]at hcc
   have hR:Km ps k=([],1):=by unfold Km;rw[if_pos hev]
   rw[hR]
   refine CallIs.res (r:=.t [.a [.nil],.i .i64 1]) ?_ (.inr ⟨_,_,rfl,rfl,.inr ⟨_,_,rfl,rfl,Le0.nil 2,trivial⟩,Le1.refl _,trivial⟩)
   refine PureC.is (Q8 hm hf (qj rfl) ?_) rfl
   unfold L0l.c
   simp[go_sem,Qs]
   refine Q5 hcc ?_
   simp[go_sem,L0l.r]
   done
 | true =>
   rw[hev]at hcc
   have hk:PitchOk k:=by
    unfold Zf at hev
    simp only[Bool.and_eq_true,decide_eq_true_eq]at hev
    exact⟨hev.1.1,hev.1.2,hev.2⟩
   have hR:Km ps k=(Ui (ps.flatMap Z7) k,0):=by unfold Km;rw[if_neg (by rw[hev];simp)]
   rw[hR]
   obtain⟨l,hl,hsl,hec⟩:=he ps hps
   have hlB:∀e∈l,E5B e:=λe he=>Qdx hps.bd (hl.mem_iff.1 he)
   have hll:l.length<=4096:=by have:=hl.length_eq;have:=Iv (ps.flatMap Z7);have:=hps.cnt;omega
   have hrc:=hr l k hlB hll hk
   have hwe:=λy h1 h2=>hw l k y hlB hsl hll hk h1 h2
   obtain⟨F,hF⟩:∃F:Int->List Rn,∀y,-10000<=y->y<=10000->RnsV (F y)/\(∀x,Qf (F y) x↔(-4096<=x/\x<4096)/\0<Yp (Zp l k (y*k+k / 2)) x)/\CallIs P fw [e5V l,.i .i64 k,.i .i64 y] (Qj (F y)):=by
    refine⟨λy=>open Classical in if h:-10000<=y/\y<=10000 then Classical.choose (hwe y h.1 h.2) else [],λy h1 h2=>?_⟩
    simp only[dif_pos (show -10000<=y/\y<=10000 from ⟨h1,h2⟩)]
    exact Classical.choose_spec (hwe y h1 h2)
   have hG:=Qlg hps.bd hl hsl hk (F:=F) λy h1 h2=>⟨(hF y h1 h2).1,(hF y h1 h2).2.1⟩
   obtain⟨r1,r2,r3,_⟩:=Q65 hlB hsl hk
   generalize Zw l k=an at *
   obtain⟨a,n⟩:=an
   simp only at r1 r2 r3 hrc hG
   obtain⟨N,hN⟩:∃N:Nat,n=N:=⟨n.toNat,by omega⟩
   subst hN
   rw[Int.toNat_natCast]at hG
   obtain⟨T,hT⟩:∃T:Nat->List Rw,∀i,T i=Ky F a i:=⟨_,λ_=>rfl⟩
   have hT0:T 0=[]:=by rw[hT];rfl
   rw[<- hT]at hG
   refine PureC.is (Q8 hm hf (qj rfl) ?_) rfl
   unfold L0l.c
   simp[go_sem,Qs]
   refine Q5 hcc ?_
   simp[go_sem,Qs]
   refine Q5 hec ?_
   simp[go_sem]
   refine Q5 hrc ?_
   simp[go_sem]
   refine Z0 [.c 1 0 0 2] (α:=Nat) (λi=>i<=N)
    (λi=>⟨[(1,.i .i64 k),(4,.p 0 1 0 0),(7,e5V l),(8,.i .i64 a),(10,.p 1 1 0 0),(28,.i .i64 N),(29,.i .i64 i)],[.arr 1 1 [[.nil]],.arr 1 1 [[.own 2 ((T i).length+1) 0 (T i).length]],.arr ((T i).length+1) 2 ((T i).map Rw.cs)]⟩)
    (λi=>N-i) 0 (Nat.zero_le _) ?_ ?_
   ·simp[go_sem,hT0,e5V]
    done
   ·intro i hi
    by_cases hil:i=N
    ·subst hil
     rw[hG]
     simp[go_sem,L0l.r]
     rw[if_pos (Qdb _)];rfl
    ·have hlt:i<N:=by omega
     have hTs:T (i+1)=T i++(if F (a+i)=[] then [] else [⟨a+i,F (a+i)⟩]):=by rw[hT,Qdc,<- hT]
     have hTl:(T i).length<=i:=by rw[hT];exact Qhw F a i
     obtain⟨_,_,hFc⟩:=hF (a+i) (by omega) (by omega)
     generalize F (a+i)=rs at *
     have htk:List.take (T i).length ((T i).map Rw.cs)=(T i).map Rw.cs:=qg (by simp)
     simp (disch:=omega) [go_sem,hlt,Q3]
     refine Q5 hFc ?_
     by_cases hrs:rs=[]
     ·rw[if_pos hrs,List.append_nil]at hTs
      simp (disch:=omega) [go_sem,Qj,hrs,Q3]
      exact⟨i+1,by omega,by omega,⟨.inr rfl,by omega⟩,by rw[hTs],⟨by rw[hTs],by rw[hTs]⟩,Q7k _ _⟩
     ·rw[if_neg hrs]at hTs
      have hrl:0<rs.length:=by cases rs with | nil=>exact absurd rfl hrs | cons a b=>simp
      simp (disch:=omega) [go_sem,Qj,hrl,htk,Q3]
      exact⟨⟨by omega,by omega⟩,i+1,by omega,by omega,⟨.inr rfl,by omega⟩,by rw[hTs];simp,⟨by rw[hTs];simp,by rw[hTs];simp[Rw.cs,Qj]⟩,Q7k _ _⟩
end
theorem Qai {α β:Type} (f:α->β) (k:List α) (x:β):(k.map f++[x])[k.length]?=some x:=by
 rw[qh (by simp)];simp
theorem Qah {α β:Type} (f:α->β) (k:List α) (x y:β):(k.map f++[x]).set k.length y=k.map f++[y]:=by
 have:=jl (s:=k.map f) (t:=[x]) (x:=y) k.length (by simp)
 rw[this];simp
def mxP (p:P2):Int:=max (max p.x (-p.x)) (max p.y (-p.y))
def dT (k:Int) (p:P2):Nat:=((mxP p+k-1) / k).toNat
theorem Q96:∀(l:List Int) (lo hi:Int),l.Pairwise (·<·)->(∀x∈l,lo<=x/\x<hi)->(l.length:Int)<=max 0 (hi-lo)
 | [],lo,hi,_,_=>by simp;omega
 | x::l,lo,hi,hp,h=>by
   obtain⟨h1,h2⟩:=jb.1 hp
   have hx:=h x (by simp)
   have:=Q96 l (x+1) hi h2 λy hy=>by have:=h1 y hy;have:=h y (by simp[hy]);omega
   rw[List.length_cons]
   omega
theorem RgV.len {g:List Rw} (h:RgV g) (hb:RgB g):g.length<=8192:=by
 have:=Q96 (g.map Rw.y) (-4096) 4096 (by rw[jf];exact h.asc) λy hy=>by
  obtain⟨w,hw,rfl⟩:=qq.1 hy
  obtain⟨x,hx⟩:=(h.rs w hw).some (h.ne w hw)
  exact(hb w.y x ⟨w,hw,rfl,hx⟩).1
 rw[List.length_map]at this
 omega
def RnI (l:List Rn):Prop:=∀r∈l,-4096<=r.a/\r.b<=4096
theorem RnsV.len {l:List Rn} (h:RnsV l) (hb:RnI l):l.length<=8192:=by
 have:=Q96 (l.map Rn.a) (-4096) 4096 (by
  rw[jf]
  refine List.Pairwise.imp_of_mem ?_ h.2
  intro r s hr hs hrs
  have:=h.1 r hr
  omega) λy hy=>by
  obtain⟨r,hr,rfl⟩:=qq.1 hy
  have:=h.1 r hr
  have:=hb r hr
  omega
 rw[List.length_map]at this
 omega
theorem RgB.rnb {g:List Rw} (h:RgV g) (hb:RgB g) {w:Rw} (hw:w∈g):RnI w.rs:=λr hr=>by
 have:=RgB.run h hb hw hr
 omega
theorem RgB.yb {g:List Rw} (h:RgV g) (hb:RgB g) {w:Rw} (hw:w∈g):-4096<=w.y/\w.y<4096:=by
 obtain⟨x,hx⟩:=(h.rs w hw).some (h.ne w hw)
 exact(hb w.y x ⟨w,hw,rfl,hx⟩).1
def Zu (l:List Rn) (i:Nat):Int:=if i % 2=1 then ((l[i / 2]?).getD ⟨1048577,1048577⟩).b else ((l[i / 2]?).getD ⟨1048577,1048577⟩).a
theorem Ua (l:List Rn):Zu l (2*l.length)=1048577:=by
 unfold Zu
 rw[if_neg (by omega),show 2*l.length / 2=l.length by omega,qm (Nat.le_refl _)];rfl
theorem Uc {l:List Rn} {k:Nat} {r:Rn} (h:l[k]?=some r):Zu l (2*k)=r.a:=by
 unfold Zu
 rw[if_neg (by omega),show 2*k / 2=k by omega,h];rfl
theorem B7 {l:List Rn} {k:Nat} {r:Rn} (h:l[k]?=some r):Zu l (2*k+1)=r.b:=by
 unfold Zu
 rw[if_pos (by omega),show (2*k+1) / 2=k by omega,h];rfl
theorem Q93 {l:List Rn} (hl:RnsV l) (hb:RnI l) {i:Nat} (h:i<2*l.length):-4096<=Zu l i/\Zu l i<=4096:=by
 have hq:l[i / 2]?=some l[i / 2]:=qb (by omega)
 have h1:=hb _ (qe hq)
 have h2:=hl.1 _ (qe hq)
 unfold Zu
 rw[hq]
 split<;>simp only[Option.getD_some]<;>omega
theorem Qjh {l:List Rn} (h:RnsV l) {i:Nat} (hi:i+1<2*l.length):Zu l i<Zu l (i+1):=by
 have hq:l[i / 2]?=some l[i / 2]:=qb (by omega)
 by_cases he:i % 2=1
 ·have hq2:l[i / 2+1]?=some l[i / 2+1]:=qb (by omega)
  have e1:=B7 hq
  have e2:=Uc hq2
  rw[show 2*(i / 2)+1=i by omega]at e1
  rw[show 2*(i / 2+1)=i+1 by omega]at e2
  rw[e1,e2]
  exact j6.1 h.2 (i / 2) (i / 2+1) (by omega) (by omega) (by omega)
 ·have e1:=Uc hq
  have e2:=B7 hq
  rw[show 2*(i / 2)=i by omega]at e1
  rw[show 2*(i / 2)+1=i+1 by omega]at e2
  rw[e1,e2]
  exact h.1 _ (qe hq)
theorem Ub {l:List Rn} (h:RnsV l) {i:Nat}:∀{j:Nat},i<j->j<2*l.length->Zu l i<Zu l j
 | 0,hij,_=>by omega
 | j+1,hij,hj=>by
   have h1:=Qjh h hj
   by_cases he:i=j
   ·rw[he];exact h1
   ·have:=Ub h (i:=i) (j:=j) (by omega) (by omega)
    omega
theorem Qiu {l:List Rn} {x:Int}:Qf l x↔∃k,k<l.length/\Zu l (2*k)<=x/\x<Zu l (2*k+1):=by
 constructor
 ·rintro⟨r,hr,h⟩
  obtain⟨k,hk⟩:=qt hr
  refine⟨k,(qa.1 hk).1,?_⟩
  rw[Uc hk,B7 hk];exact h
 ·rintro⟨k,hk,h⟩
  have hq:l[k]?=some l[k]:=qb hk
  rw[Uc hq,B7 hq]at h
  exact⟨_,qe hq,h⟩
structure PosR (l:List Rn) (i:Nat) (X:Int):Prop where
 le:i<=2*l.length
 lo:∀k,k<i->Zu l k<=X
 hi:∀k,i<=k->k<2*l.length->X<Zu l k
theorem PosR.start {l:List Rn} (h:RnsV l) (hb:RnI l):PosR l 0 (-5000):=⟨by omega,by omega,λk _ hk=>by have:=Q93 h hb hk;omega⟩
theorem PosR.inn {l:List Rn} (h:RnsV l) {i:Nat} {X x:Int} (hp:PosR l i X) (h1:X<=x) (h2:i<2*l.length->x<Zu l i):Qf l x↔i % 2=1:=by
 have hle:=hp.le
 rw[Qiu]
 constructor
 ·rintro⟨k,hk,h3,h4⟩
  refine j9 λhne=>?_
  by_cases hki:2*k+1<i
  ·have:=hp.lo _ hki;omega
  ·have h5:i<2*l.length:=by omega
   have h6:=h2 h5
   by_cases he:i=2*k
   ·rw[he]at h6;omega
   ·have:=Ub h (i:=i) (j:=2*k) (by omega) (by omega);omega
 ·intro ho
  have h5:i<2*l.length:=by omega
  refine⟨i / 2,by omega,?_,?_⟩
  ·have:=hp.lo (2*(i / 2)) (by omega);omega
  ·rw[show 2*(i / 2)+1=i by omega];exact h2 h5
theorem PosR.step {l:List Rn} (h:RnsV l) (hb:RnI l) {i:Nat} {X x:Int} (hp:PosR l i X) (h1:X<x) (h2:x<=Zu l i) (h3:x<1048577):PosR l (if Zu l i=x then i+1 else i) x:=by
 have hle:=hp.le
 have hov:=Ua l
 have hil:Zu l i=x->i<2*l.length:=λhe=>by
  refine j9 λhn=>?_
  have:i=2*l.length:=by omega
  rw[this,hov]at he;omega
 split
 ·rename_i he
  have hi2:=hil he
  refine⟨by omega,λk hk=>?_,λk hk hk2=>?_⟩
  ·by_cases hki:k=i
   ·rw[hki];omega
   ·have:=hp.lo k (by omega);omega
  ·have:=Ub h (i:=i) (j:=k) (by omega) hk2;omega
 ·refine⟨hle,λk hk=>?_,λk hk hk2=>?_⟩
  ·have:=hp.lo k hk;omega
  ·by_cases hki:i=k
   ·rw[<- hki];omega
   ·have:=Ub h (i:=i) (j:=k) (by omega) hk2;omega
def Un (i j:Nat):Bool:=decide (i % 2=1) || decide (j % 2=1)
structure SwI (a b:List Rn) (i j:Nat) (X:Int) (out:List Rn):Prop where
 pa:PosR a i X
 pb:PosR b j X
 cl:Un i j=false->RnsV out/\(∀r∈out,r.b<=X)/\∀x,x<X->(Qf out x↔Qf a x∨Qf b x)
 op:Un i j=true->∃o f,out=o++[⟨f,0⟩]/\RnsV o/\(∀r∈o,r.b<f)/\f<=X/\∀x,x<X->(Qf o x∨f<=x↔Qf a x∨Qf b x)
 len:out.length<=i+j
theorem Qbe {l:List Rn} (hb:RnI l) {x:Int} (h:Qf l x):-4096<=x/\x<4096:=by
 obtain⟨r,hr,h1,h2⟩:=h
 have:=hb r hr
 omega
theorem SwI.start {a b:List Rn} (ha:RnsV a) (hb:RnsV b) (ha2:RnI a) (hb2:RnI b):SwI a b 0 0 (-5000) [] where
 pa:=PosR.start ha ha2
 pb:=PosR.start hb hb2
 cl _:=⟨RnsV.nil,by simp,λx hx=>⟨λh=>absurd h (Qk _),λh=>by
  rcases h with h | h
  ·have:=Qbe ha2 h;omega
  ·have:=Qbe hb2 h;omega⟩⟩
 op h:=by simp[Un]at h
 len:=by simp
theorem SwI.done {a b out U:List Rn} {X:Int} (ha:RnsV a) (hb:RnsV b) (h:SwI a b (2*a.length) (2*b.length) X out) (hU:RnsV U) (hUx:∀x,Qf U x↔Qf a x∨Qf b x):out=U:=by
 obtain⟨h1,h2,h3⟩:=h.cl (by simp[Un])
 refine h1.ext hU λx=>?_
 rw[hUx]
 by_cases hx:x<X
 ·exact h3 x hx
 ·have e1:=h.pa.inn ha (x:=x) (by omega) (by omega)
  have e2:=h.pb.inn hb (x:=x) (by omega) (by omega)
  rw[e1,e2]
  constructor
  ·rintro⟨r,hr,hr2,hr3⟩
   have:=h2 r hr;omega
  ·omega
def Ur (x:Int) (was now:Bool) (out:List Rn):List Rn :=
 if now && !was then out++[⟨x,0⟩] else if !now && was then out.dropLast++[⟨((out.getLast?).getD ⟨0,0⟩).a,x⟩] else out
def swN (l:List Rn) (i:Nat) (x:Int):Nat:=if Zu l i=x then i+1 else i
theorem SwI.step {a b out:List Rn} {i j:Nat} {X x:Int} (ha:RnsV a) (hb:RnsV b) (ha2:RnI a) (hb2:RnI b) (h:SwI a b i j X out) (hx:x=min (Zu a i) (Zu b j)) (hij:i<2*a.length∨j<2*b.length) :
  SwI a b (swN a i x) (swN b j x) x (Ur x (Un i j) (Un (swN a i x) (swN b j x)) out):=by
 have hx1:x<=4096:=by
  rcases hij with h1 | h1
  ·have:=Q93 ha ha2 h1;omega
  ·have:=Q93 hb hb2 h1;omega
 have hov1:=Ua a
 have hov2:=Ua b
 have gt1:X<Zu a i∨(i=2*a.length):=by
  by_cases h1:i<2*a.length
  ·exact .inl (h.pa.hi i (Nat.le_refl _) h1)
  ·have:=h.pa.le;exact .inr (by omega)
 have gt2:X<Zu b j∨(j=2*b.length):=by
  by_cases h1:j<2*b.length
  ·exact .inl (h.pb.hi j (Nat.le_refl _) h1)
  ·have:=h.pb.le;exact .inr (by omega)
 have hXx:X<x:=by
  have hX:X<1048577:=by
   rcases gt1 with g1 | g1
   ·rcases gt2 with g2 | g2
    ·omega
    ·rw[g2,hov2]at hx;omega
   ·rcases gt2 with g2 | g2
    ·rw[g1,hov1]at hx;omega
    ·omega
  rcases gt1 with g1 | g1<;>rcases gt2 with g2 | g2
  ·omega
  ·rw[g2,hov2]at hx;omega
  ·rw[g1,hov1]at hx;omega
  ·omega
 have ia:=λy (h1:X<=y) (h2:y<x)=>h.pa.inn ha (x:=y) h1 (λ_=>by omega)
 have ib:=λy (h1:X<=y) (h2:y<x)=>h.pb.inn hb (x:=y) h1 (λ_=>by omega)
 have iab:∀y,X<=y->y<x->((Qf a y∨Qf b y)↔Un i j=true):=λy h1 h2=>by
  rw[ia y h1 h2,ib y h1 h2]
  unfold Un
  simp
 have hpa:=h.pa.step ha ha2 hXx (by omega) (by omega)
 have hpb:=h.pb.step hb hb2 hXx (by omega) (by omega)
 have hlen:=h.len
 have hsn:i<=swN a i x/\j<=swN b j x:=by unfold swN;constructor<;>split<;>omega
 have hsn2:i+j+1<=swN a i x+swN b j x:=by
  have:Zu a i=x∨Zu b j=x:=by omega
  unfold swN
  rcases this with h1 | h1
  ·rw[if_pos h1];split<;>omega
  ·rw[if_pos h1];split<;>omega
 cases hw:Un i j with
 | false =>
   obtain⟨c1,c2,c3⟩:=h.cl hw
   have hno:∀y,X<=y->¬ Qf out y:=λy hy ⟨r,hr,h1,h2⟩=>by have:=c2 r hr;omega
   have hall:∀y,y<x->(Qf out y↔Qf a y∨Qf b y):=λy hy=>by
    by_cases h1:y<X
    ·exact c3 y h1
    ·rw[iab y (by omega) hy,hw]
     simp[hno y (by omega)]
   cases hn:Un (swN a i x) (swN b j x) with
   | false=>exact⟨hpa,hpb,λ_=>⟨c1,λr hr=>by have:=c2 r hr;omega,hall⟩,λhh=>by rw[hn]at hh;simp at hh,by simp[Ur];omega⟩
   | true =>
     refine⟨hpa,hpb,λhh=>by rw[hn]at hh;simp at hh,λ_=>⟨out,x,by simp[Ur],c1,λr hr=>by have:=c2 r hr;omega,Int.le_refl _,λy hy=>?_⟩,by simp[Ur];omega⟩
     rw[<- hall y hy]
     constructor
     ·rintro (h1 | h1)
      ·exact h1
      ·omega
     ·exact .inl
 | true =>
   obtain⟨o,f,c0,c1,c2,c3,c4⟩:=h.op hw
   have hall:∀y,y<x->(Qf o y∨f<=y↔Qf a y∨Qf b y):=λy hy=>by
    by_cases h1:y<X
    ·exact c4 y h1
    ·rw[iab y (by omega) hy,hw]
     simp
     exact .inr (by omega)
   cases hn:Un (swN a i x) (swN b j x) with
   | true=>exact⟨hpa,hpb,λhh=>by rw[hn]at hh;simp at hh,λ_=>⟨o,f,by simp[Ur,c0],c1,c2,by omega,hall⟩,by simp[Ur];omega⟩
   | false =>
     have e:Ur x true false out=o++[⟨f,x⟩]:=by rw[c0];simp[Ur]
     refine⟨hpa,hpb,λ_=>?_,λhh=>by rw[hn]at hh;simp at hh,?_⟩
     ·rw[e]
      refine⟨RnsV.snoc.2 ⟨c1,by simp only[];omega,λr hr=>c2 r hr⟩,λr hr=>?_,λy hy=>?_⟩
      ·rcases qi.1 hr with hr | hr
       ·have:=c2 r hr;omega
       ·rw[qp.1 hr];exact Int.le_refl _
      ·rw[<- hall y hy,J7,inRns_cons]
       simp only[Qk,or_false]
       constructor
       ·rintro (h1 | ⟨h1,_⟩)
        ·exact .inl h1
        ·exact .inr h1
       ·rintro (h1 | h1)
        ·exact .inl h1
        ·exact .inr ⟨h1,hy⟩
     ·rw[e]
      rw[c0]at hlen
      simp only[j5,List.length_cons,List.length_nil]at hlen ⊢
      omega
end Go.Abs
namespace Go.Abs
open Go.Sort
theorem Qei {t:T3} {e:P2} (h:e∈Q7 t):e.x≠e.y:=by
 unfold Q7 Zn at h
 have:=(qw.1 h).2
 simpa using this
theorem Qew {l:List T3} {e:P2} (h:e∈Qb l):e.x≠e.y:=by
 obtain⟨t,_,ht⟩:=jm.1 h
 exact Qei ht
theorem Qko {e:P2} (h:e.x<e.y):e.und=e:=by cases e;simp only[P2.und,P2.mk.injEq]at h ⊢;omega
theorem und_gt {e:P2} (h:¬ e.x<e.y):e.und=e.rev:=by cases e;simp only[P2.und,P2.rev,P2.mk.injEq]at h ⊢;omega
def isV (l:List Int):V:=.l 1 (l.map λx=>[.i .i64 x])
def bl (n:Nat) (g:Nat->Bool):List (List V):=(List.range n).map λj=>[.b (g j)]
theorem Q94 (n:Nat) (g:Nat->Bool):(bl n g).length=n:=by simp[bl]
theorem Q95 {n:Nat} {g:Nat->Bool} {i:Nat} (h:i<n):(bl n g)[i]?=some [.b (g i)]:=by simp[bl,h]
theorem bl_rep (n:Nat):List.replicate n [V.b false]=bl n (λ_=>false):=by
 apply qz
 intro i
 by_cases h:i<n
 ·rw[Q95 h];simp[h]
 ·rw[qm (by simp;omega),qm (by rw[Q94];omega)]
theorem bl_set (n:Nat) (g:Nat->Bool) (i:Nat) (b:Bool):(bl n g).set i [.b b]=bl n (λj=>if j=i then b else g j):=by
 apply qz
 intro j
 by_cases h:j<n
 ·rw[Q95 h]
  by_cases hj:i=j
  ·subst hj
   rw[qo (by rw[Q94];exact h),if_pos rfl]
  ·rw[qv hj,Q95 h,if_neg (λhh=>hj hh.symm)]
 ·rw[qm (by simp[Q94];omega),qm (by rw[Q94];omega)]
theorem bl_cl (n:Nat) (g:Nat->Bool) (k:Nat):∀el∈bl n g,∀x∈el,x.cl k=true:=by
 intro el hel x hx
 obtain⟨j,_,rfl⟩:=qq.1 hel
 simp at hx;subst hx;rfl
def ics (l:List Int):List (List V):=l.map λx=>[.i .i64 x]
def lsV (ls:List (List Int)):V:=.l 1 (ls.map λl=>[isV l])
def Held (b:Nat) (hx:List O) (ls:List (List Int)) (cells:List (List V)):Prop :=
 cells.length=ls.length/\∀(i:Nat) (c:List V) (l:List Int),cells[i]?=some c->ls[i]?=some l->∃j g,c=[.own (b+j) g 0 l.length]/\hx[j]?=some (.arr g 1 (ics l))
def Flt (hx:List O):Prop:=∀o∈hx,∀n,o.cl n
theorem Held.nil (b:Nat):Held b [] [] []:=⟨rfl,by simp⟩
theorem Held.app {b:Nat} {hx:List O} {ls:List (List Int)} {cells:List (List V)} (h:Held b hx ls cells) (l:List O):Held b (hx++l) ls cells :=
 ⟨h.1,λi c x h1 h2=>by obtain⟨j,g,h3,h4⟩:=h.2 i c x h1 h2;exact⟨j,g,h3,by rw[qf (qa.1 h4).1];exact h4⟩⟩
theorem Held.snoc {b:Nat} {hx:List O} {ls:List (List Int)} {cells:List (List V)} (h:Held b hx ls cells) {j g:Nat} {l:List Int} (hj:hx[j]?=some (.arr g 1 (ics l))):Held b hx (ls++[l]) (cells++[[.own (b+j) g 0 l.length]]):=by
 refine⟨by simp[h.1],λi c x h1 h2=>?_⟩
 by_cases hi:i<ls.length
 ·rw[qf (by rw[h.1];exact hi)]at h1
  rw[qf hi]at h2
  exact h.2 i c x h1 h2
 ·rw[qh (by rw[h.1];omega)]at h1
  rw[qh (by omega)]at h2
  have hi0:i-ls.length=0:=by
   have:=(qa.1 h2).1
   simp at this;omega
  rw[h.1,hi0]at h1
  rw[hi0]at h2
  simp at h1 h2
  subst h1;subst h2
  exact⟨j,g,rfl,hj⟩
theorem Held.cl {b:Nat} {hx:List O} {ls:List (List Int)} {cells:List (List V)} (h:Held b hx ls cells) {n:Nat} (hn:b+hx.length<=n):∀el∈cells,∀x∈el,x.cl n=true:=by
 intro el hel x hx'
 obtain⟨i,hi⟩:=qt hel
 have hlt:=(qa.1 hi).1
 obtain⟨j,g,rfl,h4⟩:=h.2 i el _ hi (qb (by rw[<- h.1];exact hlt))
 have:=(qa.1 h4).1
 simp at hx';subst hx'
 simp[V.cl,V.cl1,V.cl0];omega
theorem Qg8 (l:List Int):∀el∈ics l,∀x∈el,x.isD=true:=by
 intro el hel x hx
 obtain⟨a,_,rfl⟩:=qq.1 hel
 simp at hx;subst hx;rfl
theorem Q40 (l:List Int) (n:Nat):∀el∈ics l,∀x∈el,x.cl n=true:=λel hel x hx=>K1 n (Qg8 l el hel x hx)
theorem Held.frz {b:Nat} {base hx:List O} {ls:List (List Int)} {cells:List (List V)} (h:Held b hx ls cells) (hb:base.length=b):cells.mapM (λel=>el.mapM (Up (base++hx)))=some (ls.map λl=>[isV l]):=by
 induction cells generalizing ls with
 | nil =>
   have:=h.1
   simp at this
   obtain rfl:=List.length_eq_zero_iff.1 this.symm
   rfl
 | cons c cells ih =>
   have hl:=h.1
   cases ls with
   | nil=>simp at hl
   | cons l ls =>
     have h0:=h.2 0 c l rfl rfl
     obtain⟨j,g,rfl,hj⟩:=h0
     have ht:Held b hx ls cells:=⟨by simpa using hl,λi c x h1 h2=>h.2 (i+1) c x (by simpa using h1) (by simpa using h2)⟩
     have hg:(base++hx)[b+j]?=some (.arr g 1 (ics l)):=by rw[<- hb,Qd];exact hj
     have ha:(ics l).all (λx=>x.all V.isD)=true:=by
      rw[ql]
      exact λel hel=>ql.2 (Qg8 l el hel)
     have hlen:(ics l).length=l.length:=by simp[ics]
     have hfr:Up (base++hx) (.own (b+j) g 0 l.length)=some (isV l):=by
      have ht2:List.take l.length (ics l)=ics l:=qg (by omega)
      show _=some (V.l 1 (ics l))
      simp only[Up,Yx,hg]
      rw[List.drop_zero,ht2,if_pos ⟨trivial,by omega,ha⟩]
     simp[List.mapM_cons,hfr,ih ht]
theorem held_if {b:Nat} {base hx:List O} {ls:List (List Int)} {cells:List (List V)} (h:Held b hx ls cells) (hb:base.length=b) :
  (if ls.length<=cells.length then Option.map (V.l 1) (List.mapM (λel=>List.mapM (Up (base++hx)) el) (List.take ls.length cells)) else none)=some (lsV ls):=by
 have h1:=h.frz hb
 have ht:List.take ls.length cells=cells:=qg (by rw[h.1];exact Nat.le_refl _)
 simp only[ht,h1,h.1,Nat.le_refl,if_true,Option.map_some,lsV]
theorem Qc6 {n:Nat} {g g':Nat->Bool} (h:∀j,j<n->g j=g' j):bl n g=bl n g':=by
 unfold bl
 exact jo λj hj=>by rw[h j (j3.1 hj)]
def mk (n:Nat) (done:List Int):List (List V):=bl n λj=>decide ((j:Int)∈done)
theorem mk_nil (n:Nat):List.replicate n [V.b false]=mk n []:=by rw[bl_rep];exact Qc6 λj _=>by simp
theorem Qm7 {n:Nat} {d:List Int} {v:Int} (h0:0<=v):(mk n d).set v.toNat [.b true]=mk n (d++[v]):=by
 unfold mk
 rw[bl_set]
 refine Qc6 λj _=>?_
 by_cases hj:j=v.toNat
 ·have:(j:Int)=v:=by omega
  simp[hj,show ((v.toNat:Nat):Int)=v by omega]
 ·have:(j:Int)≠v:=by omega
  simp[hj,this]
theorem Qm8 {n:Nat} {d:List Int} {v:Int} (h0:0<=v) (h1:v<n):(mk n d)[v.toNat]?=some [.b (decide (v∈d))]:=by
 unfold mk
 rw[Q95 (by omega),show ((v.toNat:Nat):Int)=v by omega]
theorem mk_cl (n:Nat) (d:List Int) (k:Nat):∀el∈mk n d,∀x∈el,x.cl k=true:=bl_cl _ _ _
theorem Flt.app {a b:List O} (h:Flt a) (k:Flt b):Flt (a++b):=λo ho n=>by
 rcases qi.1 ho with h1 | h1
 ·exact h o h1 n
 ·exact k o h1 n
theorem Flt.WeakH {hx l:List O} (h:Flt hx) (n:Nat):WeakH n (hx++l) hx:=Qex λo ho=>h o ho n
theorem Flt.WeakH' {hx:List O} (h:Flt hx) (n:Nat):Go.Abs.WeakH n hx hx:=by
 have:=h.WeakH (l:=[]) n
 rwa [List.append_nil]at this
section
variable {K β:Type} [DecidableEq K]
def Z8 (e:K):List (K × β)->Option (Nat × β)
 | []=>none
 | (k,n)::r=>if e=k then some (0,n) else (Z8 e r).map λp=>(p.1+1,p.2)
structure KeyOk (ls:List Nat) (en:K->V):Prop where
 shape:∀a,Zd ls (en a)=true
 len:∀a,(en a).cells.length=ls.length
 eq:∀a b,Za ls (en a).cells (en b).cells=some (decide (a=b))
def asG (en:K->V) (ev:β->V) (p:K × β):V × V:=(en p.1,ev p.2)
theorem Xy {ls:List Nat} {en:K->V} (O:KeyOk ls en) (ev:β->V) (e:K):∀L:List (K × β),Ql ls (en e) (L.map (asG en ev))=some ((Z8 e L).map λp=>(p.1,ev p.2))
 | []=>by simp[Ql,O.shape,O.len,Z8]
 | (k,n)::r=>by
   simp only[List.map_cons,asG,Ql,Z8,O.shape,O.eq,Bool.and_self,if_true]
   by_cases h:e=k
   ·simp[h]
   ·simp only[h,decide_false,if_false]
    have:=Xy O ev e r
    rw[this]
    cases Z8 e r<;>rfl
theorem fndG_none {e:K}:∀{L:List (K × β)},Z8 e L=none↔e∉L.map Prod.fst
 | []=>by simp[Z8]
 | (k,n)::r=>by
   simp only[Z8]
   by_cases h:e=k
   ·simp[h]
   ·rw[if_neg h,Option.map_eq_none_iff,fndG_none (L:=r)]
    simp[h]
theorem Zt {e:K}:∀{L:List (K × β)} {i:Nat} {n:β},Z8 e L=some (i,n)->L[i]?=some (e,n)
 | [],i,n,h=>by simp[Z8]at h
 | (k,m)::r,i,n,h=>by
   simp only[Z8]at h
   by_cases hk:e=k
   ·simp[hk]at h;obtain⟨rfl,rfl⟩:=h;simp[hk]
   ·simp only[hk,if_false,qd,Prod.mk.injEq]at h
    obtain⟨⟨j,n1⟩,hj,rfl,rfl⟩:=h
    simpa using Zt hj
theorem Yl:∀{L:List (K × β)} {i:Nat} {e:K} {n:β},(L.map Prod.fst).Nodup->L[i]?=some (e,n)->Z8 e L=some (i,n)
 | [],i,e,n,_,h=>by simp at h
 | (k,m)::r,0,e,n,_,h=>by simp at h;obtain⟨rfl,rfl⟩:=h;simp[Z8]
 | (k,m)::r,i+1,e,n,hn,h=>by
   simp only[List.map_cons,List.nodup_cons]at hn
   simp only[List.getElem?_cons_succ]at h
   have hk:¬ e=k:=by
    rintro rfl
    exact hn.1 (qq.2 ⟨(e,n),qe h,rfl⟩)
   simp[Z8,hk,Yl hn.2 h]
theorem Wk {e e':K} {n:β}:∀{L:List (K × β)},Z8 e L=none->Z8 e' (L++[(e,n)])=if e'=e then some (L.length,n) else Z8 e' L
 | [],_=>by simp[Z8]
 | (k,m)::r,h=>by
   simp only[Z8]at h
   by_cases hk:e=k
   ·simp[hk]at h
   ·simp only[hk,if_false,Option.map_eq_none_iff]at h
    by_cases he:e'=e
    ·subst he;simp[Z8,hk,Wk h]
    ·simp only[List.cons_append,Z8,Wk h,he,if_false]
theorem B0 {e e':K} {n':β}:∀{L:List (K × β)} {i:Nat} {n:β},Z8 e L=some (i,n)->Z8 e' (L.set i (e,n'))=if e'=e then some (i,n') else Z8 e' L
 | [],i,n,h=>by simp[Z8]at h
 | (k,m)::r,i,n,h=>by
   simp only[Z8]at h
   by_cases hk:e=k
   ·simp[hk]at h;obtain⟨rfl,rfl⟩:=h
    subst hk
    by_cases he:e'=e<;>simp[Z8,he]
   ·simp only[hk,if_false,qd,Prod.mk.injEq]at h
    obtain⟨⟨j,n1⟩,hj,rfl,rfl⟩:=h
    have:=B0 (e':=e') (n':=n') hj
    by_cases he:e'=e
    ·subst he;simp[Z8,hk,this]
    ·simp only[List.set_cons_succ,Z8,this,he,if_false]
def Qas (e:K) (n:β) (L:List (K × β)):List (K × β):=match Z8 e L with | some (i,_)=>L.set i (e,n) | none=>L++[(e,n)]
theorem Qnw (e e':K) (n:β) (L:List (K × β)):(Z8 e' (Qas e n L)).map Prod.snd=if e'=e then some n else (Z8 e' L).map Prod.snd:=by
 unfold Qas
 cases h:Z8 e L with
 | none=>simp only[Wk h];split<;>simp
 | some p=>obtain⟨i,m⟩:=p;simp only[B0 h];split<;>simp
theorem Qi1 (e:K) (n:β) (L:List (K × β)):(Qas e n L).map Prod.fst=if e∈L.map Prod.fst then L.map Prod.fst else L.map Prod.fst++[e]:=by
 unfold Qas
 cases h:Z8 e L with
 | none=>rw[if_neg (fndG_none.1 h)];simp
 | some p =>
   obtain⟨i,m⟩:=p
   have h1:=Zt h
   rw[if_pos (qq.2 ⟨(e,m),qe h1,rfl⟩)]
   simp only[List.map_set]
   apply qz
   intro j
   by_cases hj:i=j
   ·subst hj
    have:=(qa.1 h1).1
    rw[qo (by simpa using this)]
    simp[h1]
   ·rw[qv hj]
end
theorem Wd:KeyOk [1,1] P2.enc:=⟨λ_=>rfl,λ_=>rfl,veq2⟩
end Go.Abs
