/- Part of the library on which the proof stands: an abstract machine, its values and its soundness against the model; or what functions of the program do to such values. -/
import Derived.Test.YtjggbpiapinceaaGreatGoRsF
import Derived.Test.YtjggbpiapinceaaGreatGoTpD
import Derived.Test.YtjggbpiapinceaaGreatGoRw
import Derived.Test.YtjggbpiapinceaaGreatGoSecD
import Derived.Test.YtjggbpiapinceaaGreatAbsSP
import Derived.Test.YtjggbpiapinceaaGreatGoMap
import Derived.Test.YtjggbpiapinceaaGreatGoRevC
set_option linter.unusedVariables false
set_option linter.unusedSimpArgs false
set_option maxHeartbeats 8000000
set_option maxRecDepth 20000
namespace Go.Abs
def Rw.cs (w:Rw):List V:=[.i .i64 w.y,Qe w.rs]
def rgV (g:List Rw):V:=.a [.l 2 (g.map Rw.cs)]
theorem Qbg (l:List Rw):∀w∈l,∀y∈w.cs,y.isD=true:=λw _ y hy=>by
 simp[Rw.cs]at hy
 rcases hy with rfl | rfl<;>rfl
theorem Xo (l:List Rw) (n:Nat):∀w∈l,∀x∈w.cs,x.cl n=true:=λw hw x hx=>Kf n (Qbg l w hw x hx)
def Kn (F:Int->List Rn) (a:Int) (n:Nat):List Rw:=((List.range n).map λ(j:Nat)=>Rw.mk (a+j) (F (a+j))).filter λw=>decide (w.rs≠[])
theorem Qbh (F:Int->List Rn) (a:Int) (n:Nat):Kn F a (n+1)=Kn F a n++(if F (a+n)=[] then [] else [⟨a+n,F (a+n)⟩]):=by
 unfold Kn
 rw[List.range_succ,qw,List.filter_append]
 congr 1
 by_cases h:F (a+n)=[]
 ·simp[h]
 ·simp[h]
theorem Qg2 (F:Int->List Rn) (a:Int) (n:Nat):(Kn F a n).length<=n:=by
 unfold Kn
 refine Nat.le_trans (j8 _ _) ?_
 simp
theorem mem_rowsT {F:Int->List Rn} {a:Int} {n:Nat} {w:Rw}:w∈Kn F a n↔(∃j:Nat,j<n/\w=⟨a+j,F (a+j)⟩)/\w.rs≠[]:=by
 unfold Kn
 rw[qu,qo]
 simp only[qy,decide_eq_true_eq]
 constructor
 ·rintro⟨⟨j,h1,rfl⟩,h2⟩;exact⟨⟨j,h1,rfl⟩,h2⟩
 ·rintro⟨⟨j,h1,rfl⟩,h2⟩;exact⟨⟨j,h1,rfl⟩,h2⟩
theorem rowsT_v {F:Int->List Rn} {a:Int} {n:Nat} (h:∀j:Nat,j<n->RnsV (F (a+j))):RgV (Kn F a n):=by
 refine⟨λw hw=>?_,λw hw=>(mem_rowsT.1 hw).2,?_⟩
 ·obtain⟨⟨j,hj,rfl⟩,_⟩:=mem_rowsT.1 hw
  exact h j hj
 ·unfold Kn
  refine List.Pairwise.filter _ ?_
  rw[jd]
  exact List.pairwise_lt_range.imp λ{a b} h=>by simp only[];omega
theorem Ql5 {F:Int->List Rn} {a:Int} {n:Nat} {y x:Int}:Z0 (Kn F a n) y x↔(a<=y/\y<a+n)/\Qb (F y) x:=by
 unfold Z0
 constructor
 ·rintro⟨w,hw,rfl,hx⟩
  obtain⟨⟨j,hj,rfl⟩,_⟩:=mem_rowsT.1 hw
  exact⟨by simp only[];omega,hx⟩
 ·rintro⟨⟨h1,h2⟩,hx⟩
  refine⟨⟨y,F y⟩,mem_rowsT.2 ⟨⟨(y-a).toNat,by omega,?_⟩,?_⟩,rfl,hx⟩
  ·rw[show a+((y-a).toNat:Int)=y by omega]
  ·rintro h0
   simp only at h0
   rw[h0]at hx
   exact Qi _ hx
theorem Qf3 {l l':List E5} (h:l.Perm l') (k cy:Int):(Zr l k cy).Perm (Zr l' k cy):=(h.filter _).map _
theorem Qjg {es:List Eg} {l:List E5} {k:Int} (hB:EgB es 65536) (hl:l.Perm (Jr es)) (hs:l.Pairwise λa b=>a.lo.y<=b.lo.y) (hk:PitchOk k) {F:Int->List Rn}
  (hF:∀y,-10000<=y->y<=10000->RnsV (F y)/\∀x,Qb (F y) x↔(-4096<=x/\x<4096)/\0<Yo (Zr l k (y*k+k / 2)) x):Kn F (Zv l k).1 (Zv l k).2.toNat=Jz es k:=by
 have hlB:∀e∈l,E5B e:=λe he=>Qc2 hB (hl.mem_iff.1 he)
 obtain⟨r1,r2,r3,r4⟩:=Q4r hlB hs hk
 generalize Zv l k=an at *
 obtain⟨a,n⟩:=an
 simp only at r1 r2 r3 r4 ⊢
 unfold Jz
 refine Q5m (rowsT_v λj hj=>(hF _ (by omega) (by omega)).1) λy x=>?_
 have hsum:Yo (Zr (es.filterMap Uv) k (y*k+k / 2)) x=Yo (Zr l k (y*k+k / 2)) x:=(Q1x (Qf3 hl k _) x).symm
 rw[Ql5,decide_eq_true_eq,Q8b (by have:=hk.lo;omega),hsum]
 constructor
 ·rintro⟨⟨h1,h2⟩,hx⟩
  obtain⟨h3,h4⟩:=((hF y (by omega) (by omega)).2 x).1 hx
  exact⟨by omega,h3,h4⟩
 ·rintro⟨⟨h1,h2⟩,h3,h4⟩
  refine⟨?_,((hF y (by omega) (by omega)).2 x).2 ⟨h3,h4⟩⟩
  have h5:∃e∈l,onE (y*k+k / 2) e=true:=by
   refine Classical.byContradiction λhn=>?_
   have h6:Zr l k (y*k+k / 2)=[]:=by
    unfold Zr
    rw[List.filter_eq_nil_iff.2]
    ·rfl
    ·intro e he ho
     exact hn ⟨e,he,ho⟩
   rw[h6,Xy]at h4
   omega
  have:=r4 y h1 h2 h5
  omega
noncomputable def Kc (ps:List (List P2)) (k:Int):List Rw × Int:=if Yq k 32 1024=false then ([],1) else (Jz (ps.flatMap Z4) k,0)
def Q7y (P:Program) (f:FuncId):Prop:=∀(ps:List (List P2)) (k:Int),PolyOk ps->CallIs P f [Qq ps,.i .i64 k] (.t [rgV (Kc ps k).1,.i .i64 (Kc ps k).2])
section
variable {P:Program} (hm:P.follows .mixedOrders=true)
include hm
theorem B6 {f fc fe fr fw:FuncId} (hf:Q9 P f (L0m.c fc fe fr fw) L0m.r L0m.n) (hc:Q88 P fc) (he:Q83 P fe) (hr:Qnf P fr) (hw:Qng P fw):Q7y P f:=by
 intro ps k hps
 have hcc:=hc ps k hps
 cases hev:Yq k 32 1024 with
 | false =>
   rw[hev]at hcc
   have hR:Kc ps k=([],1):=by unfold Kc;rw[if_pos hev]
   rw[hR]
   refine CallIs.res (r:=.t [.a [.nil],.i .i64 1]) ?_ (.inr ⟨_,_,rfl,rfl,.inr ⟨_,_,rfl,rfl,Le0.nil 2,trivial⟩,Le1.refl _,trivial⟩)
   refine PureC.is (Q8 hm hf (qh rfl) ?_) rfl
   unfold L0m.c
   simp[go_sem,Qq]
   refine Q5 hcc ?_
   simp[go_sem,L0m.r]
   done
 | true =>
   rw[hev]at hcc
   have hk:PitchOk k:=by
    unfold Yq at hev
    simp only[Bool.and_eq_true,decide_eq_true_eq]at hev
    exact⟨hev.1.1,hev.1.2,hev.2⟩
   have hR:Kc ps k=(Jz (ps.flatMap Z4) k,0):=by unfold Kc;rw[if_neg (by rw[hev];simp)]
   rw[hR]
   obtain⟨l,hl,hsl,hec⟩:=he ps hps
   have hlB:∀e∈l,E5B e:=λe he=>Qc2 hps.bd (hl.mem_iff.1 he)
   have hll:l.length<=4096:=by have:=hl.length_eq;have:=I6 (ps.flatMap Z4);have:=hps.cnt;omega
   have hrc:=hr l k hlB hll hk
   have hwe:=λy h1 h2=>hw l k y hlB hsl hll hk h1 h2
   obtain⟨F,hF⟩:∃F:Int->List Rn,∀y,-10000<=y->y<=10000->RnsV (F y)/\(∀x,Qb (F y) x↔(-4096<=x/\x<4096)/\0<Yo (Zr l k (y*k+k / 2)) x)/\CallIs P fw [e5V l,.i .i64 k,.i .i64 y] (Qe (F y)):=by
    refine⟨λy=>open Classical in if h:-10000<=y/\y<=10000 then Classical.choose (hwe y h.1 h.2) else [],λy h1 h2=>?_⟩
    simp only[dif_pos (show -10000<=y/\y<=10000 from ⟨h1,h2⟩)]
    exact Classical.choose_spec (hwe y h1 h2)
   have hG:=Qjg hps.bd hl hsl hk (F:=F) λy h1 h2=>⟨(hF y h1 h2).1,(hF y h1 h2).2.1⟩
   obtain⟨r1,r2,r3,_⟩:=Q4r hlB hsl hk
   generalize Zv l k=an at *
   obtain⟨a,n⟩:=an
   simp only at r1 r2 r3 hrc hG
   obtain⟨N,hN⟩:∃N:Nat,n=N:=⟨n.toNat,by omega⟩
   subst hN
   rw[Int.toNat_natCast]at hG
   obtain⟨T,hT⟩:∃T:Nat->List Rw,∀i,T i=Kn F a i:=⟨_,λ_=>rfl⟩
   have hT0:T 0=[]:=by rw[hT];rfl
   rw[<- hT]at hG
   refine PureC.is (Q8 hm hf (qh rfl) ?_) rfl
   unfold L0m.c
   simp[go_sem,Qq]
   refine Q5 hcc ?_
   simp[go_sem,Qq]
   refine Q5 hec ?_
   simp[go_sem]
   refine Q5 hrc ?_
   simp[go_sem]
   refine Zc [.c 1 0 0 2] (α:=Nat) (λi=>i<=N)
    (λi=>⟨[(1,.i .i64 k),(4,.p 0 1 0 0),(7,e5V l),(8,.i .i64 a),(10,.p 1 1 0 0),(28,.i .i64 N),(29,.i .i64 i)],[.arr 1 1 [[.nil]],.arr 1 1 [[.own 2 ((T i).length+1) 0 (T i).length]],.arr ((T i).length+1) 2 ((T i).map Rw.cs)]⟩)
    (λi=>N-i) 0 (Nat.zero_le _) ?_ ?_
   ·simp[go_sem,hT0,e5V]
    done
   ·intro i hi
    by_cases hil:i=N
    ·subst hil
     rw[hG]
     simp[go_sem,L0m.r]
     rw[if_pos (Qbg _)];rfl
    ·have hlt:i<N:=by omega
     have hTs:T (i+1)=T i++(if F (a+i)=[] then [] else [⟨a+i,F (a+i)⟩]):=by rw[hT,Qbh,<- hT]
     have hTl:(T i).length<=i:=by rw[hT];exact Qg2 F a i
     obtain⟨_,_,hFc⟩:=hF (a+i) (by omega) (by omega)
     generalize F (a+i)=rs at *
     have htk:List.take (T i).length ((T i).map Rw.cs)=(T i).map Rw.cs:=qe (by simp)
     simp (disch:=omega) [go_sem,hlt,Q3]
     refine Q5 hFc ?_
     by_cases hrs:rs=[]
     ·rw[if_pos hrs,List.append_nil]at hTs
      simp (disch:=omega) [go_sem,Qe,hrs,Q3]
      exact⟨i+1,by omega,by omega,⟨.inr rfl,by omega⟩,by rw[hTs],⟨by rw[hTs],by rw[hTs]⟩,Xo _ _⟩
     ·rw[if_neg hrs]at hTs
      have hrl:0<rs.length:=by cases rs with | nil=>exact absurd rfl hrs | cons a b=>simp
      simp (disch:=omega) [go_sem,Qe,hrl,htk,Q3]
      exact⟨⟨by omega,by omega⟩,i+1,by omega,by omega,⟨.inr rfl,by omega⟩,by rw[hTs];simp,⟨by rw[hTs];simp,by rw[hTs];simp[Rw.cs,Qe]⟩,Xo _ _⟩
end
theorem RgV.snocW {g:List Rw} {w:Rw} (hg:RgV g) (hw:RnsV w.rs) (hn:w.rs≠[]) (ha:∀u∈g,u.y<w.y):RgV (g++[w]):=by
 refine⟨λu hu=>?_,λu hu=>?_,?_⟩
 ·rcases qg.1 hu with h | h
  ·exact hg.rs u h
  ·rw[qn.1 h];exact hw
 ·rcases qg.1 hu with h | h
  ·exact hg.ne u h
  ·rw[qn.1 h];exact hn
 ·rw[List.pairwise_append]
  exact⟨hg.asc,by simp,λu hu v hv=>by rw[qn.1 hv];exact ha u hu⟩
theorem Ql7 {g k:List Rw} {y x:Int}:Z0 (g++k) y x↔Z0 g y x∨Z0 k y x:=by
 unfold Z0
 constructor
 ·rintro⟨w,hw,h⟩
  rcases qg.1 hw with h1 | h1
  ·exact .inl ⟨w,h1,h⟩
  ·exact .inr ⟨w,h1,h⟩
 ·rintro (⟨w,hw,h⟩ | ⟨w,hw,h⟩)
  ·exact⟨w,qg.2 (.inl hw),h⟩
  ·exact⟨w,qg.2 (.inr hw),h⟩
theorem Ql6 {w:Rw} {y x:Int}:Z0 [w] y x↔w.y=y/\Qb w.rs x:=by
 unfold Z0
 simp
def mxP (p:P2):Int:=max (max p.x (-p.x)) (max p.y (-p.y))
def dT (k:Int) (p:P2):Nat:=((mxP p+k-1) / k).toNat
theorem Q7p:∀(l:List Int) (lo hi:Int),l.Pairwise (·<·)->(∀x∈l,lo<=x/\x<hi)->(l.length:Int)<=max 0 (hi-lo)
 | [],lo,hi,_,_=>by simp;omega
 | x::l,lo,hi,hp,h=>by
   obtain⟨h1,h2⟩:=j9.1 hp
   have hx:=h x (by simp)
   have:=Q7p l (x+1) hi h2 λy hy=>by have:=h1 y hy;have:=h y (by simp[hy]);omega
   rw[List.length_cons]
   omega
theorem RgV.len {g:List Rw} (h:RgV g) (hb:RgB g):g.length<=8192:=by
 have:=Q7p (g.map Rw.y) (-4096) 4096 (by rw[jd];exact h.asc) λy hy=>by
  obtain⟨w,hw,rfl⟩:=qo.1 hy
  obtain⟨x,hx⟩:=(h.rs w hw).some (h.ne w hw)
  exact(hb w.y x ⟨w,hw,rfl,hx⟩).1
 rw[List.length_map]at this
 omega
def RnI (l:List Rn):Prop:=∀r∈l,-4096<=r.a/\r.b<=4096
theorem RnsV.len {l:List Rn} (h:RnsV l) (hb:RnI l):l.length<=8192:=by
 have:=Q7p (l.map Rn.a) (-4096) 4096 (by
  rw[jd]
  refine List.Pairwise.imp_of_mem ?_ h.2
  intro r s hr hs hrs
  have:=h.1 r hr
  omega) λy hy=>by
  obtain⟨r,hr,rfl⟩:=qo.1 hy
  have:=h.1 r hr
  have:=hb r hr
  omega
 rw[List.length_map]at this
 omega
theorem RgB.rnb {g:List Rw} (h:RgV g) (hb:RgB g) {w:Rw} (hw:w∈g):RnI w.rs:=λr hr=>by
 have:=RgB.run h hb hw hr
 omega
theorem RgB.yb {g:List Rw} (h:RgV g) (hb:RgB g) {w:Rw} (hw:w∈g):-4096<=w.y/\w.y<4096:=by
 obtain⟨x,hx⟩:=(h.rs w hw).some (h.ne w hw)
 exact(hb w.y x ⟨w,hw,rfl,hx⟩).1
def Y7 (op:Int) (a b:Bool):Bool:=if op=0 then a || b else if op=1 then a && b else a && !b
theorem K3 (op:Int):Y7 op false false=false:=by unfold Y7;split<;>(try split)<;>rfl
noncomputable def opR (op:Int) (g k:List Rw):List Rw:=open Classical in Xq λy x=>Y7 op (decide (Z0 g y x)) (decide (Z0 k y x))
theorem Q09 (op:Int) (g k:List Rw):RgV (opR op g k):=Q3g _
theorem Q9b (op:Int) (g k:List Rw):RgB (opR op g k):=Qac _
theorem Q9a (g k:List Rw):opR 0 g k=Qik g k:=by
 unfold opR Qik
 congr 1
 funext y x
 by_cases h1:Z0 g y x<;>by_cases h2:Z0 k y x<;>simp[Y7,h1,h2]
open Classical in
theorem Bm {op:Int} {g k:List Rw} (hg:RgB g) (hk:RgB k) {y x:Int}:Z0 (opR op g k) y x↔Y7 op (decide (Z0 g y x)) (decide (Z0 k y x))=true:=by
 unfold opR
 rw[in_canonR]
 constructor
 ·exact λh=>h.2.2
 ·intro h
  have hb:(-4096<=y/\y<4096)/\-4096<=x/\x<4096:=by
   by_cases h1:Z0 g y x
   ·exact hg y x h1
   ·by_cases h2:Z0 k y x
    ·exact hk y x h2
    ·rw[decide_eq_false h1,decide_eq_false h2,K3]at h
     simp at h
  exact⟨hb.1,hb.2,h⟩
theorem Q0c {l:List Rn} {u x:Int} (hux:u<=x) (h:∀r∈l,(r.a<=u∨x<r.a)/\(r.b<=u∨x<r.b)):Qb l x↔Qb l u:=by
 unfold Qb
 constructor
 ·rintro⟨r,hr,h1,h2⟩
  have:=h r hr
  exact⟨r,hr,by omega,by omega⟩
 ·rintro⟨r,hr,h1,h2⟩
  have:=h r hr
  exact⟨r,hr,by omega,by omega⟩
def Zp (l:List Rn):List Int:=l.flatMap λr=>[r.a,r.b]
theorem Ya {l:List Rn} {r:Rn} (h:r∈l):r.a∈Zp l/\r.b∈Zp l:=by
 unfold Zp
 exact⟨jm.2 ⟨r,h,by simp⟩,jm.2 ⟨r,h,by simp⟩⟩
structure CbI (op:Int) (a b:List Rn) (L:List Int) (i:Nat) (out:List Rn):Prop where
 v:RnsV out
 le:∀u,L[i]?=some u->(∀r∈out,r.b<=u)/\∀x,x<u->(Qb out x↔Y7 op (decide (Qb a x)) (decide (Qb b x))=true)
 len:out.length<=i
theorem CbI.start {op:Int} {a b:List Rn} {L:List Int} (hs:L.Pairwise (·<=·)) (hm:∀x,x∈L↔x∈Zp a++Zp b):CbI op a b L 0 [] where
 v:=RnsV.nil
 le u hu:=by
  refine⟨by simp,λx hx=>?_⟩
  have hmin:∀y∈L,u<=y:=λy hy=>by
   cases L with
   | nil=>simp at hy
   | cons z L =>
     simp at hu
     subst hu
     rcases List.mem_cons.1 hy with rfl | hy
     ·exact Int.le_refl _
     ·exact(j9.1 hs).1 y hy
  have h1:¬ Qb a x:=λ⟨r,hr,h1,h2⟩=>by have:=hmin r.a ((hm _).2 (qg.2 (.inl (Ya hr).1)));omega
  have h2:¬ Qb b x:=λ⟨r,hr,h1,h2⟩=>by have:=hmin r.a ((hm _).2 (qg.2 (.inr (Ya hr).1)));omega
  rw[decide_eq_false h1,decide_eq_false h2,K3]
  simp[Qi]
 len:=by simp
def Q0f (u v:Int) (out:List Rn):List Rn:=match out.getLast? with
 | some r=>if r.b=u then out.dropLast++[⟨r.a,v⟩] else out++[⟨u,v⟩]
 | none=>out++[⟨u,v⟩]
theorem Q5k (u v:Int):Q0f u v []=[⟨u,v⟩]:=rfl
theorem Q5l (o:List Rn) (r:Rn) (u v:Int):Q0f u v (o++[r])=if r.b=u then o++[⟨r.a,v⟩] else o++[r]++[⟨u,v⟩]:=by
 unfold Q0f
 rw[List.getLast?_concat]
 simp
theorem CbI.step {op:Int} {a b:List Rn} {L:List Int} {i:Nat} {out:List Rn} {u v:Int} (hs:L.Pairwise (·<=·)) (hm:∀x,x∈L↔x∈Zp a++Zp b) (h:CbI op a b L i out) (hu:L[i]?=some u) (hv:L[i+1]?=some v) :
  CbI op a b L (i+1) (if u=v∨Y7 op (decide (Qb a u)) (decide (Qb b u))=false then out else Q0f u v out):=by
 obtain⟨h1,h2⟩:=h.le u hu
 have hlen:=h.len
 obtain⟨hi,hu'⟩:=q8.1 hu
 obtain⟨hj,hv'⟩:=q8.1 hv
 have huv:u<=v:=by
  have:=j4.1 hs i (i+1) hi hj (by omega)
  omega
 have hgap:∀y∈L,y<=u∨v<=y:=λy hy=>by
  obtain⟨k,hk⟩:=qq hy
  obtain⟨hkl,hk'⟩:=q8.1 hk
  by_cases hki:k<=i
  ·left
   by_cases he:k=i
   ·subst he;omega
   ·have:=j4.1 hs k i hkl hi (by omega);omega
  ·right
   by_cases he:k=i+1
   ·subst he;omega
   ·have:=j4.1 hs (i+1) k hj hkl (by omega);omega
 have hcon:∀x,u<=x->x<v->(Qb a x↔Qb a u)/\(Qb b x↔Qb b u):=λx hx1 hx2=>by
  refine⟨Q0c hx1 λr hr=>?_,Q0c hx1 λr hr=>?_⟩
  ·have e1:=hgap r.a ((hm _).2 (qg.2 (.inl (Ya hr).1)))
   have e2:=hgap r.b ((hm _).2 (qg.2 (.inl (Ya hr).2)))
   omega
  ·have e1:=hgap r.a ((hm _).2 (qg.2 (.inr (Ya hr).1)))
   have e2:=hgap r.b ((hm _).2 (qg.2 (.inr (Ya hr).2)))
   omega
 have hkeep:∀x,u<=x->x<v->Y7 op (decide (Qb a x)) (decide (Qb b x))=Y7 op (decide (Qb a u)) (decide (Qb b u)):=λx hx1 hx2=>by
  obtain⟨c1,c2⟩:=hcon x hx1 hx2
  simp only[c1,c2]
 have hno:∀x,u<=x->¬ Qb out x:=λx hx ⟨r,hr,e1,e2⟩=>by have:=h1 r hr;omega
 split
 ·rename_i hc
  refine⟨h.v,λv' hv2=>?_,by omega⟩
  obtain rfl:v=v':=by rw[hv]at hv2;simpa using hv2
  refine⟨λr hr=>by have:=h1 r hr;omega,λx hx=>?_⟩
  by_cases hxu:x<u
  ·exact h2 x hxu
  ·have:Y7 op (decide (Qb a u)) (decide (Qb b u))=false:=by
    rcases hc with hc | hc
    ·omega
    ·exact hc
   rw[hkeep x (by omega) hx,this]
   simp[hno x (by omega)]
 ·rename_i hc
  have hne:u<v:=by
   refine j7 λhn=>hc (.inl (by omega))
  have hk:Y7 op (decide (Qb a u)) (decide (Qb b u))=true:=by
   cases hh:Y7 op (decide (Qb a u)) (decide (Qb b u))
   ·exact absurd (.inr hh) hc
   ·rfl
  have key:RnsV (Q0f u v out)/\(∀r∈Q0f u v out,r.b<=v)/\(∀x,Qb (Q0f u v out) x↔Qb out x∨(u<=x/\x<v))/\(Q0f u v out).length<=out.length+1:=by
   have hv0:=h.v
   rcases J3 out with rfl | ⟨o,r,rfl⟩
   ·rw[Q5k]
    refine⟨⟨by simp;omega,by simp⟩,by simp,λx=>?_,by simp⟩
    simp only[inRns_cons,Qi,or_false,false_or]
   ·obtain⟨g1,g2,g3⟩:=RnsV.snoc.1 hv0
    have hr:=h1 r (by simp)
    rw[Q5l]
    by_cases he:r.b=u
    ·rw[if_pos he]
     refine⟨RnsV.snoc.2 ⟨g1,by simp only[];omega,λs hs=>g3 s hs⟩,λs hs=>?_,λy=>?_,by simp⟩
     ·rcases qg.1 hs with hs | hs
      ·have:=h1 s (by simp[hs]);omega
      ·rw[qn.1 hs];exact Int.le_refl _
     ·simp only[Yi,inRns_cons,Qi,or_false]
      by_cases hk:Qb o y<;>simp only[hk,true_or,false_or,or_true]<;>omega
    ·rw[if_neg he]
     refine⟨RnsV.snoc.2 ⟨hv0,by simp only[];omega,λs hs=>?_⟩,λs hs=>?_,λy=>?_,by simp⟩
     ·rcases qg.1 hs with hs | hs
      ·have:=g3 s hs;simp only[];omega
      ·rw[qn.1 hs];simp only[];omega
     ·rcases qg.1 hs with hs | hs
      ·have:=h1 s hs;omega
      ·rw[qn.1 hs];exact Int.le_refl _
     ·simp only[Yi,inRns_cons,Qi,or_false]
  obtain⟨k1,k2,k3,k4⟩:=key
  refine⟨k1,λv' hv2=>?_,by omega⟩
  obtain rfl:v=v':=by rw[hv]at hv2;simpa using hv2
  refine⟨k2,λx hx=>?_⟩
  rw[k3]
  by_cases hxu:x<u
  ·rw[h2 x hxu]
   constructor
   ·rintro (h3 | h3)
    ·exact h3
    ·omega
   ·exact .inl
  ·rw[hkeep x (by omega) hx,hk]
   simp
   exact .inr ⟨by omega,hx⟩
theorem CbI.done {op:Int} {a b:List Rn} {L:List Int} {i:Nat} {out U:List Rn} (hs:L.Pairwise (·<=·)) (hm:∀x,x∈L↔x∈Zp a++Zp b) (h:CbI op a b L i out) (hi:L.length<=i+1) (hi2:i+1<=L.length∨i=0)
  (hU:RnsV U) (hUx:∀x,Qb U x↔Y7 op (decide (Qb a x)) (decide (Qb b x))=true):out=U:=by
 refine h.v.ext hU λx=>?_
 rw[hUx]
 by_cases h0:L=[]
 ·subst h0
  have e1:a=[]:=by
   cases a with
   | nil=>rfl
   | cons r a=>have:=(hm r.a).2 (qg.2 (.inl (Ya (by simp)).1));simp at this
  have e2:b=[]:=by
   cases b with
   | nil=>rfl
   | cons r b=>have:=(hm r.a).2 (qg.2 (.inr (Ya (by simp)).1));simp at this
  have e3:out=[]:=by
   have:=h.len
   rcases hi2 with hh | hh
   ·simp at hh
   ·exact ql (by omega)
  rw[e1,e2,e3]
  simp[Qi,K3]
 ·have hL:0<L.length:=jf.2 h0
  have hil:i+1=L.length:=by omega
  have hq:L[i]?=some L[i]:=q9 (by omega)
  obtain⟨h1,h2⟩:=h.le _ hq
  by_cases hx:x<L[i]
  ·exact h2 x hx
  ·have hmax:∀y∈L,y<=L[i]:=λy hy=>by
    obtain⟨k,hk⟩:=qq hy
    obtain⟨hkl,hk'⟩:=q8.1 hk
    by_cases he:k=i
    ·subst he;omega
    ·have:=j4.1 hs k i hkl (by omega) (by omega);omega
   have n1:¬ Qb a x:=λ⟨r,hr,g1,g2⟩=>by have:=hmax r.b ((hm _).2 (qg.2 (.inl (Ya hr).2)));omega
   have n2:¬ Qb b x:=λ⟨r,hr,g1,g2⟩=>by have:=hmax r.b ((hm _).2 (qg.2 (.inr (Ya hr).2)));omega
   have n3:¬ Qb out x:=λ⟨r,hr,g1,g2⟩=>by have:=h1 r hr;omega
   rw[decide_eq_false n1,decide_eq_false n2,K3]
   simp[n3]
end Go.Abs
namespace Go.Abs
open Go.Sort
theorem Qcp {t:T3} {e:P2} (h:e∈Q7 t):e.x≠e.y:=by
 unfold Q7 Zn at h
 have:=(qu.1 h).2
 simpa using this
theorem Qd3 {l:List T3} {e:P2} (h:e∈Qa l):e.x≠e.y:=by
 obtain⟨t,_,ht⟩:=jm.1 h
 exact Qcp ht
theorem Qil {e:P2} (h:e.x<e.y):e.und=e:=by cases e;simp only[P2.und,P2.mk.injEq]at h ⊢;omega
theorem und_gt {e:P2} (h:¬ e.x<e.y):e.und=e.rev:=by cases e;simp only[P2.und,P2.rev,P2.mk.injEq]at h ⊢;omega
def isV (l:List Int):V:=.l 1 (l.map λx=>[.i .i64 x])
def bl (n:Nat) (g:Nat->Bool):List (List V):=(List.range n).map λj=>[.b (g j)]
theorem Q7n (n:Nat) (g:Nat->Bool):(bl n g).length=n:=by simp[bl]
theorem Q7o {n:Nat} {g:Nat->Bool} {i:Nat} (h:i<n):(bl n g)[i]?=some [.b (g i)]:=by simp[bl,h]
theorem bl_rep (n:Nat):List.replicate n [V.b false]=bl n (λ_=>false):=by
 apply qx
 intro i
 by_cases h:i<n
 ·rw[Q7o h];simp[h]
 ·rw[qk (by simp;omega),qk (by rw[Q7n];omega)]
theorem bl_set (n:Nat) (g:Nat->Bool) (i:Nat) (b:Bool):(bl n g).set i [.b b]=bl n (λj=>if j=i then b else g j):=by
 apply qx
 intro j
 by_cases h:j<n
 ·rw[Q7o h]
  by_cases hj:i=j
  ·subst hj
   rw[qm (by rw[Q7n];exact h),if_pos rfl]
  ·rw[qt hj,Q7o h,if_neg (λhh=>hj hh.symm)]
 ·rw[qk (by simp[Q7n];omega),qk (by rw[Q7n];omega)]
theorem bl_cl (n:Nat) (g:Nat->Bool) (k:Nat):∀el∈bl n g,∀x∈el,x.cl k=true:=by
 intro el hel x hx
 obtain⟨j,_,rfl⟩:=qo.1 hel
 simp at hx;subst hx;rfl
def ics (l:List Int):List (List V):=l.map λx=>[.i .i64 x]
def lsV (ls:List (List Int)):V:=.l 1 (ls.map λl=>[isV l])
def Held (b:Nat) (hx:List O) (ls:List (List Int)) (cells:List (List V)):Prop :=
 cells.length=ls.length/\∀(i:Nat) (c:List V) (l:List Int),cells[i]?=some c->ls[i]?=some l->∃j g,c=[.own (b+j) g 0 l.length]/\hx[j]?=some (.arr g 1 (ics l))
def Flt (hx:List O):Prop:=∀o∈hx,∀n,o.cl n
theorem Held.nil (b:Nat):Held b [] [] []:=⟨rfl,by simp⟩
theorem Held.app {b:Nat} {hx:List O} {ls:List (List Int)} {cells:List (List V)} (h:Held b hx ls cells) (l:List O):Held b (hx++l) ls cells :=
 ⟨h.1,λi c x h1 h2=>by obtain⟨j,g,h3,h4⟩:=h.2 i c x h1 h2;exact⟨j,g,h3,by rw[qd (q8.1 h4).1];exact h4⟩⟩
theorem Held.snoc {b:Nat} {hx:List O} {ls:List (List Int)} {cells:List (List V)} (h:Held b hx ls cells) {j g:Nat} {l:List Int} (hj:hx[j]?=some (.arr g 1 (ics l))):Held b hx (ls++[l]) (cells++[[.own (b+j) g 0 l.length]]):=by
 refine⟨by simp[h.1],λi c x h1 h2=>?_⟩
 by_cases hi:i<ls.length
 ·rw[qd (by rw[h.1];exact hi)]at h1
  rw[qd hi]at h2
  exact h.2 i c x h1 h2
 ·rw[qf (by rw[h.1];omega)]at h1
  rw[qf (by omega)]at h2
  have hi0:i-ls.length=0:=by
   have:=(q8.1 h2).1
   simp at this;omega
  rw[h.1,hi0]at h1
  rw[hi0]at h2
  simp at h1 h2
  subst h1;subst h2
  exact⟨j,g,rfl,hj⟩
theorem Held.cl {b:Nat} {hx:List O} {ls:List (List Int)} {cells:List (List V)} (h:Held b hx ls cells) {n:Nat} (hn:b+hx.length<=n):∀el∈cells,∀x∈el,x.cl n=true:=by
 intro el hel x hx'
 obtain⟨i,hi⟩:=qq hel
 have hlt:=(q8.1 hi).1
 obtain⟨j,g,rfl,h4⟩:=h.2 i el _ hi (q9 (by rw[<- h.1];exact hlt))
 have:=(q8.1 h4).1
 simp at hx';subst hx'
 simp[V.cl,V.cl1,V.cl0];omega
theorem Qeh (l:List Int):∀el∈ics l,∀x∈el,x.isD=true:=by
 intro el hel x hx
 obtain⟨a,_,rfl⟩:=qo.1 hel
 simp at hx;subst hx;rfl
theorem Q35 (l:List Int) (n:Nat):∀el∈ics l,∀x∈el,x.cl n=true:=λel hel x hx=>Kf n (Qeh l el hel x hx)
theorem Held.frz {b:Nat} {base hx:List O} {ls:List (List Int)} {cells:List (List V)} (h:Held b hx ls cells) (hb:base.length=b):cells.mapM (λel=>el.mapM (U3 (base++hx)))=some (ls.map λl=>[isV l]):=by
 induction cells generalizing ls with
 | nil =>
   have:=h.1
   simp at this
   obtain rfl:=List.length_eq_zero_iff.1 this.symm
   rfl
 | cons c cells ih =>
   have hl:=h.1
   cases ls with
   | nil=>simp at hl
   | cons l ls =>
     have h0:=h.2 0 c l rfl rfl
     obtain⟨j,g,rfl,hj⟩:=h0
     have ht:Held b hx ls cells:=⟨by simpa using hl,λi c x h1 h2=>h.2 (i+1) c x (by simpa using h1) (by simpa using h2)⟩
     have hg:(base++hx)[b+j]?=some (.arr g 1 (ics l)):=by rw[<- hb,Qc];exact hj
     have ha:(ics l).all (λx=>x.all V.isD)=true:=by
      rw[qj]
      exact λel hel=>qj.2 (Qeh l el hel)
     have hlen:(ics l).length=l.length:=by simp[ics]
     have hfr:U3 (base++hx) (.own (b+j) g 0 l.length)=some (isV l):=by
      have ht2:List.take l.length (ics l)=ics l:=qe (by omega)
      show _=some (V.l 1 (ics l))
      simp only[U3,Jd,hg]
      rw[List.drop_zero,ht2,if_pos ⟨trivial,by omega,ha⟩]
     simp[List.mapM_cons,hfr,ih ht]
theorem held_if {b:Nat} {base hx:List O} {ls:List (List Int)} {cells:List (List V)} (h:Held b hx ls cells) (hb:base.length=b) :
  (if ls.length<=cells.length then Option.map (V.l 1) (List.mapM (λel=>List.mapM (U3 (base++hx)) el) (List.take ls.length cells)) else none)=some (lsV ls):=by
 have h1:=h.frz hb
 have ht:List.take ls.length cells=cells:=qe (by rw[h.1];exact Nat.le_refl _)
 simp only[ht,h1,h.1,Nat.le_refl,if_true,Option.map_some,lsV]
theorem Qae {n:Nat} {g g':Nat->Bool} (h:∀j,j<n->g j=g' j):bl n g=bl n g':=by
 unfold bl
 exact jo λj hj=>by rw[h j (qy.1 hj)]
def mk (n:Nat) (done:List Int):List (List V):=bl n λj=>decide ((j:Int)∈done)
theorem mk_nil (n:Nat):List.replicate n [V.b false]=mk n []:=by rw[bl_rep];exact Qae λj _=>by simp
theorem Qkb {n:Nat} {d:List Int} {v:Int} (h0:0<=v):(mk n d).set v.toNat [.b true]=mk n (d++[v]):=by
 unfold mk
 rw[bl_set]
 refine Qae λj _=>?_
 by_cases hj:j=v.toNat
 ·have:(j:Int)=v:=by omega
  simp[hj,show ((v.toNat:Nat):Int)=v by omega]
 ·have:(j:Int)≠v:=by omega
  simp[hj,this]
theorem Qkc {n:Nat} {d:List Int} {v:Int} (h0:0<=v) (h1:v<n):(mk n d)[v.toNat]?=some [.b (decide (v∈d))]:=by
 unfold mk
 rw[Q7o (by omega),show ((v.toNat:Nat):Int)=v by omega]
theorem mk_cl (n:Nat) (d:List Int) (k:Nat):∀el∈mk n d,∀x∈el,x.cl k=true:=bl_cl _ _ _
theorem Flt.app {a b:List O} (h:Flt a) (k:Flt b):Flt (a++b):=λo ho n=>by
 rcases qg.1 ho with h1 | h1
 ·exact h o h1 n
 ·exact k o h1 n
theorem Flt.WeakH {hx l:List O} (h:Flt hx) (n:Nat):WeakH n (hx++l) hx:=Qd4 λo ho=>h o ho n
theorem Flt.WeakH' {hx:List O} (h:Flt hx) (n:Nat):Go.Abs.WeakH n hx hx:=by
 have:=h.WeakH (l:=[]) n
 rwa [List.append_nil]at this
section
variable {K β:Type} [DecidableEq K]
def Z7 (e:K):List (K × β)->Option (Nat × β)
 | []=>none
 | (k,n)::r=>if e=k then some (0,n) else (Z7 e r).map λp=>(p.1+1,p.2)
structure KeyOk (ls:List Nat) (en:K->V):Prop where
 shape:∀a,Za ls (en a)=true
 len:∀a,(en a).cells.length=ls.length
 eq:∀a b,Z8 ls (en a).cells (en b).cells=some (decide (a=b))
def asG (en:K->V) (ev:β->V) (p:K × β):V × V:=(en p.1,ev p.2)
theorem Xu {ls:List Nat} {en:K->V} (O:KeyOk ls en) (ev:β->V) (e:K):∀L:List (K × β),Qm ls (en e) (L.map (asG en ev))=some ((Z7 e L).map λp=>(p.1,ev p.2))
 | []=>by simp[Qm,O.shape,O.len,Z7]
 | (k,n)::r=>by
   simp only[List.map_cons,asG,Qm,Z7,O.shape,O.eq,Bool.and_self,if_true]
   by_cases h:e=k
   ·simp[h]
   ·simp only[h,decide_false,if_false]
    have:=Xu O ev e r
    rw[this]
    cases Z7 e r<;>rfl
theorem fndG_none {e:K}:∀{L:List (K × β)},Z7 e L=none↔e∉L.map Prod.fst
 | []=>by simp[Z7]
 | (k,n)::r=>by
   simp only[Z7]
   by_cases h:e=k
   ·simp[h]
   ·rw[if_neg h,Option.map_eq_none_iff,fndG_none (L:=r)]
    simp[h]
theorem Zt {e:K}:∀{L:List (K × β)} {i:Nat} {n:β},Z7 e L=some (i,n)->L[i]?=some (e,n)
 | [],i,n,h=>by simp[Z7]at h
 | (k,m)::r,i,n,h=>by
   simp only[Z7]at h
   by_cases hk:e=k
   ·simp[hk]at h;obtain⟨rfl,rfl⟩:=h;simp[hk]
   ·simp only[hk,if_false,qa,Prod.mk.injEq]at h
    obtain⟨⟨j,n1⟩,hj,rfl,rfl⟩:=h
    simpa using Zt hj
theorem Yj:∀{L:List (K × β)} {i:Nat} {e:K} {n:β},(L.map Prod.fst).Nodup->L[i]?=some (e,n)->Z7 e L=some (i,n)
 | [],i,e,n,_,h=>by simp at h
 | (k,m)::r,0,e,n,_,h=>by simp at h;obtain⟨rfl,rfl⟩:=h;simp[Z7]
 | (k,m)::r,i+1,e,n,hn,h=>by
   simp only[List.map_cons,List.nodup_cons]at hn
   simp only[List.getElem?_cons_succ]at h
   have hk:¬ e=k:=by
    rintro rfl
    exact hn.1 (qo.2 ⟨(e,n),qb h,rfl⟩)
   simp[Z7,hk,Yj hn.2 h]
theorem Wa {e e':K} {n:β}:∀{L:List (K × β)},Z7 e L=none->Z7 e' (L++[(e,n)])=if e'=e then some (L.length,n) else Z7 e' L
 | [],_=>by simp[Z7]
 | (k,m)::r,h=>by
   simp only[Z7]at h
   by_cases hk:e=k
   ·simp[hk]at h
   ·simp only[hk,if_false,Option.map_eq_none_iff]at h
    by_cases he:e'=e
    ·subst he;simp[Z7,hk,Wa h]
    ·simp only[List.cons_append,Z7,Wa h,he,if_false]
theorem Ia {e e':K} {n':β}:∀{L:List (K × β)} {i:Nat} {n:β},Z7 e L=some (i,n)->Z7 e' (L.set i (e,n'))=if e'=e then some (i,n') else Z7 e' L
 | [],i,n,h=>by simp[Z7]at h
 | (k,m)::r,i,n,h=>by
   simp only[Z7]at h
   by_cases hk:e=k
   ·simp[hk]at h;obtain⟨rfl,rfl⟩:=h
    subst hk
    by_cases he:e'=e<;>simp[Z7,he]
   ·simp only[hk,if_false,qa,Prod.mk.injEq]at h
    obtain⟨⟨j,n1⟩,hj,rfl,rfl⟩:=h
    have:=Ia (e':=e') (n':=n') hj
    by_cases he:e'=e
    ·subst he;simp[Z7,hk,this]
    ·simp only[List.set_cons_succ,Z7,this,he,if_false]
def Q93 (e:K) (n:β) (L:List (K × β)):List (K × β):=match Z7 e L with | some (i,_)=>L.set i (e,n) | none=>L++[(e,n)]
theorem Qlw (e e':K) (n:β) (L:List (K × β)):(Z7 e' (Q93 e n L)).map Prod.snd=if e'=e then some n else (Z7 e' L).map Prod.snd:=by
 unfold Q93
 cases h:Z7 e L with
 | none=>simp only[Wa h];split<;>simp
 | some p=>obtain⟨i,m⟩:=p;simp only[Ia h];split<;>simp
theorem Qg6 (e:K) (n:β) (L:List (K × β)):(Q93 e n L).map Prod.fst=if e∈L.map Prod.fst then L.map Prod.fst else L.map Prod.fst++[e]:=by
 unfold Q93
 cases h:Z7 e L with
 | none=>rw[if_neg (fndG_none.1 h)];simp
 | some p =>
   obtain⟨i,m⟩:=p
   have h1:=Zt h
   rw[if_pos (qo.2 ⟨(e,m),qb h1,rfl⟩)]
   simp only[List.map_set]
   apply qx
   intro j
   by_cases hj:i=j
   ·subst hj
    have:=(q8.1 h1).1
    rw[qm (by simpa using this)]
    simp[h1]
   ·rw[qt hj]
end
theorem W6:KeyOk [1,1] P2.enc:=⟨λ_=>rfl,λ_=>rfl,veq2⟩
def kt {K:Type} (en:K->V) (v:K):V × V:=(en v,.b true)
theorem Q1o (t:V3) (n:Nat):(∀y∈t.cs,y.cl n=true)=True:=by simp[V3.cs,V.cl,V.cl1,V.cl0]
theorem Ka (t:T3) (n:Nat):(∀y∈t.cs,y.cl n=true)=True:=by simp[T3.cs,V.cl,V.cl1,V.cl0]
end Go.Abs
