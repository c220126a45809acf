/- Part of the library on which the proof stands: an abstract machine, its values and its soundness against the model; or what functions of the program do to such values. -/
import Derived.Test.YtnaehggpjfdenaaGreatGoRsE
set_option linter.unusedVariables false
set_option linter.unusedSimpArgs false
set_option maxHeartbeats 8000000
set_option maxRecDepth 20000
namespace Go.Abs
def hiK (m:Int) (l:List E5):Int:=l.foldl (λm e=>max m e.hi.y) m
theorem Qxq (m:Int) (l:List E5) (e:E5):hiK m (l++[e])=max (hiK m l) e.hi.y:=by simp[hiK]
theorem Qxr:∀(l:List E5) (m:Int),m<=hiK m l/\∀e∈l,e.hi.y<=hiK m l
 | [],m=>⟨Int.le_refl _,by simp⟩
 | e::l,m=>by
   obtain⟨h1,h2⟩:=Qxr l (max m e.hi.y);have h3:hiK m (e::l)=hiK (max m e.hi.y) l:=rfl;rw[h3];refine⟨by omega,λx hx=>?_⟩;rcases List.mem_cons.1 hx with rfl | hx
   ·omega
   ·exact h2 x hx
theorem Qh2:∀(l:List E5) (m:Int),-65536<=m->m<=65536->(∀e∈l,E5B e)->-65536<=hiK m l/\hiK m l<=65536
 | [],m,h1,h2,_=>⟨h1,h2⟩
 | e::l,m,h1,h2,h3=>by
   have hb:=h3 e (by simp);have:=hb.d1;have:=hb.d2;exact Qh2 l (max m e.hi.y) (by omega) (by omega) λx hx=>h3 x (by simp[hx])
def Yd (l:List E5) (k:Int):Int × Int:=match l with
 | []=>(0,0)
 | e::_=>(max (-4096) (e.lo.y / k),max 0 (min 4095 (hiK e.hi.y l / k)-max (-4096) (e.lo.y / k)+1))
theorem Q2o {n k:Int} (hk:PitchOk k) (h1:-65536<=n) (h2:n<=65536):-2048<=n / k/\n / k<=2048:=by
 have hp:(0:Int)<k:=by have:=hk.lo;omega
 constructor
 ·rw[Int.le_ediv_iff_mul_le hp];have:-2048*k<=-2048*32:=Int.mul_le_mul_of_nonpos_left (by omega) (by have:=hk.lo;omega);omega
 ·have:n / k<2049:=by
   rw[Int.ediv_lt_iff_lt_mul hp];have:2049*32<=2049*k:=jm hk.lo (by omega);omega
  omega
theorem Qdu {l:List E5} {k:Int} (hl:∀e∈l,E5B e) (hp:l.Pairwise λa b=>a.lo.y<=b.lo.y) (hk:PitchOk k):(-4096<=(Yd l k).1/\(Yd l k).1<=2048)/\(0<=(Yd l k).2/\(Yd l k).2<=8192)/\((Yd l k).1+(Yd l k).2<=4096) /\
  ∀y,-4096<=y->y<4096->(∃e∈l,onE (y*k+k / 2) e=true)->(Yd l k).1<=y/\y<(Yd l k).1+(Yd l k).2:=by
 have hk0:(0:Int)<k:=by have:=hk.lo;omega
 cases l with
 | nil=>unfold Yd;simp
 | cons e t =>
   have hb:=hl e (by simp);obtain⟨b1,b2⟩:=Qh2 (e::t) e.hi.y hb.d1 hb.d2 hl;obtain⟨g1,g2⟩:=Qxr (e::t) e.hi.y;have f1:=Q2o hk hb.b1 hb.b2;have f2:=Q2o hk b1 b2;have hpc:=(jd.1 hp).1;unfold Yd;simp only[];generalize hiK e.hi.y (e::t)=H at *
   have h3:∀y,(∃x∈e::t,onE (y*k+k / 2) x=true)->e.lo.y / k<=y/\y<=H / k:=by
    rintro y ⟨x,hx,hon⟩;unfold onE at hon;simp only[Bool.and_eq_true,decide_eq_true_eq]at hon;have hlo:e.lo.y<=x.lo.y:=by
     rcases List.mem_cons.1 hx with rfl | hx
     ·exact Int.le_refl _
     ·exact hpc x hx
    have hhi:=g2 x hx;have hm:(y+1)*k=y*k+k:=by rw[Int.add_mul];omega
    have q1:e.lo.y / k<y+1:=by
     rw[Int.ediv_lt_iff_lt_mul hk0,hm];omega
    have q2:y<=H / k:=by
     rw[Int.le_ediv_iff_mul_le hk0];omega
    omega
   refine⟨by omega,by omega,by omega,λy h1 h2 h4=>?_⟩;have:=h3 y h4;omega
def Z08 (P:Program) (f:FuncId):Prop:=∀(l:List E5) (k:Int),(∀e∈l,E5B e)->l.length<=4096->PitchOk k->CallIs P f [e5V l,.i .i64 k] (.t [.i .i64 (Yd l k).1,.i .i64 (Yd l k).2])
theorem mx_if (a b:Int):(if a<b then b else a)=max a b:=by split<;>omega
section
variable {P:Program} (hm:P.follows .mixedOrders=true)
include hm
theorem Q9k {f fl:FuncId} (hf:Q5 P f (L0w.c fl) L0w.r L0w.n) (hfl:Qi6 P fl):Z08 P f:=by
 intro l k hl hlen hk;refine PI hm hf ?_;unfold L0w.c;cases l with
 | nil=>simp[go_sem,e5V,L0w.r,Yd]
 | cons e t =>
   have hb:=hl e (by simp);obtain⟨b1,b2⟩:=Qh2 (e::t) e.hi.y hb.d1 hb.d2 hl;have hrv:Yd (e::t) k=(max (-4096) (e.lo.y / k),max 0 (min 4095 (hiK e.hi.y (e::t) / k)-max (-4096) (e.lo.y / k)+1)):=rfl;have h0:(e::t)[0]?=some e:=rfl;have hbk:∀i,-65536<=hiK e.hi.y ((e::t).take i)/\hiK e.hi.y ((e::t).take i)<=65536:=λi=>Qh2 _ e.hi.y hb.d1 hb.d2 λx hx=>hl x (jp hx)
   have hlp:0<(e::t).length:=by simp
   generalize hL:e::t=L at *
   obtain⟨_,h0'⟩:=q8.1 h0;have hLn:¬ L=[]:=by rintro rfl;simp at hlp
   simp[go_sem,e5V,h0,h0',hlp,hLn,E5.cs];obtain⟨M,hM⟩:∃M:Nat->Int,∀i,M i=hiK e.hi.y (L.take i):=⟨_,λ_=>rfl⟩
   have hM0:M 0=e.hi.y:=by rw[hM];rfl
   refine Q8 (α:=Nat) (λi=>i<=L.length)
    (λi=>⟨[(0,e5V L),(1,.i .i64 k),(6,.i .i64 (M i)),(21,e5V L),(22,.i .i64 L.length),(23,.i .i64 i)],[]⟩)
    (λi=>L.length-i) 0 (Nat.zero_le _) ?_ ?_
   ·simp[go_sem,e5V,hM0,E5.cs]
    done
   ·intro i hi;by_cases hil:i=L.length
    ·subst hil;have hMl:M L.length=hiK e.hi.y L:=by rw[hM,qi]
     rw[hMl];generalize hiK e.hi.y L=H at *
     have f1:=Q2o hk hb.b1 hb.b2;have f2:=Q2o hk b1 b2;have k1:=hk.lo;have k2:=hk.hi;have c1:=hfl e.lo.y k (by have:=hb.b1;omega) (by have:=hb.b2;omega) (by omega) (by omega);have c2:=hfl H k (by omega) (by omega) (by omega) (by omega);simp (disch:=omega) [go_sem,e5V,h0,h0',hlp,hLn,E5.cs];refine Q2 c1 ?_;simp (disch:=omega) [go_sem,e5V,h0,h0',hlp,hLn,E5.cs];refine Q2 c2 ?_
     generalize e.lo.y / k=A at *
     generalize H / k=B at *
     rw[hrv];simp (disch:=omega) [go_sem,L0w.r,Q0];refine⟨?_,?_⟩<;>(repeat' split)<;>omega
    ·have hlt:i<L.length:=by omega
     have hq:L[i]?=some L[i]:=q9 hlt;have hMs:M (i+1)=max (M i) L[i].hi.y:=by rw[hM,hM,Q6 hq,Qxq]
     generalize L[i]=x at *
     obtain⟨_,hq'⟩:=q8.1 hq;simp (disch:=omega) [go_sem,e5V,hlt,hq,hq',E5.cs,mx_if,Q0];exact⟨i+1,by omega,by omega,hMs.symm,by omega⟩
end
def Rw.cs (w:Rw):List V:=[.i .i64 w.y,Q9 w.rs]
def rgV (g:List Rw):V:=.a [.l 2 (g.map Rw.cs)]
theorem Q8w (l:List Rw):∀w∈l,∀y∈w.cs,y.isD=true:=λw _ y hy=>by
 simp[Rw.cs]at hy
 rcases hy with rfl | rfl<;>rfl
theorem Yp (l:List Rw) (n:Nat):∀w∈l,∀x∈w.cs,x.cl n=true:=λw hw x hx=>K4 n (Q8w l w hw x hx)
def E6 (F:Int->List Rn) (a:Int) (n:Nat):List Rw:=((List.range n).map λ(j:Nat)=>Rw.mk (a+j) (F (a+j))).filter λw=>decide (w.rs≠[])
theorem Qm0 (F:Int->List Rn) (a:Int) (n:Nat):E6 F a (n+1)=E6 F a n++(if F (a+n)=[] then [] else [⟨a+n,F (a+n)⟩]):=by
 unfold E6;rw[List.range_succ,qx,List.filter_append];congr 1;by_cases h:F (a+n)=[]
 ·simp[h]
 ·simp[h]
theorem Qr2 (F:Int->List Rn) (a:Int) (n:Nat):(E6 F a n).length<=n:=by
 unfold E6;refine Nat.le_trans (jc _ _) ?_;simp
theorem mem_rowsT {F:Int->List Rn} {a:Int} {n:Nat} {w:Rw}:w∈E6 F a n↔(∃j:Nat,j<n/\w=⟨a+j,F (a+j)⟩)/\w.rs≠[]:=by
 unfold E6;rw[qu,qo];simp only[qz,decide_eq_true_eq];constructor
 ·rintro⟨⟨j,h1,rfl⟩,h2⟩;exact⟨⟨j,h1,rfl⟩,h2⟩
 ·rintro⟨⟨j,h1,rfl⟩,h2⟩;exact⟨⟨j,h1,rfl⟩,h2⟩
theorem rowsT_v {F:Int->List Rn} {a:Int} {n:Nat} (h:∀j:Nat,j<n->RnsV (F (a+j))):RgV (E6 F a n):=by
 refine⟨λw hw=>?_,λw hw=>(mem_rowsT.1 hw).2,?_⟩
 ·obtain⟨⟨j,hj,rfl⟩,_⟩:=mem_rowsT.1 hw;exact h j hj
 ·unfold E6;refine List.Pairwise.filter _ ?_;rw[ji];exact List.pairwise_lt_range.imp λ{a b} h=>by simp only[];omega
theorem Qxm {F:Int->List Rn} {a:Int} {n:Nat} {y x:Int}:Zx (E6 F a n) y x↔(a<=y/\y<a+n)/\Qb (F y) x:=by
 unfold Zx;constructor
 ·rintro⟨w,hw,rfl,hx⟩;obtain⟨⟨j,hj,rfl⟩,_⟩:=mem_rowsT.1 hw;exact⟨by simp only[];omega,hx⟩
 ·rintro⟨⟨h1,h2⟩,hx⟩;refine⟨⟨y,F y⟩,mem_rowsT.2 ⟨⟨(y-a).toNat,by omega,?_⟩,?_⟩,rfl,hx⟩
  ·rw[show a+((y-a).toNat:Int)=y by omega]
  ·rintro h0;simp only at h0;rw[h0]at hx
   exact Qj _ hx
theorem Qq6 {l l':List E5} (h:l.Perm l') (k cy:Int):(Y3 l k cy).Perm (Y3 l' k cy):=(h.filter _).map _
theorem Qv9 {es:List Eg} {l:List E5} {k:Int} (hB:EgB es 65536) (hl:l.Perm (Wn es)) (hs:l.Pairwise λa b=>a.lo.y<=b.lo.y) (hk:PitchOk k) {F:Int->List Rn}
  (hF:∀y,-10000<=y->y<=10000->RnsV (F y)/\∀x,Qb (F y) x↔(-4096<=x/\x<4096)/\0<Xp (Y3 l k (y*k+k / 2)) x):E6 F (Yd l k).1 (Yd l k).2.toNat=Ul es k:=by
 have hlB:∀e∈l,E5B e:=λe he=>Qml hB (hl.mem_iff.1 he)
 obtain⟨r1,r2,r3,r4⟩:=Qdu hlB hs hk;generalize Yd l k=an at *
 obtain⟨a,n⟩:=an;simp only at r1 r2 r3 r4 ⊢;unfold Ul;refine Q4r (rowsT_v λj hj=>(hF _ (by omega) (by omega)).1) λy x=>?_
 have hsum:Xp (Y3 (es.filterMap Q0t) k (y*k+k / 2)) x=Xp (Y3 l k (y*k+k / 2)) x:=(Q8j (Qq6 hl k _) x).symm;rw[Qxm,decide_eq_true_eq,Qii (by have:=hk.lo;omega),hsum];constructor
 ·rintro⟨⟨h1,h2⟩,hx⟩;obtain⟨h3,h4⟩:=((hF y (by omega) (by omega)).2 x).1 hx;exact⟨by omega,h3,h4⟩
 ·rintro⟨⟨h1,h2⟩,h3,h4⟩;refine⟨?_,((hF y (by omega) (by omega)).2 x).2 ⟨h3,h4⟩⟩;have h5:∃e∈l,onE (y*k+k / 2) e=true:=by
   refine Classical.byContradiction λhn=>?_
   have h6:Y3 l k (y*k+k / 2)=[]:=by
    unfold Y3;rw[List.filter_eq_nil_iff.2]
    ·rfl
    ·intro e he ho;exact hn ⟨e,he,ho⟩
   rw[h6,Kk]at h4
   omega
  have:=r4 y h1 h2 h5;omega
noncomputable def Xr (ps:List (List P2)) (k:Int):List Rw × Int:=if Z1 k 32 1024=false then ([],1) else (Ul (ps.flatMap Qu) k,0)
def Ba (P:Program) (f:FuncId):Prop:=∀(ps:List (List P2)) (k:Int),PolyOk ps->CallIs P f [Qd ps,.i .i64 k] (.t [rgV (Xr ps k).1,.i .i64 (Xr ps k).2])
section
variable {P:Program} (hm:P.follows .mixedOrders=true)
include hm
theorem Q3r {f fc fe fr fw:FuncId} (hf:Q5 P f (L0o.c fc fe fr fw) L0o.r L0o.n) (hc:Bd P fc) (he:Qi8 P fe) (hr:Z08 P fr) (hw:Z09 P fw):Ba P f:=by
 intro ps k hps;have hcc:=hc ps k hps;cases hev:Z1 k 32 1024 with
 | false =>
   rw[hev]at hcc
   have hR:Xr ps k=([],1):=by unfold Xr;rw[if_pos hev]
   rw[hR];refine CallIs.res (r:=.t [.a [.nil],.i .i64 1]) ?_ (.inr ⟨_,_,rfl,rfl,.inr ⟨_,_,rfl,rfl,Le0.nil 2,trivial⟩,Le1.refl _,trivial⟩);refine PI hm hf ?_;unfold L0o.c;simp[go_sem,Qd];refine Q2 hcc ?_;simp[go_sem,L0o.r]
   done
 | true =>
   rw[hev]at hcc
   have hk:PitchOk k:=by
    unfold Z1 at hev;simp only[Bool.and_eq_true,decide_eq_true_eq]at hev;exact⟨hev.1.1,hev.1.2,hev.2⟩
   have hR:Xr ps k=(Ul (ps.flatMap Qu) k,0):=by unfold Xr;rw[if_neg (by rw[hev];simp)]
   rw[hR];obtain⟨l,hl,hsl,hec⟩:=he ps hps;have hlB:∀e∈l,E5B e:=λe he=>Qml hps.bd (hl.mem_iff.1 he)
   have hll:l.length<=4096:=by have:=hl.length_eq;have:=Q2g (ps.flatMap Qu);have:=hps.cnt;omega
   have hrc:=hr l k hlB hll hk;have hwe:=λy h1 h2=>hw l k y hlB hsl hll hk h1 h2
   obtain⟨F,hF⟩:∃F:Int->List Rn,∀y,-10000<=y->y<=10000->RnsV (F y)/\(∀x,Qb (F y) x↔(-4096<=x/\x<4096)/\0<Xp (Y3 l k (y*k+k / 2)) x)/\CallIs P fw [e5V l,.i .i64 k,.i .i64 y] (Q9 (F y)):=by
    refine⟨λy=>open Classical in if h:-10000<=y/\y<=10000 then Classical.choose (hwe y h.1 h.2) else [],λy h1 h2=>?_⟩;simp only[dif_pos (show -10000<=y/\y<=10000 from ⟨h1,h2⟩)];exact Classical.choose_spec (hwe y h1 h2)
   have hG:=Qv9 hps.bd hl hsl hk (F:=F) λy h1 h2=>⟨(hF y h1 h2).1,(hF y h1 h2).2.1⟩
   obtain⟨r1,r2,r3,_⟩:=Qdu hlB hsl hk;generalize Yd l k=an at *
   obtain⟨a,n⟩:=an;simp only at r1 r2 r3 hrc hG;obtain⟨N,hN⟩:∃N:Nat,n=N:=⟨n.toNat,by omega⟩
   subst hN;rw[Int.toNat_natCast]at hG
   obtain⟨T,hT⟩:∃T:Nat->List Rw,∀i,T i=E6 F a i:=⟨_,λ_=>rfl⟩
   have hT0:T 0=[]:=by rw[hT];rfl
   rw[<- hT]at hG
   refine PI hm hf ?_;unfold L0o.c;simp[go_sem,Qd];refine Q2 hcc ?_;simp[go_sem,Qd];refine Q2 hec ?_;simp[go_sem];refine Q2 hrc ?_;simp[go_sem];refine Qi [.c 1 0 0 2] (α:=Nat) (λi=>i<=N)
    (λi=>⟨[(1,.i .i64 k),(4,.p 0 1 0 0),(7,e5V l),(8,.i .i64 a),(10,.p 1 1 0 0),(28,.i .i64 N),(29,.i .i64 i)],[.arr 1 1 [[.nil]],.arr 1 1 [[.own 2 ((T i).length+1) 0 (T i).length]],.arr ((T i).length+1) 2 ((T i).map Rw.cs)]⟩)
    (λi=>N-i) 0 (Nat.zero_le _) ?_ ?_
   ·simp[go_sem,hT0,e5V]
    done
   ·intro i hi;by_cases hil:i=N
    ·subst hil;rw[hG];simp[go_sem,L0o.r];rw[if_pos (Q8w _)];rfl
    ·have hlt:i<N:=by omega
     have hTs:T (i+1)=T i++(if F (a+i)=[] then [] else [⟨a+i,F (a+i)⟩]):=by rw[hT,Qm0,<- hT]
     have hTl:(T i).length<=i:=by rw[hT];exact Qr2 F a i
     obtain⟨_,_,hFc⟩:=hF (a+i) (by omega) (by omega);generalize F (a+i)=rs at *
     have htk:List.take (T i).length ((T i).map Rw.cs)=(T i).map Rw.cs:=qe (by simp);simp (disch:=omega) [go_sem,hlt,Q0];refine Q2 hFc ?_;by_cases hrs:rs=[]
     ·rw[if_pos hrs,List.append_nil]at hTs
      simp (disch:=omega) [go_sem,Q9,hrs,Q0];exact⟨i+1,by omega,by omega,⟨.inr rfl,by omega⟩,by rw[hTs],⟨by rw[hTs],by rw[hTs]⟩,Yp _ _⟩
     ·rw[if_neg hrs]at hTs
      have hrl:0<rs.length:=by cases rs with | nil=>exact absurd rfl hrs | cons a b=>simp
      simp (disch:=omega) [go_sem,Q9,hrl,htk,Q0];exact⟨⟨by omega,by omega⟩,i+1,by omega,by omega,⟨.inr rfl,by omega⟩,by rw[hTs];simp,⟨by rw[hTs];simp,by rw[hTs];simp[Rw.cs,Q9]⟩,Yp _ _⟩
end
def CrsC (P:Program) (f:FuncId):Prop:=∀a b p:P2,a.valid=true->b.valid=true->p.valid=true->CallIs P f [a.enc,b.enc,p.enc] (.i .i64 (Wf (a,b) p))
def Qzs (P:Program) (f:FuncId):Prop:=∀(ps:List (List P2)) (p:P2),PolyOk ps->p.valid=true->CallIs P f [Qd ps,p.enc] (.i .i64 (wnd (ps.flatMap Qu) p))
def Qi5 (P:Program) (f:FuncId):Prop:=∀(ps:List (List P2)) (p:P2),PolyOk ps->p.valid=true->CallIs P f [Qd ps,p.enc] (.b (decide (0<wnd (ps.flatMap Qu) p)))
def Qie (P:Program) (f:FuncId):Prop:=∀x y k:Int,-4096<=x->x<4096->-4096<=y->y<4096->PitchOk k->CallIs P f [(⟨x,y⟩:P2).enc,.i .i64 k] (ctr k y x).enc
theorem Qpm (e:Eg) (p:P2):-1<=Wf e p/\Wf e p<=1:=by
 unfold Wf;split
 ·omega
 ·split<;>omega
theorem Qle:∀(es:List Eg) (p:P2),-(es.length:Int)<=wnd es p/\wnd es p<=es.length
 | [],p=>by simp[Q7m]
 | e::es,p=>by
   have h1:=Qpm e p;have h2:=Qle es p;rw[Kt];simp only[List.length_cons];omega
theorem Qsr {k y x:Int} (hk:PitchOk k) (h1:-4096<=x) (h2:x<4096) (h3:-4096<=y) (h4:y<4096):(ctr k y x).valid=true:=by
 have m1:=Ja (a:=x) (b:=k) (k:=4096) (m:=1024) (by omega) (by have:=hk.lo;have:=hk.hi;omega);have m2:=Ja (a:=y) (b:=k) (k:=4096) (m:=1024) (by omega) (by have:=hk.lo;have:=hk.hi;omega);have:=hk.lo;have:=hk.hi;refine P2.valid_iff.2 ?_;unfold ctr;simp only[];omega
section
variable {P:Program} (hm:P.follows .mixedOrders=true)
include hm
theorem Q62 {f:FuncId} (hf:Q5 P f L2k.c L2k.r L2k.n):Qie P f:=by
 intro x y k h1 h2 h3 h4 hk;have m1:=Ja (a:=x) (b:=k) (k:=4096) (m:=1024) (by omega) (by have:=hk.lo;have:=hk.hi;omega);have m2:=Ja (a:=y) (b:=k) (k:=4096) (m:=1024) (by omega) (by have:=hk.lo;have:=hk.hi;omega);have k1:=hk.lo;have k2:=hk.hi;have hq:=quoK hk;refine PI hm hf ?_;unfold L2k.c ctr;generalize hA:x*k=A at *
 generalize hB:y*k=B at *
 have w1:IntKind.i64.wrap A=A:=Q0 (by omega) (by omega);have w2:IntKind.i64.wrap B=B:=Q0 (by omega) (by omega);have w3:IntKind.i64.wrap (k / 2)=k / 2:=Q0 (by omega) (by omega);have w4:IntKind.i64.wrap (A+k / 2)=A+k / 2:=Q0 (by omega) (by omega);have w5:IntKind.i64.wrap (B+k / 2)=B+k / 2:=Q0 (by omega) (by omega)
 simp[go_sem,P2.enc,P2.cs,show ¬ x < -4096 by omega,show ¬ 4096<=x by omega,show ¬ y < -4096 by omega,show ¬ 4096<=y by omega,show ¬ k<32 by omega,show ¬ 1024<k by omega,hq,hA,hB,w1,w2,w3,w4,w5,L2k.r]
theorem Q3j {f fv ft:FuncId} (hf:Q5 P f (L25.c fv ft) L25.r L25.n) (hv:Ji P fv) (ht:Qzw P ft):CrsC P f:=by
 intro a b p ha hb hp;have v1:=hv a;have v2:=hv b;rw[ha]at v1
 rw[hb]at v2
 have t1:=ht a b p;have hc2:Wp a b p=Ye a b p:=if_pos ⟨ha,hb,hp⟩;unfold Qug at t1;rw[hc2]at t1
 refine PI hm hf ?_;unfold L25.c Wf;generalize Ye a b p=c at *
 simp only[];have e1:a.enc=V.a [V.i .i64 a.x,V.i .i64 a.y]:=rfl;have e2:b.enc=V.a [V.i .i64 b.x,V.i .i64 b.y]:=rfl;have e3:p.enc=V.a [V.i .i64 p.x,V.i .i64 p.y]:=rfl;rw[e1]at v1
 rw[e2]at v2
 rw[e1,e2,e3]at t1
 by_cases h1:a.y<=p.y
 ·by_cases h2:p.y<b.y
  ·by_cases h3:0<c
   ·rw[if_pos h3]at t1
    rw[if_pos ⟨h1,h2,h3⟩];simp[go_sem,e1,e2,e3];refine Q2 v1 ?_;simp[go_sem];refine Q2 v2 ?_;simp[go_sem,h1,h2];refine Q2 t1 ?_;simp[go_sem,L25.r]
   ·rw[if_neg h3]at t1
    rw[if_neg (λh=>h3 h.2.2),if_neg (by omega)];have h4:¬ 0<(if c<0 then (-1:Int) else 0):=by split<;>omega
    generalize (if c<0 then (-1:Int) else 0)=q at *
    simp[go_sem,e1,e2,e3];refine Q2 v1 ?_;simp[go_sem];refine Q2 v2 ?_;simp[go_sem,h1,h2];refine Q2 t1 ?_;simp[go_sem,h4,show ¬ b.y<=p.y by omega,L25.r]
  ·rw[if_neg (λh=>h2 h.2.1),if_neg (by omega)];simp[go_sem,e1,e2,e3];refine Q2 v1 ?_;simp[go_sem];refine Q2 v2 ?_;simp[go_sem,h1,h2,show b.y<=p.y by omega,show ¬ p.y<a.y by omega,L25.r]
 ·rw[if_neg (λh=>h1 h.1)];by_cases h2:b.y<=p.y
  ·have h5:p.y<a.y:=by omega
   by_cases h3:0<c
   ·rw[if_pos h3]at t1
    rw[if_neg (by omega)];simp[go_sem,e1,e2,e3];refine Q2 v1 ?_;simp[go_sem];refine Q2 v2 ?_;simp[go_sem,h1,h2,h5];refine Q2 t1 ?_;simp[go_sem,L25.r]
   ·rw[if_neg h3]at t1
    by_cases h4:c<0
    ·rw[if_pos h4]at t1
     rw[if_pos ⟨h2,h5,h4⟩];simp[go_sem,e1,e2,e3];refine Q2 v1 ?_;simp[go_sem];refine Q2 v2 ?_;simp[go_sem,h1,h2,h5];refine Q2 t1 ?_;simp[go_sem,L25.r]
    ·rw[if_neg h4]at t1
     rw[if_neg (by omega)];simp[go_sem,e1,e2,e3];refine Q2 v1 ?_;simp[go_sem];refine Q2 v2 ?_;simp[go_sem,h1,h2,h5];refine Q2 t1 ?_;simp[go_sem,L25.r]
  ·rw[if_neg (λh=>h2 h.1)];simp[go_sem,e1,e2,e3];refine Q2 v1 ?_;simp[go_sem];refine Q2 v2 ?_;simp[go_sem,h1,h2,L25.r]
theorem Q67 {f fw:FuncId} (hf:Q5 P f (L23.c fw) L23.r L23.n) (hw:Qzs P fw):Qi5 P f:=by
 intro ps p hps hp;have h:=hw ps p hps hp;refine PI hm hf ?_;unfold L23.c;simp[go_sem,Qd,P2.enc,P2.cs];refine Q2 h ?_;simp[go_sem,L23.r]
theorem Q3k {f fv fc:FuncId} (hf:Q5 P f (L24.c fv fc) L24.r L24.n) (hv:Ji P fv) (hc:CrsC P fc):Qzs P f:=by
 intro ps pp hps hp;have v1:=hv pp;rw[hp]at v1
 have hpl:=hps.num;have e3:pp.enc=V.a [V.i .i64 pp.x,V.i .i64 pp.y]:=rfl;rw[e3]at v1
 refine PI hm hf ?_;unfold L24.c;simp[go_sem,Qd,e3];refine Q2 v1 ?_;simp[go_sem,Qd];obtain⟨A,hA⟩:∃A:Nat->Int,∀i,A i=wnd ((ps.take i).flatMap Qu) pp:=⟨_,λ_=>rfl⟩
 have hA0:A 0=0:=by rw[hA];rfl
 have hAn:A ps.length=wnd (ps.flatMap Qu) pp:=by rw[hA,qi]
 refine Q8 (α:=Nat) (λi=>i<=ps.length)
  (λi=>⟨[(3,.p 0 1 0 0),(5,.i .i64 (A i)),(12,Qd ps),(13,.i .i64 ps.length),(14,.i .i64 i)],[.arr 1 2 [pp.cs]]⟩)
  (λi=>ps.length-i) 0 (Nat.zero_le _) ?_ ?_
 ·simp[go_sem,Qd,hA0,P2.cs]
 ·intro i hi;by_cases hil:i=ps.length
  ·subst hil;rw[hAn];simp[go_sem,Qd,L24.r]
  ·have hlt:i<ps.length:=by omega
   have hq:ps[i]?=some ps[i]:=q9 hlt;have hln:=hps.len hq;have hAs:A (i+1)=A i+wnd (Qu ps[i]) pp:=by rw[hA,hA,Q6 hq,List.flatMap_append,Qog];simp
   have hAb:=Qle ((ps.take i).flatMap Qu) pp;rw[<- hA]at hAb
   have hpt:∀v∈ps[i],v.valid=true:=λv hv=>by
    have:=hps.pt (qb hq) hv;exact P2.valid_iff.2 (by omega)
   generalize ps[i]=p at *
   obtain⟨_,hq'⟩:=q8.1 hq;generalize A i=B at *
   simp (disch:=omega) [go_sem,Qd,psV,P2.cs,hlt,hq,hq',Q0];obtain⟨C,hC⟩:∃C:Nat->Int,∀j,C j=B+wnd (W3 p j) pp:=⟨_,λ_=>rfl⟩
   refine Q8 (α:=Nat) (λj=>j<=p.length)
    (λj=>⟨[(3,.p 0 1 0 0),(5,.i .i64 (C j)),(7,.p 1 1 0 0),(12,Qd ps),(13,.i .i64 ps.length),(14,.i .i64 i),(19,psV p),(20,.i .i64 p.length),(21,.i .i64 j)],[.arr 1 2 [pp.cs],.arr 1 1 [[psV p]]]⟩)
    (λj=>p.length-j) 0 (Nat.zero_le _) ?_ ?_
   ·have hC0:C 0=B:=by rw[hC];simp[W3,Q7m]
    simp[go_sem,Qd,psV,hC0,P2.cs]
   ·intro j hj;by_cases hjl:j=p.length
    ·subst hjl;have hCn:C p.length=A (i+1):=by rw[hC,Qdy,hAs]
     rw[hCn];simp (disch:=omega) [go_sem,Qd,psV,Q0];exact⟨i+1,by omega,by omega,⟨rfl,by omega⟩,rfl⟩
    ·have hjt:j<p.length:=by omega
     have hCb:-8192<=C j/\C j<=8192:=by
      have h1:=Qle (W3 p j) pp;have h2:(W3 p j).length<=p.length:=by unfold W3;rw[qv,Kl];omega
      rw[hC];omega
     obtain⟨j2,a,b,hj2,hrem,ha,hb,hCs⟩:∃(j2:Nat) (a b:P2),j2<p.length/\((j:Int)+1).tmod (p.length:Int)=(j2:Int)/\p[j]?=some a/\p[j2]?=some b/\C (j+1)=C j+Wf (a,b) pp:=by
      have hm2:(j+1) % p.length<p.length:=Nat.mod_lt _ (by omega);refine⟨(j+1) % p.length,p[j],p[(j+1) % p.length],hm2,?_,q9 hjt,q9 hm2,?_⟩
      ·rw[jt (by omega)];simp
      ·rw[hC,hC,Q93 hjt,Qog,Kt,Q7m];omega
     obtain⟨_,ha'⟩:=q8.1 ha;obtain⟨_,hb'⟩:=q8.1 hb;have hp0:¬ p=[]:=by rintro rfl;simp at hjt
     have hcc:=hc a b pp (hpt a (qb ha)) (hpt b (qb hb)) hp;have e1:a.enc=V.a [V.i .i64 a.x,V.i .i64 a.y]:=rfl;have e2:b.enc=V.a [V.i .i64 b.x,V.i .i64 b.y]:=rfl;rw[e1,e2,e3]at hcc
     have hcb:=Qpm (a,b) pp;generalize Wf (a,b) pp=c at *
     simp (disch:=omega) [go_sem,Qd,psV,hjt,ha,ha',hb,hb',hj2,hrem,hp0,P2.cs,Q0];refine Qa hcc ?_;simp (disch:=omega) [go_sem,Qd,psV,P2.cs,Q0];exact⟨j+1,by omega,by omega,hCs.symm,by omega⟩
end
def Qz9 (p:P2):Prop:=(-4096<=p.x/\p.x<4096)/\-4096<=p.y/\p.y<4096
def InRC (P:Program) (f:FuncId):Prop:=∀p:P2,Qz9 p->CallIs P f [p.enc] (.b true)
def Q7k (p q:P2):Bool:=decide (p.y<q.y) || (decide (p.y=q.y) && decide (p.x<q.x))
def Qbq (P:Program) (f:FuncId):Prop:=∀p q:P2,Q7k q p=true->CallIs P f [p.enc,q.enc] (.b false)
def Qnr (P:Program) (f:FuncId):Prop:=∀(l:List Rn) (x:Int),l.length<=200000000->(∀r∈l,r.b<=x)->-4096<=x->x<4096->CallIs P f [Q9 l,.i .i64 x] (Q9 (X5 l x))
def Qhy (P:Program) (f:FuncId):Prop:=∀l:List P2,l.length<=100000000->l.Pairwise (λp q=>Q7k p q=true)->CallIs P f [psV l] (psV l)
theorem Jk {α β:Type} (f:α->β) (k:List α) (x:β):(k.map f++[x])[k.length]?=some x:=by
 rw[qf (by simp)];simp
theorem Qj1 (k:List Rn) (a b:Int) (tl:List (List V)) (ht:∀el∈tl,∀x∈el,x.isD=true):∀el∈k.map Rn.cs++[V.i .i64 a,V.i .i64 b]::tl,∀x∈el,x.isD=true:=by
 intro el hel x hx;rcases qg.1 hel with h | h
 ·obtain⟨r,hr,rfl⟩:=qo.1 h;exact Ep k r hr x hx
 ·rcases List.mem_cons.1 h with rfl | h
  ·simp at hx;rcases hx with rfl | rfl<;>rfl
  ·exact ht el h x hx
theorem Q90 {α β:Type} (f:α->β) (k:List α) (l:List β):(k.map f++l).take k.length=k.map f:=by
 rw[List.take_append_of_le_length (by simp),qe (by simp)]
section
variable {P:Program} (hm:P.follows .mixedOrders=true)
include hm
theorem Q3i {f:FuncId} (hf:Q5 P f L2e.c L2e.r L2e.n):InRC P f:=by
 rintro p ⟨⟨h1,h2⟩,h3,h4⟩;refine PI hm hf ?_;unfold L2e.c;simp[go_sem,P2.enc,P2.cs,h1,h2,h3,h4,L2e.r]
theorem Q66 {f:FuncId} (hf:Q5 P f L2a.c L2a.r L2a.n):Qbq P f:=by
 intro p q h;unfold Q7k at h;simp only[Bool.or_eq_true,Bool.and_eq_true,decide_eq_true_eq]at h;refine PI hm hf ?_;unfold L2a.c;have h1:¬ p.y<q.y:=by omega
 by_cases h2:p.y=q.y
 ·have h3:¬ p.x<q.x:=by omega
  simp[go_sem,P2.enc,P2.cs,h2,h3,L2a.r]
 ·have h3:(p.y == q.y)=false:=by simpa using h2
  simp[go_sem,P2.enc,P2.cs,h1,h2,h3,L2a.r]
theorem Qc8 {f:FuncId} (hf:Q5 P f L2j.c L2j.r L2j.n):Qnr P f:=by
 intro l x hl hb h1 h2;refine PI hm hf ?_;unfold L2j.c;rcases Zu l with rfl | ⟨k,r,rfl⟩
 ·rw[Wu];simp (disch:=omega) [go_sem,Q9,Q0,Rn.cs,L2j.r]
  done
 ·rw[Ij];have hrb:=hb r (by simp);have hkl:k.length<=200000000:=by rw[j7]at hl;omega
  have hq:(k++[r])[k.length]?=some r:=by rw[qf (Nat.le_refl _)];simp
  obtain⟨_,hq'⟩:=q8.1 hq;by_cases he:r.b=x
  ·rw[if_pos he];simp (disch:=omega) [go_sem,Q9,Jk,Q90,Q0,Rn.cs,show ¬ x<r.b by omega,he,L2j.r];have e1:List.take (k.length+1) (k.map Rn.cs++[[V.i .i64 r.a,V.i .i64 (x+1)]])=k.map Rn.cs++[[V.i .i64 r.a,V.i .i64 (x+1)]]:=qe (by simp);refine⟨⟨by omega,by omega⟩,⟨by omega,by omega⟩,?_⟩;rw[e1,if_pos (Qj1 k _ _ [] (by simp))];rfl
  ·rw[if_neg he];have hxb:(x == r.b)=false:=by simpa using λh:x=r.b=>he h.symm
   simp (disch:=omega) [go_sem,Q9,Jk,Q90,Q0,Rn.cs,show ¬ x<r.b by omega,show ¬ x=r.b by omega,hxb,L2j.r];have e1:List.take (k.length+1) (k.map Rn.cs++[[V.i .i64 r.a,V.i .i64 r.b]])=k.map Rn.cs++[[V.i .i64 r.a,V.i .i64 r.b]]:=qe (by simp)
   have e2:List.take (k.length+1+1) (k.map Rn.cs++[[V.i .i64 r.a,V.i .i64 r.b],[V.i .i64 x,V.i .i64 (x+1)]])=k.map Rn.cs++[[V.i .i64 r.a,V.i .i64 r.b],[V.i .i64 x,V.i .i64 (x+1)]]:=qe (by simp);refine⟨⟨by omega,by omega⟩,⟨by omega,by omega⟩,?_⟩
   rw[e1,j6,show [[V.i .i64 r.a,V.i .i64 r.b]]++[[V.i .i64 x,V.i .i64 (x+1)]]=[[V.i .i64 r.a,V.i .i64 r.b],[V.i .i64 x,V.i .i64 (x+1)]] from rfl,e2,if_pos (Qj1 k _ _ _ (by simp[V.isD]))];rfl
theorem Q63 {f fb:FuncId} (hf:Q5 P f (L2i.c fb) L2i.r L2i.n) (hb:Qbq P fb):Qhy P f:=by
 intro l hl hp;refine PI hm hf ?_;unfold L2i.c;simp (disch:=omega) [go_sem,psV];refine⟨⟨by omega,by omega⟩,?_⟩;refine Q8 (α:=Nat) (λi=>1<=i/\(i<=l.length∨i=1))
  (λi=>⟨[(3,.own 0 1 0 l.length),(4,.i .i64 i)],[.arr 1 2 (l.map P2.cs)]⟩)
  (λi=>l.length-i) 1 ⟨Nat.le_refl _,.inr rfl⟩ ?_ ?_
 ·simp[go_sem];exact λa _=>of_eq_true (Yb a _)
 ·rintro i ⟨hi1,hi2⟩;by_cases hlt:i<l.length
  ·have hq:l[i]?=some l[i]:=q9 hlt;have hr:l[i-1]?=some l[i-1]:=q9 (by omega);have hbf:=j8.1 hp (i-1) i (by omega) hlt (by omega);have hcall:=hb l[i] l[i-1] hbf;obtain⟨j,rfl⟩:∃j,i=j+1:=⟨i-1,by omega⟩
   simp only[Nat.add_sub_cancel]at hr hcall;have hj:j<l.length:=by omega
   have hlz:(j:Int)+1<(l.length:Int):=by omega
   generalize l[j+1]=p at *
   generalize l[j]=q at *
   obtain⟨_,hq'⟩:=q8.1 hq;obtain⟨_,hr'⟩:=q8.1 hr;simp only[P2.enc,P2.cs]at hcall;simp (disch:=omega) [go_sem,hlt,hlz,Q0];refine Q8 (α:=Unit) (λ_=>True)
    (λ_=>⟨[(3,.own 0 1 0 l.length),(4,.i .i64 ((j:Int)+1)),(5,.i .i64 ((j:Int)+1))],[.arr 1 2 (l.map P2.cs)]⟩)
    (λ_=>0) () trivial ?_ ?_
   ·simp[go_sem];exact λa _=>of_eq_true (Yb a _)
   ·intro _ _;simp (disch:=omega) [go_sem,hlt,hlz,hj,hq,hq',hr,hr',P2.cs,Q0];refine⟨by omega,Qa hcall ?_⟩;simp (disch:=omega) [go_sem,Q0];exact⟨j+2,⟨by omega,by omega⟩,by omega,by omega,λa _=>of_eq_true (Yb a _)⟩
  ·have hd:∀p∈l,∀y∈p.cs,y.isD=true:=λp _ y hy=>by
    simp[P2.cs]at hy
    rcases hy with rfl | rfl<;>rfl
   have ht:List.take l.length (l.map P2.cs)=l.map P2.cs:=qe (by simp);simp (disch:=omega) [go_sem,hlt,ht,L2i.r,psV];rw[if_pos hd];rfl
end
def ofS (g:List Rw) (p:P2):List Rw:=match g.getLast? with
 | some w=>if w.y=p.y then g.dropLast++[⟨w.y,X5 w.rs p.x⟩] else g++[⟨p.y,X5 [] p.x⟩]
 | none=>g++[⟨p.y,X5 [] p.x⟩]
def ofL (l:List P2):List Rw:=l.foldl ofS []
theorem Qaf (l:List P2) (p:P2):ofL (l++[p])=ofS (ofL l) p:=by simp[ofL]
theorem Qgj (p:P2):ofS [] p=[⟨p.y,X5 [] p.x⟩]:=rfl
theorem Qgk (g:List Rw) (w:Rw) (p:P2):ofS (g++[w]) p=if w.y=p.y then g++[⟨w.y,X5 w.rs p.x⟩] else g++[w]++[⟨p.y,X5 [] p.x⟩]:=by
 unfold ofS;rw[List.getLast?_concat];simp
structure OfI (g:List Rw) (l:List P2):Prop where
 v:RgV g
 mem:∀y x,Zx g y x↔(⟨x,y⟩:P2)∈l
 lst:∀g' w,g=g'++[w]->∀r∈w.rs,∃p∈l,p.y=w.y/\r.b<=p.x+1
 row:∀w∈g,∃p∈l,p.y=w.y
 len:∀w∈g,w.rs.length<=l.length
theorem Qqw (l:List Rn) (x:Int):(X5 l x).length<=l.length+1:=by
 rcases Zu l with rfl | ⟨k,r,rfl⟩
 ·rw[Wu];simp
 ·rw[Ij];split<;>simp
theorem RgV.snocW {g:List Rw} {w:Rw} (hg:RgV g) (hw:RnsV w.rs) (hn:w.rs≠[]) (ha:∀u∈g,u.y<w.y):RgV (g++[w]):=by
 refine⟨λu hu=>?_,λu hu=>?_,?_⟩
 ·rcases qg.1 hu with h | h
  ·exact hg.rs u h
  ·rw[qn.1 h];exact hw
 ·rcases qg.1 hu with h | h
  ·exact hg.ne u h
  ·rw[qn.1 h];exact hn
 ·rw[jg];exact⟨hg.asc,by simp,λu hu v hv=>by rw[qn.1 hv];exact ha u hu⟩
theorem Q2k {g k:List Rw} {y x:Int}:Zx (g++k) y x↔Zx g y x∨Zx k y x:=by
 unfold Zx;constructor
 ·rintro⟨w,hw,h⟩;rcases qg.1 hw with h1 | h1
  ·exact .inl ⟨w,h1,h⟩
  ·exact .inr ⟨w,h1,h⟩
 ·rintro (⟨w,hw,h⟩ | ⟨w,hw,h⟩)
  ·exact⟨w,qg.2 (.inl hw),h⟩
  ·exact⟨w,qg.2 (.inr hw),h⟩
theorem Q2j {w:Rw} {y x:Int}:Zx [w] y x↔w.y=y/\Qb w.rs x:=by
 unfold Zx;simp
theorem Qj2 (l:List Rn) (x:Int):X5 l x≠[]:=by
 rcases Zu l with rfl | ⟨k,r,rfl⟩
 ·rw[Wu];simp
 ·rw[Ij];split<;>simp
theorem OfI.nil:OfI [] []:=⟨RgV.nil,λy x=>by simp[Zx],by simp,by simp,by simp⟩
theorem OfI.step {g:List Rw} {l:List P2} (h:OfI g l) {p:P2} (hp:∀q∈l,Q7k q p=true):OfI (ofS g p) (l++[p]):=by
 have hb:∀q∈l,q.y<p.y∨(q.y=p.y/\q.x<p.x):=λq hq=>by
  have:=hp q hq;unfold Q7k at this;simpa using this
 have hnew:∀k:List Rw,RgV k->(∀u∈k,u.y<p.y)->(∀y x,Zx k y x↔(⟨x,y⟩:P2)∈l)->(∀u∈k,∃q∈l,q.y=u.y)->(∀w∈k,w.rs.length<=l.length)->OfI (k++[⟨p.y,X5 [] p.x⟩]) (l++[p]):=by
  intro k h1 h2 h3 h4 h5;obtain⟨s1,s2,s3⟩:=Q8l (x:=p.x) RnsV.nil (by simp);refine⟨h1.snocW s1 (show X5 [] p.x≠[] from Qj2 _ _) h2,λy x=>?_,λg' w hw r hr=>?_,λw hw=>?_,λw hw=>?_⟩
  ·rw[Q2k,h3,Q2j,qg,qn,s3];simp only[Qj,false_or];constructor
   ·rintro (h | ⟨h,h'⟩)
    ·exact .inl h
    ·right;cases p;simp only at h h' ⊢;rw[h,h']
   ·rintro (h | h)
    ·exact .inl h
    ·right;rw[<- h];exact⟨rfl,rfl⟩
  ·obtain⟨_,h7⟩:=List.append_inj' hw rfl;simp only[List.cons.injEq,and_true]at h7;subst h7;exact⟨p,by simp,rfl,s2 r hr⟩
  ·rcases qg.1 hw with h | h
   ·obtain⟨q,hq,he⟩:=h4 w h;exact⟨q,by simp[hq],he⟩
   ·rw[qn.1 h];exact⟨p,by simp,rfl⟩
  ·rw[j7];rcases qg.1 hw with h | h
   ·have:=h5 w h;omega
   ·rw[qn.1 h,Wu];simp
 rcases Zu g with rfl | ⟨k,w,rfl⟩
 ·rw[Qgj];exact hnew [] RgV.nil (by simp) h.mem (by simp) (by simp)
 ·rw[Qgk];have hk:RgV k:=⟨λu hu=>h.v.rs u (by simp[hu]),λu hu=>h.v.ne u (by simp[hu]),(jg.1 h.v.asc).1⟩
  have hlt:=(jg.1 h.v.asc).2.2;obtain⟨qw,hqw,hqy⟩:=h.row w (by simp);have hwy:w.y<=p.y:=by have:=hb qw hqw;omega
  split
  ·rename_i he;have hrb:∀r∈w.rs,r.b<=p.x:=λr hr=>by
    obtain⟨q,hq,h1,h2⟩:=h.lst k w rfl r hr;have:=hb q hq;omega
   obtain⟨s1,s2,s3⟩:=Q8l (h.v.rs w (by simp)) hrb;refine⟨hk.snocW s1 (show X5 w.rs p.x≠[] from Qj2 _ _) λu hu=>hlt u hu w (by simp),λy x=>?_,λg' w' hw r hr=>?_,λu hu=>?_,λu hu=>?_⟩
   ·have hm:=h.mem y x;rw[Q2k,Q2j]at hm
    rw[Q2k,Q2j,qg,qn,<- hm];simp only[s3];constructor
    ·rintro (h1 | ⟨h1,h2 | h2⟩)
     ·exact .inl (.inl h1)
     ·exact .inl (.inr ⟨h1,h2⟩)
     ·right;cases p;simp only at he h2 ⊢;rw[<- h1,he,h2]
    ·rintro ((h1 | h1) | h1)
     ·exact .inl h1
     ·exact .inr ⟨h1.1,.inl h1.2⟩
     ·right;rw[<- h1]at he ⊢;exact⟨he,.inr rfl⟩
   ·obtain⟨_,h7⟩:=List.append_inj' hw rfl;simp only[List.cons.injEq,and_true]at h7;subst h7;exact⟨p,by simp,he.symm,s2 r hr⟩
   ·rcases qg.1 hu with h1 | h1
    ·obtain⟨q,hq,h2⟩:=h.row u (by simp[h1]);exact⟨q,by simp[hq],h2⟩
    ·rw[qn.1 h1];exact⟨p,by simp,he.symm⟩
   ·rw[j7];rcases qg.1 hu with h1 | h1
    ·have:=h.len u (by simp[h1]);omega
    ·rw[qn.1 h1];have:=Qqw w.rs p.x;have:=h.len w (by simp);simp only[List.length_cons,List.length_nil];omega
  ·rename_i he;refine hnew (k++[w]) h.v (λu hu=>?_) h.mem h.row h.len;rcases qg.1 hu with h1 | h1
   ·have:=hlt u h1 w (by simp);omega
   ·rw[qn.1 h1];omega
theorem Qmd (l:List P2) (hp:l.Pairwise λp q=>Q7k p q=true):∀k,k<=l.length->OfI (ofL (l.take k)) (l.take k)
 | 0,_=>OfI.nil
 | k+1,h=>by
   have hq:l[k]?=some l[k]:=q9 (by omega);rw[Q6 hq,Qaf];refine (Qmd l hp k (by omega)).step λq hq'=>?_
   obtain⟨i,hi⟩:=qq hq';have hil:=(q8.1 hi).1;rw[qv]at hil
   rw[jf,if_pos (by omega)]at hi
   obtain⟨hi1,hi2⟩:=q8.1 hi;rw[<- hi2];exact j8.1 hp i k hi1 (by omega) (by omega)
end Go.Abs
