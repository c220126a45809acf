/- Part of the library on which the proof stands: an abstract machine, its values and its soundness against the model; or what functions of the program do to such values. -/
import Derived.Test.YtnaehggpjfdenaaGreatGoRsJ
set_option linter.unusedVariables false
set_option linter.unusedSimpArgs false
set_option maxHeartbeats 8000000
set_option maxRecDepth 20000
namespace Go.Abs
theorem CallIs.narg {P:Program} {f:FuncId} {sz:Nat} {rest:List V} {r:V} (h:CallIs P f (.l sz []::rest) r):CallIs P f (.nil::rest) r:=λhh J m w cargs hr hp =>
 h hh J m w cargs hr (LeL.pw (R:=Le) (Q:=RV J m w) (λu v c h1 h2=>h1.rv h2) (show LeL Le (.nil::rest) (.l sz []::rest) from ⟨.inl (.inl (Le0.nil sz)),LeL.refl Le.refl _⟩) hp)
def OfC (P:Program) (f:FuncId):Prop:=∀l:List P2,l.length<=100000000->(∀p∈l,Qz9 p)->l.Pairwise (λp q=>Q7k p q=true)->CallIs P f [psV l] (.t [rgV (ofL l),.i .i64 0])
theorem ofS_len (g:List Rw) (p:P2):(ofS g p).length<=g.length+1:=by
 rcases Zu g with rfl | ⟨k,w,rfl⟩
 ·rw[Qgj];simp
 ·rw[Qgk];split<;>simp
theorem Qoz (l:List P2):∀k,k<=l.length->(ofL (l.take k)).length<=k
 | 0,_=>by simp[ofL]
 | k+1,h=>by
   have hq:l[k]?=some l[k]:=q9 (by omega);rw[Q6 hq,Qaf];have:=ofS_len (ofL (l.take k)) l[k];have:=Qoz l k (by omega);omega
theorem El {α β:Type} (f:α->β) (k:List α) (x y:β):(k.map f++[x]).set k.length y=k.map f++[y]:=by
 have:=jq (s:=k.map f) (t:=[x]) (x:=y) k.length (by simp);rw[this];simp
section
variable {P:Program} (hm:P.follows .mixedOrders=true)
include hm
theorem Qja {f fi fs fw:FuncId} (hf:Q5 P f (L26.c fi fs fw) L26.r L26.n) (hi:InRC P fi) (hs:Qhy P fs) (hw:Qnr P fw):OfC P f:=by
 intro l hl hc hp;have hsc:=hs l (by omega) hp;refine PI hm hf ?_;unfold L26.c;simp (disch:=omega) [go_sem,psV];refine Q8 (α:=Nat) (λi=>i<=l.length)
  (λi=>⟨[(0,psV l),(2,.p 0 1 0 0),(4,.i .i64 i)],[.arr 1 1 [[.nil]]]⟩)
  (λi=>l.length-i) 0 (Nat.zero_le _) ?_ ?_
 ·simp[go_sem,psV]
 intro i hil;by_cases hie:i=l.length
 case neg =>
  have hlt:i<l.length:=by omega
  have hq:l[i]?=some l[i]:=q9 hlt;have hci:=hi l[i] (hc _ (qb hq));generalize l[i]=p at *
  obtain⟨_,hq'⟩:=q8.1 hq;simp only[P2.enc,P2.cs]at hci;simp (disch:=omega) [go_sem,psV,hlt,hq,hq',P2.cs,Q0];refine Q2 hci ?_;simp (disch:=omega) [go_sem,psV,Q0];exact⟨i+1,by omega,by omega,by omega⟩
 subst hie;simp (disch:=omega) [go_sem,psV];refine Q2 hsc ?_;simp (disch:=omega) [go_sem,psV];have hok:=λk hk=>Qmd l hp k hk
 have hlen:=λk hk=>Qoz l k hk
 obtain⟨G,hG⟩:∃G:Nat->List Rw,∀i,G i=ofL (l.take i):=⟨_,λ_=>rfl⟩
 have hG0:G 0=[]:=by rw[hG];rfl
 have hGn:G l.length=ofL l:=by rw[hG,qi]
 refine Qi [.c 1 0 0 2] (α:=Nat) (λi=>i<=l.length)
  (λi=>⟨[(0,psV l),(2,.p 0 1 0 0),(5,.p 1 1 0 0),(6,.i .i64 i)],[.arr 1 1 [[.nil]],.arr 1 1 [[.own 2 ((G i).length+1) 0 (G i).length]],.arr ((G i).length+1) 2 ((G i).map Rw.cs)]⟩)
  (λi=>l.length-i) 0 (Nat.zero_le _) ?_ ?_
 ·simp[go_sem,psV,hG0]
  done
 ·intro i hil;by_cases hie:i=l.length
  ·subst hie;rw[hGn];have hd:=Q8w (ofL l);have ht:List.take (ofL l).length ((ofL l).map Rw.cs)=(ofL l).map Rw.cs:=qe (by simp);simp (disch:=omega) [go_sem,psV,ht,L26.r];rw[if_pos hd];rfl
  ·have hlt:i<l.length:=by omega
   have hq:l[i]?=some l[i]:=q9 hlt;have hGs:G (i+1)=ofS (G i) l[i]:=by rw[hG,hG,Q6 hq,Qaf]
   have hcb:=hc _ (qb hq);have hGl:=hlen i hil;have hI:=hok i hil;rw[<- hG]at hGl hI
   have hbf:∀q∈l.take i,Q7k q l[i]=true:=λq hq'=>by
    obtain⟨j,hj⟩:=qq hq';have hjl:=(q8.1 hj).1;rw[qv]at hjl
    rw[jf,if_pos (by omega)]at hj
    obtain⟨hj1,hj2⟩:=q8.1 hj;rw[<- hj2];exact j8.1 hp j i hj1 hlt (by omega)
   generalize l[i]=p at *
   obtain⟨_,hq'⟩:=q8.1 hq;have hw0:=CallIs.narg (hw [] p.x (by simp) (by simp) hcb.1.1 hcb.1.2);rcases Zu (G i) with h0 | ⟨k,w,h0⟩
   ·rw[h0,Qgj]at hGs
    rw[h0];simp (disch:=omega) [go_sem,psV,hlt,hq,hq',P2.cs,Q0];refine Qa hw0 ?_;simp (disch:=omega) [go_sem,psV,Q9,V.cells,V.okA,Q0];exact⟨i+1,by omega,by omega,by omega,⟨by rw[hGs];rfl,by rw[hGs];rfl⟩,⟨by rw[hGs];rfl,by rw[hGs];simp[Rw.cs,Q9]⟩,Yp _ _⟩
   ·rw[h0,Qgk]at hGs
    rw[h0]at hGl hI
    have hz0:((k.length:Int)+1 == 0)=false:=by
     simp only[beq_eq_false_iff_ne,ne_eq];omega
    have hGl2:(G i).length=k.length+1:=by rw[h0];simp
    rw[j7]at hGl
    simp only[List.length_cons,List.length_nil]at hGl;have hkl:k.length<=100000000:=by omega
    by_cases hy:w.y=p.y
    ·rw[if_pos hy]at hGs
     have hwl:=hI.len w (by simp);rw[qv]at hwl
     have hrb:∀r∈w.rs,r.b<=p.x:=λr hr=>by
      obtain⟨q,hq,h1,h2⟩:=hI.lst k w rfl r hr;have:=hbf q hq;unfold Q7k at this;simp at this;omega
     have hwc:=hw w.rs p.x (by omega) hrb hcb.1.1 hcb.1.2;rw[h0];simp (disch:=omega) [go_sem,psV,hlt,hq,hq',P2.cs,Jk,El,Rw.cs,hy,hz0,Q0];refine Qa hwc ?_;simp (disch:=omega) [go_sem,psV,Q9,V.cells,V.okA,Jk,El,Q0];exact⟨i+1,by omega,by omega,by omega,by rw[hGs];simp,⟨by rw[hGs];simp,by rw[hGs];simp[Rw.cs,Q9,hy]⟩,Yp _ _⟩
    ·rw[if_neg hy,<- h0]at hGs
     have hyb:(w.y != p.y)=true:=by simpa using hy
     have hg1:((G i).map Rw.cs)[k.length]?=some [V.i .i64 w.y,Q9 w.rs]:=by rw[h0,qx];exact Jk Rw.cs k _
     have hg2:∀x,((G i).map Rw.cs++[x])[k.length+1]?=some x:=λx=>by rw[<- hGl2];exact Jk Rw.cs (G i) x
     have hg3:∀x y,((G i).map Rw.cs++[x]).set (k.length+1) y=(G i).map Rw.cs++[y]:=λx y=>by rw[<- hGl2];exact El Rw.cs (G i) x y
     have hg4:List.take (k.length+1) ((G i).map Rw.cs)=(G i).map Rw.cs:=qe (by rw[List.length_map];omega);rw[hGl2];clear h0;generalize G i=gg at *
     simp (disch:=omega) [go_sem,psV,hlt,hq,hq',P2.cs,hg1,hg2,hg3,hg4,hy,hyb,hz0,Q0];refine⟨⟨by omega,by omega,by omega⟩,by omega,Qa hw0 ?_⟩;simp (disch:=omega) [go_sem,psV,Q9,V.cells,V.okA,hg1,hg2,hg3,hg4,Q0];exact⟨by omega,i+1,by omega,by omega,by omega,by rw[hGs];simp;omega,⟨by rw[hGs];simp;omega,by rw[hGs];simp[Rw.cs,Q9]⟩,Yp _ _⟩
end
section
variable {P:Program} (hm:P.follows .mixedOrders=true)
include hm
theorem Q95 {f:FuncId} (hf:Q5 P f L2m.c L2m.r L2m.n):Bd P f:=by
 intro ps k hps;have hpl:=hps.num;refine PI hm hf ?_;unfold L2m.c;by_cases hlo:k<32
 ·have he:Z1 k 32 1024=false:=by unfold Z1;simp[show ¬ 32<=k by omega]
  simp[go_sem,hlo,he,L2m.r]
 by_cases hhi:1024<k
 ·have he:Z1 k 32 1024=false:=by unfold Z1;simp[show ¬ k<=1024 by omega]
  simp[go_sem,hlo,hhi,he,L2m.r]
 have ht:k.tmod 2=k % 2:=jt (by omega);by_cases hev:k % 2=0
 case neg =>
  have he:Z1 k 32 1024=false:=by unfold Z1;simp[hev]
  have hb:(k.tmod 2 != 0)=true:=by rw[ht];simpa using hev
  have w:=Q0 (z:=k.tmod 2) (by omega) (by omega);rw[ht]at w hb
  simp[go_sem,hlo,hhi,ht,w,hb,hev,he,L2m.r]
 have he:Z1 k 32 1024=true:=by unfold Z1;simp[hev];omega
 simp[go_sem,hlo,hhi,ht,hev,he,Qd];obtain⟨tot,htot⟩:∃tot:Nat->Nat,∀i,tot i=((ps.take i).flatMap Qu).length:=⟨_,λ_=>rfl⟩
 have htot0:tot 0=0:=by rw[htot];rfl
 refine Q8 (α:=Nat) (λi=>i<=ps.length)
  (λi=>⟨[(0,Qd ps),(5,.i .i64 (tot i)),(6,.i .i64 i)],[]⟩)
  (λi=>ps.length-i) 0 (Nat.zero_le _) ?_ ?_
 ·simp[go_sem,Qd,htot0]
 ·intro i hi;by_cases hil:i=ps.length
  case neg =>
   have hlt:i<ps.length:=by omega
   have hq:ps[i]?=some ps[i]:=q9 hlt;have hln:=hps.len hq;have hft:=Qb4 (ps.take i) ps[i];rw[<- Q6 hq,<- htot,<- htot]at hft
   rw[<- htot]at hln
   generalize ps[i]=p at *
   obtain⟨_,hq'⟩:=q8.1 hq;simp (disch:=omega) [go_sem,Qd,psV,hlt,hq,hq',show ¬ (16384:Int)<(tot i:Int)+p.length by omega,Q0];exact⟨i+1,by omega,by omega,by omega,by omega⟩
  subst hil;simp[go_sem,Qd];refine Q8 (α:=Nat) (λi=>i<=ps.length)
   (λi=>⟨[(0,Qd ps),(7,.i .i64 i)],[]⟩)
   (λi=>ps.length-i) 0 (Nat.zero_le _) ?_ ?_
  ·simp[go_sem,Qd]
  intro i hi;by_cases hil:i=ps.length
  ·subst hil;simp[go_sem,Qd,L2m.r]
  have hlt:i<ps.length:=by omega
  have hq:ps[i]?=some ps[i]:=q9 hlt;have hln:=hps.len hq;have hpt:∀v∈ps[i],_:=λv hv=>hps.pt (qb hq) hv
  generalize ps[i]=p at *
  obtain⟨_,hq'⟩:=q8.1 hq;simp (disch:=omega) [go_sem,Qd,psV,hlt,hq,hq',Q0];refine Q8 (α:=Nat) (λj=>j<=p.length)
   (λj=>⟨[(0,Qd ps),(7,.i .i64 i),(8,.i .i64 j)],[]⟩)
   (λj=>p.length-j) 0 (Nat.zero_le _) ?_ ?_
  ·simp[go_sem,Qd,psV]
  intro j hj;by_cases hjl:j=p.length
  ·subst hjl;simp (disch:=omega) [go_sem,Qd,psV,hlt,hq,hq',Q0];exact⟨i+1,by omega,by omega,by omega⟩
  have hjt:j<p.length:=by omega
  have hv:p[j]?=some p[j]:=q9 hjt;have hvb:=hpt _ (qb hv);generalize p[j]=v at *
  obtain⟨_,hv'⟩:=q8.1 hv;simp (disch:=omega) [go_sem,Qd,psV,hlt,hq,hq',hjt,hv,hv',P2.cs,show ¬ v.x < -65536 by omega,show ¬ 65536<v.x by omega,show ¬ v.y < -65536 by omega,show ¬ 65536<v.y by omega,Q0];exact⟨j+1,by omega,by omega,by omega⟩
end
theorem Qe3:∀l:List P2,(E8 l).map Prod.snd=l.tail
 | []=>rfl
 | [_]=>rfl
 | a::b::l=>by
   have:=Qe3 (b::l);simp only[E8,List.map_cons,this,List.tail_cons]
theorem Qdz (l:List P2):((Qu l).map Prod.snd).Perm l:=by
 cases l with
 | nil=>exact List.Perm.refl _
 | cons a l =>
   unfold Qu;rw[Qe3];simp only[List.cons_append,List.tail_cons];exact List.perm_append_comm
theorem bal_of {es:List Eg} (h:(es.map Prod.fst).Perm (es.map Prod.snd)):Wq es:=by
 intro p;have e1:∀f:Eg->P2,(es.map f).count p=es.countP λe=>decide (f e=p):=λf=>by
  rw[List.count_eq_countP,List.countP_map];exact List.countP_congr λx _=>by simp
 rw[<- e1,<- e1];exact h.count_eq p
theorem Qr5 (ps:List (List P2)):Wq (ps.flatMap Qu):=by
 refine bal_of ?_
 induction ps with
 | nil=>exact List.Perm.refl _
 | cons p ps ih =>
   rw[List.flatMap_cons,qx,qx];refine List.Perm.append ?_ ih;rw[Q3f];exact(Qdz p).symm
def mxP (p:P2):Int:=max (max p.x (-p.x)) (max p.y (-p.y))
def dT (k:Int) (p:P2):Nat:=((mxP p+k-1) / k).toNat
theorem Qw5 {a:Int} {p:P2}:a<mxP p↔a<p.x∨a < -p.x∨a<p.y∨a < -p.y:=by unfold mxP;omega
theorem Qyy {k:Int} (hk:0<k) {n:Nat} {p:P2}:n<dT k p↔(n:Int)*k<mxP p:=by
 unfold dT;have h0:0<=mxP p:=by unfold mxP;omega
 have h1:(n:Int)<(mxP p+k-1) / k↔(n:Int)*k<mxP p:=by
  rw[show ((n:Int)<(mxP p+k-1) / k)↔((n:Int)+1<=(mxP p+k-1) / k) from Iff.rfl,Int.le_ediv_iff_mul_le hk];have:((n:Int)+1)*k=n*k+k:=by grind
  rw[this];omega
 rw[<- h1];omega
theorem dT_bd {k:Int} (hk:32<=k) {p:P2} (hp:mxP p<=65536):dT k p<=2048:=by
 refine jb λh=>?_
 have h1:2048<dT k p:=by omega
 rw[Qyy (by omega)]at h1
 have:(2048:Int)*k<65536:=Int.lt_of_lt_of_le h1 hp;omega
def Q4o (k:Int) (n:Nat) (p:P2):Nat:=max n (dT k p)
def Q11 (k:Int) (n:Nat) (l:List P2):Nat:=l.foldl (Q4o k) n
theorem Qsm (k:Int) (n:Nat) (l:List P2) (p:P2):Q11 k n (l++[p])=Q4o k (Q11 k n l) p:=by simp[Q11]
def U7 (k:Int) (n:Nat) (ps:List (List P2)):Nat:=ps.foldl (Q11 k) n
theorem Qsl (k:Int) (n:Nat) (l:List (List P2)) (p:List P2):U7 k n (l++[p])=Q11 k (U7 k n l) p:=by simp[U7]
theorem Qhi {k:Int} (hk:32<=k):∀(l:List P2) (n:Nat),n<=2048->(∀p∈l,mxP p<=65536)->Q11 k n l<=2048
 | [],n,hn,_=>hn
 | p::l,n,hn,h=>by
   refine Qhi hk l (Q4o k n p) ?_ λq hq=>h q (by simp[hq])
   have:=dT_bd hk (h p (by simp));unfold Q4o;omega
theorem Qhh {k:Int} (hk:32<=k):∀(l:List (List P2)) (n:Nat),n<=2048->(∀q∈l,∀p∈q,mxP p<=65536)->U7 k n l<=2048
 | [],n,hn,_=>hn
 | p::l,n,hn,h=>by
   refine Qhh hk l (Q11 k n p) (Qhi hk p n hn (h p (by simp))) λq hq=>h q (by simp[hq])
theorem Qph {k:Int}:∀(l:List P2) (n:Nat),n<=Q11 k n l/\∀p∈l,dT k p<=Q11 k n l
 | [],n=>⟨Nat.le_refl _,by simp⟩
 | p::l,n=>by
   obtain⟨h1,h2⟩:=Qph (k:=k) l (Q4o k n p);have e:Q11 k n (p::l)=Q11 k (Q4o k n p) l:=rfl;rw[e];have h3:n<=Q4o k n p/\dT k p<=Q4o k n p:=by unfold Q4o;omega
   refine⟨by omega,λq hq=>?_⟩;rcases List.mem_cons.1 hq with rfl | hq
   ·omega
   ·exact h2 q hq
theorem Qpg {k:Int}:∀(l:List (List P2)) (n:Nat),n<=U7 k n l/\∀q∈l,∀p∈q,dT k p<=U7 k n l
 | [],n=>⟨Nat.le_refl _,by simp⟩
 | p::l,n=>by
   obtain⟨h1,h2⟩:=Qpg (k:=k) l (Q11 k n p);obtain⟨h3,h4⟩:=Qph (k:=k) p n;have e:U7 k n (p::l)=U7 k (Q11 k n p) l:=rfl;rw[e];refine⟨by omega,λq hq v hv=>?_⟩;rcases List.mem_cons.1 hq with rfl | hq
   ·have:=h4 v hv;omega
   ·exact h2 q hq v hv
theorem PolyOk.mx {ps:List (List P2)} (h:PolyOk ps) {p:List P2} (hp:p∈ps) {v:P2} (hv:v∈p):mxP v<=65536:=by
 have:=h.pt hp hv;unfold mxP;omega
theorem farN_eg {ps:List (List P2)} {k:Int} (hk:0<k):EgB (ps.flatMap Qu) (U7 k 0 ps*k):=by
 have key:∀q∈ps,∀v∈q,(-((U7 k 0 ps:Int)*k)<=v.x/\v.x<=U7 k 0 ps*k)/\-((U7 k 0 ps:Int)*k)<=v.y/\v.y<=U7 k 0 ps*k:=λq hq v hv=>by
  have h:=(Qpg (k:=k) ps 0).2 q hq v hv;have h2:¬ U7 k 0 ps<dT k v:=by omega
  rw[Qyy hk,Qw5]at h2
  omega
 intro e he;obtain⟨q,hq,hq2⟩:=jr.1 he;have h1:e.1∈q:=by rw[<- Q3f q];exact ju hq2
 have h2:e.2∈q:=by
  have:=ju (f:=Prod.snd) hq2;exact(Qdz q).mem_iff.1 this
 have a:=key q hq _ h1;have b:=key q hq _ h2;exact⟨a.1,a.2,b.1,b.2⟩
def FarC (P:Program) (f:FuncId):Prop:=∀(ps:List (List P2)) (k:Int),PolyOk ps->PitchOk k->CallIs P f [Qd ps,.i .i64 k] (.i .i64 ((U7 k 0 ps:Nat)+1))
section
variable {P:Program} (hm:P.follows .mixedOrders=true)
include hm
theorem Qfu {f:FuncId} (hf:Q5 P f L2n.c L2n.r L2n.n):FarC P f:=by
 intro ps k hps hk;have k1:=hk.lo;have k2:=hk.hi;have hpl:=hps.num;refine PI hm hf ?_;unfold L2n.c;simp[go_sem,Qd];obtain⟨A,hA⟩:∃A:Nat->Nat,∀i,A i=U7 k 0 (ps.take i):=⟨_,λ_=>rfl⟩
 have hA0:A 0=0:=by rw[hA];rfl
 have hAn:A ps.length=U7 k 0 ps:=by rw[hA,qi]
 have hAb:∀i,A i<=2048:=λi=>by
  rw[hA];exact Qhh k1 _ 0 (by omega) λq hq v hv=>hps.mx (jp hq) hv
 refine Q8 (α:=Nat) (λi=>i<=ps.length)
  (λi=>⟨[(0,Qd ps),(1,.i .i64 k),(5,.i .i64 (A i)),(6,.i .i64 i)],[]⟩)
  (λi=>ps.length-i) 0 (Nat.zero_le _) ?_ ?_
 ·simp[go_sem,Qd,hA0]
 intro i hi;by_cases hil:i=ps.length
 ·subst hil;have h1:=hAb ps.length;rw[hAn]at h1 ⊢
  simp (disch:=omega) [go_sem,Qd,show ¬ (4095:Int)<(U7 k 0 ps:Nat) by omega,Q0,L2n.r]
 have hlt:i<ps.length:=by omega
 have hq:ps[i]?=some ps[i]:=q9 hlt;have hln:=hps.len hq;have hpt:∀v∈ps[i],_:=λv hv=>hps.pt (qb hq) hv
 have hmx:∀v∈ps[i],_:=λv hv=>hps.mx (qb hq) hv
 have hAs:A (i+1)=Q11 k (A i) ps[i]:=by rw[hA,hA,Q6 hq,Qsl]
 have hAi:=hAb i;generalize ps[i]=p at *
 obtain⟨_,hq'⟩:=q8.1 hq;generalize A i=a at *
 simp (disch:=omega) [go_sem,Qd,psV,hlt,hq,hq',Q0];obtain⟨B,hB⟩:∃B:Nat->Nat,∀j,B j=Q11 k a (p.take j):=⟨_,λ_=>rfl⟩
 have hB0:B 0=a:=by rw[hB];rfl
 have hBn:B p.length=A (i+1):=by rw[hB,qi,hAs]
 have hBb:∀j,B j<=2048:=λj=>by
  rw[hB];exact Qhi k1 _ a hAi λv hv=>hmx v (jp hv)
 refine Q8 (α:=Nat) (λj=>j<=p.length)
  (λj=>⟨[(0,Qd ps),(1,.i .i64 k),(5,.i .i64 (B j)),(6,.i .i64 i),(7,.i .i64 j)],[]⟩)
  (λj=>p.length-j) 0 (Nat.zero_le _) ?_ ?_
 ·simp[go_sem,Qd,psV,hB0]
 intro j hj;by_cases hjl:j=p.length
 ·subst hjl;rw[hBn];simp (disch:=omega) [go_sem,Qd,psV,hlt,hq,hq',Q0];exact⟨i+1,by omega,by omega,by omega⟩
 have hjt:j<p.length:=by omega
 have hv:p[j]?=some p[j]:=q9 hjt;have hvb:=hpt _ (qb hv);have hBs:B (j+1)=Q4o k (B j) p[j]:=by rw[hB,hB,Q6 hv,Qsm]
 have hBj:=hBb j;have hBj1:=hBb (j+1);generalize p[j]=v at *
 obtain⟨_,hv'⟩:=q8.1 hv;generalize B j=b at *
 simp (disch:=omega) [go_sem,Qd,psV,hlt,hq,hq',hjt,hv,hv',P2.cs,Q0];have hb1:b<=B (j+1):=by rw[hBs];unfold Q4o;omega
 refine Q8 (α:=Nat) (λn=>b<=n/\n<=B (j+1))
  (λn=>⟨[(0,Qd ps),(1,.i .i64 k),(5,.i .i64 n),(6,.i .i64 i),(7,.i .i64 j),(8,.p 0 1 0 0)],[.arr 1 2 [v.cs]]⟩)
  (λn=>B (j+1)-n) b ⟨Nat.le_refl _,hb1⟩ ?_ ?_
 ·simp[go_sem,Qd,psV,P2.cs]
 rintro n ⟨hn1,hn⟩;have hlt2:=Qyy (k:=k) (by omega) (n:=n) (p:=v);rw[Qw5]at hlt2
 have hnm:=Ja (a:=(n:Int)) (b:=k) (k:=2048) (m:=1024) (by omega) (by omega);have hcont:n<dT k v->n<B (j+1):=λh=>by rw[hBs];unfold Q4o;omega
 have hstop:¬ n<dT k v->n=B (j+1):=λh=>by
  rw[hBs]at hn ⊢
  unfold Q4o at hn ⊢;omega
 obtain⟨M,hM⟩:∃M:Int,(n:Int)*k=M:=⟨_,rfl⟩
 rw[hM]at hlt2 hnm
 have wM:IntKind.i64.wrap M=M:=Q0 (by omega) (by omega);have wx:IntKind.i64.wrap (-v.x)=-v.x:=Q0 (by omega) (by omega);have wy:IntKind.i64.wrap (-v.y)=-v.y:=Q0 (by omega) (by omega);by_cases c1:M<v.x
 ·have:=hcont (hlt2.2 (by omega));simp (disch:=omega) [go_sem,Qd,psV,P2.cs,hM,wM,wx,wy,c1,Q0];exact⟨n+1,by omega,by omega,by omega⟩
 by_cases c2:M < -v.x
 ·have:=hcont (hlt2.2 (by omega));simp (disch:=omega) [go_sem,Qd,psV,P2.cs,hM,wM,wx,wy,c1,c2,Q0];exact⟨n+1,by omega,by omega,by omega⟩
 by_cases c3:M<v.y
 ·have:=hcont (hlt2.2 (by omega));simp (disch:=omega) [go_sem,Qd,psV,P2.cs,hM,wM,wx,wy,c1,c2,c3,Q0];exact⟨n+1,by omega,by omega,by omega⟩
 by_cases c4:M < -v.y
 ·have:=hcont (hlt2.2 (by omega));simp (disch:=omega) [go_sem,Qd,psV,P2.cs,hM,wM,wx,wy,c1,c2,c3,c4,Q0];exact⟨n+1,by omega,by omega,by omega⟩
 have hnB:=hstop (by rw[hlt2];omega);simp (disch:=omega) [go_sem,Qd,psV,P2.cs,hM,wM,wx,wy,c1,c2,c3,c4,Q0];exact⟨j+1,by omega,by omega,by omega⟩
end
def Wx (q:P2->Bool) (d y:Int) (n:Nat):List P2:=((List.range n).map λ(j:Nat)=>(⟨-d+j,y⟩:P2)).filter q
def K5 (q:P2->Bool) (d:Int) (w m:Nat):List P2:=(List.range m).flatMap λ(i:Nat)=>Wx q d (-d+i) w
theorem Qm2 (q:P2->Bool) (d y:Int) (n:Nat):Wx q d y (n+1)=Wx q d y n++(if q ⟨-d+n,y⟩ then [⟨-d+n,y⟩] else []):=by
 unfold Wx;rw[List.range_succ,qx,List.filter_append];congr 1;by_cases h:q ⟨-d+n,y⟩=true
 ·simp[h]
 ·simp[h]
theorem Q5h (q:P2->Bool) (d:Int) (w m:Nat):K5 q d w (m+1)=K5 q d w m++Wx q d (-d+m) w:=by
 unfold K5;rw[List.range_succ,List.flatMap_append];simp
theorem Qdx (q:P2->Bool) (d y:Int) (n:Nat):(Wx q d y n).length<=n:=by
 unfold Wx;refine Nat.le_trans (jc _ _) ?_;simp
theorem Qax (q:P2->Bool) (d:Int) (w:Nat):∀m,(K5 q d w m).length<=m*w
 | 0=>by simp[K5]
 | m+1=>by
   rw[Q5h,j7,Nat.succ_mul];have:=Qax q d w m;have:=Qdx q d (-d+m) w;omega
theorem mem_rowCl {q:P2->Bool} {d y:Int} {n:Nat} {p:P2}:p∈Wx q d y n↔q p=true/\p.y=y/\-d<=p.x/\p.x < -d+n:=by
 unfold Wx;rw[qu,qo];constructor
 ·rintro⟨⟨j,hj,rfl⟩,h⟩;have:=qz.1 hj;exact⟨h,rfl,by simp only[];omega,by simp only[];omega⟩
 ·rintro⟨h,rfl,h1,h2⟩;refine⟨⟨(p.x+d).toNat,qz.2 (by omega),?_⟩,h⟩;cases p;simp only at h1 h2 ⊢;congr 1;omega
theorem Qaj {q:P2->Bool} {d:Int} {w m:Nat} {p:P2}:p∈K5 q d w m↔q p=true/\(-d<=p.x/\p.x < -d+w)/\-d<=p.y/\p.y < -d+m:=by
 unfold K5;rw[jr];constructor
 ·rintro⟨i,hi,h⟩;have:=qz.1 hi;obtain⟨h1,h2,h3,h4⟩:=mem_rowCl.1 h;exact⟨h1,⟨h3,h4⟩,by omega,by omega⟩
 ·rintro⟨h1,⟨h3,h4⟩,h5,h6⟩;exact⟨(p.y+d).toNat,qz.2 (by omega),mem_rowCl.2 ⟨h1,by omega,h3,h4⟩⟩
theorem Qay (q:P2->Bool) (d:Int) (w m:Nat):(K5 q d w m).Pairwise λa b=>Q7k a b=true:=by
 unfold K5;rw[List.pairwise_flatMap];refine⟨λi _=>?_,?_⟩
 ·unfold Wx;refine List.Pairwise.filter _ ?_;rw[ji];exact List.pairwise_lt_range.imp λ{a b} h=>by
   unfold Q7k;simp;omega
 ·refine List.pairwise_lt_range.imp λ{a b} h x hx y hy=>?_
  have h1:=(mem_rowCl.1 hx).2.1;have h2:=(mem_rowCl.1 hy).2.1;unfold Q7k;rw[h1,h2];simp;omega
theorem Qn0 {es:List Eg} (hb:Wq es) {k:Int} (hk:PitchOk k) {n:Nat} (hn:n<=2048) (hE:EgB es (n*k)) :
  ofL (K5 (λp=>decide (0<wnd es (ctr k p.y p.x))) (n+1) (2*n+3) (2*n+3))=Ul es k:=by
 have k1:=hk.lo;generalize hL:K5 (λp=>decide (0<wnd es (ctr k p.y p.x))) (n+1) (2*n+3) (2*n+3)=L;have hI:=Qmd L (by rw[<- hL];exact Qay _ _ _ _) L.length (Nat.le_refl _);rw[qi]at hI
 unfold Ul;refine Q4r hI.v λy x=>?_
 rw[hI.mem,<- hL,Qaj];simp only[decide_eq_true_eq];constructor
 ·rintro⟨h1,h2,h3⟩;exact⟨by omega,by omega,h1⟩
 ·rintro⟨h1,h2,h3⟩;refine⟨h3,Classical.byContradiction λhne=>?_⟩;have h0:wnd es (ctr k y x)=0:=by
   refine wnd_out hb hE ?_;unfold ctr;simp only[];have lo:∀z:Int,z<=-(n+2:Int)->z*k+k / 2 < -(n*k):=λz hz=>by
    have:=jn hz (show 0<=k by omega);have e:-((n:Int)+2)*k=-(n*k)-2*k:=by grind
    omega
   have hi:∀z:Int,(n+1:Int)<z->(n:Int)*k<z*k+k / 2:=λz hz=>by
    have:=jn (show (n:Int)+1<=z by omega) (show 0<=k by omega);have e:((n:Int)+1)*k=n*k+k:=by grind
    omega
   by_cases a1:x < -(n+1:Int)
   ·exact .inl (lo x (by omega))
   by_cases a2:(n+1:Int)<x
   ·exact .inr (.inl (hi x a2))
   by_cases a3:y < -(n+1:Int)
   ·exact .inr (.inr (.inl (lo y (by omega))))
   exact .inr (.inr (.inr (hi y (by omega))))
  omega
end Go.Abs
