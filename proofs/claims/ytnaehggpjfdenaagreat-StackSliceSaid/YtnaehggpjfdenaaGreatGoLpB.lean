/- Part of the library on which the proof stands: an abstract machine, its values and its soundness against the model; or what functions of the program do to such values. -/
import Derived.Test.YtnaehggpjfdenaaGreatGoRsL
import Derived.Test.YtnaehggpjfdenaaGreatGoRsD
import Derived.Test.YtnaehggpjfdenaaGreatGoShpD
import Derived.Test.YtnaehggpjfdenaaGreatGoRsA
import Derived.Test.YtnaehggpjfdenaaGreatAbsCP
set_option linter.unusedVariables false
set_option linter.unusedSimpArgs false
set_option maxHeartbeats 8000000
set_option maxRecDepth 20000
namespace Go.Abs
theorem Q9a:∀l:List P2,(Wm l).map Prod.snd=l.tail
 | []=>rfl
 | [_]=>rfl
 | a::b::l=>by
   have:=Q9a (b::l)
   simp only[Wm,List.map_cons,this,List.tail_cons]
theorem Q96 (l:List P2):((Qs l).map Prod.snd).Perm l:=by
 cases l with
 | nil=>exact List.Perm.refl _
 | cons a l =>
   unfold Qs
   rw[Q9a]
   simp only[List.cons_append,List.tail_cons]
   exact List.perm_append_comm
theorem bal_of {es:List Eg} (h:(es.map Prod.fst).Perm (es.map Prod.snd)):Kj es:=by
 intro p
 have e1:∀f:Eg->P2,(es.map f).count p=es.countP λe=>decide (f e=p):=λf=>by
  rw[List.count_eq_countP,List.countP_map]
  exact List.countP_congr λx _=>by simp
 rw[<- e1,<- e1]
 exact h.count_eq p
theorem Qlm (ps:List (List P2)):Kj (ps.flatMap Qs):=by
 refine bal_of ?_
 induction ps with
 | nil=>exact List.Perm.refl _
 | cons p ps ih =>
   rw[List.flatMap_cons,qx,qx]
   refine List.Perm.append ?_ ih
   rw[Q0s]
   exact(Q96 p).symm
def mxP (p:P2):Int:=max (max p.x (-p.x)) (max p.y (-p.y))
def dT (k:Int) (p:P2):Nat:=((mxP p+k-1) / k).toNat
theorem Qq2 {a:Int} {p:P2}:a<mxP p↔a<p.x∨a < -p.x∨a<p.y∨a < -p.y:=by unfold mxP;omega
theorem Qsq {k:Int} (hk:0<k) {n:Nat} {p:P2}:n<dT k p↔(n:Int)*k<mxP p:=by
 unfold dT
 have h0:0<=mxP p:=by unfold mxP;omega
 have h1:(n:Int)<(mxP p+k-1) / k↔(n:Int)*k<mxP p:=by
  rw[show ((n:Int)<(mxP p+k-1) / k)↔((n:Int)+1<=(mxP p+k-1) / k) from Iff.rfl,Int.le_ediv_iff_mul_le hk]
  have:((n:Int)+1)*k=n*k+k:=by grind
  rw[this];omega
 rw[<- h1]
 omega
theorem dT_bd {k:Int} (hk:32<=k) {p:P2} (hp:mxP p<=65536):dT k p<=2048:=by
 refine jb λh=>?_
 have h1:2048<dT k p:=by omega
 rw[Qsq (by omega)]at h1
 have:(2048:Int)*k<65536:=Int.lt_of_lt_of_le h1 hp
 omega
def Q1r (k:Int) (n:Nat) (p:P2):Nat:=max n (dT k p)
def Iv (k:Int) (n:Nat) (l:List P2):Nat:=l.foldl (Q1r k) n
theorem Qmz (k:Int) (n:Nat) (l:List P2) (p:P2):Iv k n (l++[p])=Q1r k (Iv k n l) p:=by simp[Iv]
def Ky (k:Int) (n:Nat) (ps:List (List P2)):Nat:=ps.foldl (Iv k) n
theorem Qmy (k:Int) (n:Nat) (l:List (List P2)) (p:List P2):Ky k n (l++[p])=Iv k (Ky k n l) p:=by simp[Ky]
theorem Qc9 {k:Int} (hk:32<=k):∀(l:List P2) (n:Nat),n<=2048->(∀p∈l,mxP p<=65536)->Iv k n l<=2048
 | [],n,hn,_=>hn
 | p::l,n,hn,h=>by
   refine Qc9 hk l (Q1r k n p) ?_ λq hq=>h q (by simp[hq])
   have:=dT_bd hk (h p (by simp))
   unfold Q1r;omega
theorem Qc8 {k:Int} (hk:32<=k):∀(l:List (List P2)) (n:Nat),n<=2048->(∀q∈l,∀p∈q,mxP p<=65536)->Ky k n l<=2048
 | [],n,hn,_=>hn
 | p::l,n,hn,h=>by
   refine Qc8 hk l (Iv k n p) (Qc9 hk p n hn (h p (by simp))) λq hq=>h q (by simp[hq])
theorem Qk0 {k:Int}:∀(l:List P2) (n:Nat),n<=Iv k n l/\∀p∈l,dT k p<=Iv k n l
 | [],n=>⟨Nat.le_refl _,by simp⟩
 | p::l,n=>by
   obtain⟨h1,h2⟩:=Qk0 (k:=k) l (Q1r k n p)
   have e:Iv k n (p::l)=Iv k (Q1r k n p) l:=rfl
   rw[e]
   have h3:n<=Q1r k n p/\dT k p<=Q1r k n p:=by unfold Q1r;omega
   refine⟨by omega,λq hq=>?_⟩
   rcases List.mem_cons.1 hq with rfl | hq
   ·omega
   ·exact h2 q hq
theorem Qjz {k:Int}:∀(l:List (List P2)) (n:Nat),n<=Ky k n l/\∀q∈l,∀p∈q,dT k p<=Ky k n l
 | [],n=>⟨Nat.le_refl _,by simp⟩
 | p::l,n=>by
   obtain⟨h1,h2⟩:=Qjz (k:=k) l (Iv k n p)
   obtain⟨h3,h4⟩:=Qk0 (k:=k) p n
   have e:Ky k n (p::l)=Ky k (Iv k n p) l:=rfl
   rw[e]
   refine⟨by omega,λq hq v hv=>?_⟩
   rcases List.mem_cons.1 hq with rfl | hq
   ·have:=h4 v hv;omega
   ·exact h2 q hq v hv
theorem PolyOk.mx {ps:List (List P2)} (h:PolyOk ps) {p:List P2} (hp:p∈ps) {v:P2} (hv:v∈p):mxP v<=65536:=by
 have:=h.pt hp hv
 unfold mxP;omega
theorem farN_eg {ps:List (List P2)} {k:Int} (hk:0<k):EgB (ps.flatMap Qs) (Ky k 0 ps*k):=by
 have key:∀q∈ps,∀v∈q,(-((Ky k 0 ps:Int)*k)<=v.x/\v.x<=Ky k 0 ps*k)/\-((Ky k 0 ps:Int)*k)<=v.y/\v.y<=Ky k 0 ps*k:=λq hq v hv=>by
  have h:=(Qjz (k:=k) ps 0).2 q hq v hv
  have h2:¬ Ky k 0 ps<dT k v:=by omega
  rw[Qsq hk,Qq2]at h2
  omega
 intro e he
 obtain⟨q,hq,hq2⟩:=jq.1 he
 have h1:e.1∈q:=by rw[<- Q0s q];exact jt hq2
 have h2:e.2∈q:=by
  have:=jt (f:=Prod.snd) hq2
  exact(Q96 q).mem_iff.1 this
 have a:=key q hq _ h1
 have b:=key q hq _ h2
 exact⟨a.1,a.2,b.1,b.2⟩
def FarC (P:Program) (f:FuncId):Prop:=∀(ps:List (List P2)) (k:Int),PolyOk ps->PitchOk k->CallIs P f [Qb ps,.i .i64 k] (.i .i64 ((Ky k 0 ps:Nat)+1))
section
variable {P:Program} (hm:P.follows .mixedOrders=true)
include hm
theorem Qay {f:FuncId} (hf:Q9 P f L1m.c L1m.r L1m.n):FarC P f:=by
 intro ps k hps hk
 have k1:=hk.lo
 have k2:=hk.hi
 have hpl:=hps.num
 refine PureC.is (Q6 hm hf (qh rfl) ?_) rfl
 unfold L1m.c
 simp[go_sem,Qb]
 obtain⟨A,hA⟩:∃A:Nat->Nat,∀i,A i=Ky k 0 (ps.take i):=⟨_,λ_=>rfl⟩
 have hA0:A 0=0:=by rw[hA];rfl
 have hAn:A ps.length=Ky k 0 ps:=by rw[hA,qi]
 have hAb:∀i,A i<=2048:=λi=>by
  rw[hA]
  exact Qc8 k1 _ 0 (by omega) λq hq v hv=>hps.mx (jo hq) hv
 refine Qc (α:=Nat) (λi=>i<=ps.length)
  (λi=>⟨[(0,Qb ps),(1,.i .i64 k),(5,.i .i64 (A i)),(6,.i .i64 i)],[]⟩)
  (λi=>ps.length-i) 0 (Nat.zero_le _) ?_ ?_
 ·simp[go_sem,Qb,hA0]
 intro i hi
 by_cases hil:i=ps.length
 ·subst hil
  have h1:=hAb ps.length
  rw[hAn]at h1 ⊢
  simp (disch:=omega) [go_sem,Qb,show ¬ (4095:Int)<(Ky k 0 ps:Nat) by omega,Q0,L1m.r]
 have hlt:i<ps.length:=by omega
 have hq:ps[i]?=some ps[i]:=q9 hlt
 have hln:=hps.len hq
 have hpt:∀v∈ps[i],_:=λv hv=>hps.pt (qb hq) hv
 have hmx:∀v∈ps[i],_:=λv hv=>hps.mx (qb hq) hv
 have hAs:A (i+1)=Iv k (A i) ps[i]:=by rw[hA,hA,Qa hq,Qmy]
 have hAi:=hAb i
 generalize ps[i]=p at *
 obtain⟨_,hq'⟩:=q8.1 hq
 generalize A i=a at *
 simp (disch:=omega) [go_sem,Qb,psV,hlt,hq,hq',Q0]
 obtain⟨B,hB⟩:∃B:Nat->Nat,∀j,B j=Iv k a (p.take j):=⟨_,λ_=>rfl⟩
 have hB0:B 0=a:=by rw[hB];rfl
 have hBn:B p.length=A (i+1):=by rw[hB,qi,hAs]
 have hBb:∀j,B j<=2048:=λj=>by
  rw[hB]
  exact Qc9 k1 _ a hAi λv hv=>hmx v (jo hv)
 refine Qc (α:=Nat) (λj=>j<=p.length)
  (λj=>⟨[(0,Qb ps),(1,.i .i64 k),(5,.i .i64 (B j)),(6,.i .i64 i),(7,.i .i64 j)],[]⟩)
  (λj=>p.length-j) 0 (Nat.zero_le _) ?_ ?_
 ·simp[go_sem,Qb,psV,hB0]
 intro j hj
 by_cases hjl:j=p.length
 ·subst hjl
  rw[hBn]
  simp (disch:=omega) [go_sem,Qb,psV,hlt,hq,hq',Q0]
  exact⟨i+1,by omega,by omega,by omega⟩
 have hjt:j<p.length:=by omega
 have hv:p[j]?=some p[j]:=q9 hjt
 have hvb:=hpt _ (qb hv)
 have hBs:B (j+1)=Q1r k (B j) p[j]:=by rw[hB,hB,Qa hv,Qmz]
 have hBj:=hBb j
 have hBj1:=hBb (j+1)
 generalize p[j]=v at *
 obtain⟨_,hv'⟩:=q8.1 hv
 generalize B j=b at *
 simp (disch:=omega) [go_sem,Qb,psV,hlt,hq,hq',hjt,hv,hv',P2.cs,Q0]
 have hb1:b<=B (j+1):=by rw[hBs];unfold Q1r;omega
 refine Qc (α:=Nat) (λn=>b<=n/\n<=B (j+1))
  (λn=>⟨[(0,Qb ps),(1,.i .i64 k),(5,.i .i64 n),(6,.i .i64 i),(7,.i .i64 j),(8,.p 0 1 0 0)],[.arr 1 2 [v.cs]]⟩)
  (λn=>B (j+1)-n) b ⟨Nat.le_refl _,hb1⟩ ?_ ?_
 ·simp[go_sem,Qb,psV,P2.cs]
 rintro n ⟨hn1,hn⟩
 have hlt2:=Qsq (k:=k) (by omega) (n:=n) (p:=v)
 rw[Qq2]at hlt2
 have hnm:=Xh (a:=(n:Int)) (b:=k) (k:=2048) (m:=1024) (by omega) (by omega)
 have hcont:n<dT k v->n<B (j+1):=λh=>by rw[hBs];unfold Q1r;omega
 have hstop:¬ n<dT k v->n=B (j+1):=λh=>by
  rw[hBs]at hn ⊢
  unfold Q1r at hn ⊢
  omega
 obtain⟨M,hM⟩:∃M:Int,(n:Int)*k=M:=⟨_,rfl⟩
 rw[hM]at hlt2 hnm
 have wM:IntKind.i64.wrap M=M:=Q0 (by omega) (by omega)
 have wx:IntKind.i64.wrap (-v.x)=-v.x:=Q0 (by omega) (by omega)
 have wy:IntKind.i64.wrap (-v.y)=-v.y:=Q0 (by omega) (by omega)
 by_cases c1:M<v.x
 ·have:=hcont (hlt2.2 (by omega))
  simp (disch:=omega) [go_sem,Qb,psV,P2.cs,hM,wM,wx,wy,c1,Q0]
  exact⟨n+1,by omega,by omega,by omega⟩
 by_cases c2:M < -v.x
 ·have:=hcont (hlt2.2 (by omega))
  simp (disch:=omega) [go_sem,Qb,psV,P2.cs,hM,wM,wx,wy,c1,c2,Q0]
  exact⟨n+1,by omega,by omega,by omega⟩
 by_cases c3:M<v.y
 ·have:=hcont (hlt2.2 (by omega))
  simp (disch:=omega) [go_sem,Qb,psV,P2.cs,hM,wM,wx,wy,c1,c2,c3,Q0]
  exact⟨n+1,by omega,by omega,by omega⟩
 by_cases c4:M < -v.y
 ·have:=hcont (hlt2.2 (by omega))
  simp (disch:=omega) [go_sem,Qb,psV,P2.cs,hM,wM,wx,wy,c1,c2,c3,c4,Q0]
  exact⟨n+1,by omega,by omega,by omega⟩
 have hnB:=hstop (by rw[hlt2];omega)
 simp (disch:=omega) [go_sem,Qb,psV,P2.cs,hM,wM,wx,wy,c1,c2,c3,c4,Q0]
 exact⟨j+1,by omega,by omega,by omega⟩
end
def Kp (q:P2->Bool) (d y:Int) (n:Nat):List P2:=((List.range n).map λ(j:Nat)=>(⟨-d+j,y⟩:P2)).filter q
def J6 (q:P2->Bool) (d:Int) (w m:Nat):List P2:=(List.range m).flatMap λ(i:Nat)=>Kp q d (-d+i) w
theorem Qgx (q:P2->Bool) (d y:Int) (n:Nat):Kp q d y (n+1)=Kp q d y n++(if q ⟨-d+n,y⟩ then [⟨-d+n,y⟩] else []):=by
 unfold Kp
 rw[List.range_succ,qx,List.filter_append]
 congr 1
 by_cases h:q ⟨-d+n,y⟩=true
 ·simp[h]
 ·simp[h]
theorem Q2h (q:P2->Bool) (d:Int) (w m:Nat):J6 q d w (m+1)=J6 q d w m++Kp q d (-d+m) w:=by
 unfold J6
 rw[List.range_succ,List.flatMap_append]
 simp
theorem Q94 (q:P2->Bool) (d y:Int) (n:Nat):(Kp q d y n).length<=n:=by
 unfold Kp
 refine Nat.le_trans (jc _ _) ?_
 simp
theorem Q6s (q:P2->Bool) (d:Int) (w:Nat):∀m,(J6 q d w m).length<=m*w
 | 0=>by simp[J6]
 | m+1=>by
   rw[Q2h,j7,Nat.succ_mul]
   have:=Q6s q d w m
   have:=Q94 q d (-d+m) w
   omega
theorem mem_rowCl {q:P2->Bool} {d y:Int} {n:Nat} {p:P2}:p∈Kp q d y n↔q p=true/\p.y=y/\-d<=p.x/\p.x < -d+n:=by
 unfold Kp
 rw[qu,qo]
 constructor
 ·rintro⟨⟨j,hj,rfl⟩,h⟩
  have:=qz.1 hj
  exact⟨h,rfl,by simp only[];omega,by simp only[];omega⟩
 ·rintro⟨h,rfl,h1,h2⟩
  refine⟨⟨(p.x+d).toNat,qz.2 (by omega),?_⟩,h⟩
  cases p
  simp only at h1 h2 ⊢
  congr 1
  omega
theorem Q6f {q:P2->Bool} {d:Int} {w m:Nat} {p:P2}:p∈J6 q d w m↔q p=true/\(-d<=p.x/\p.x < -d+w)/\-d<=p.y/\p.y < -d+m:=by
 unfold J6
 rw[jq]
 constructor
 ·rintro⟨i,hi,h⟩
  have:=qz.1 hi
  obtain⟨h1,h2,h3,h4⟩:=mem_rowCl.1 h
  exact⟨h1,⟨h3,h4⟩,by omega,by omega⟩
 ·rintro⟨h1,⟨h3,h4⟩,h5,h6⟩
  exact⟨(p.y+d).toNat,qz.2 (by omega),mem_rowCl.2 ⟨h1,by omega,h3,h4⟩⟩
theorem Q6t (q:P2->Bool) (d:Int) (w m:Nat):(J6 q d w m).Pairwise λa b=>Q41 a b=true:=by
 unfold J6
 rw[List.pairwise_flatMap]
 refine⟨λi _=>?_,?_⟩
 ·unfold Kp
  refine List.Pairwise.filter _ ?_
  rw[ji]
  exact List.pairwise_lt_range.imp λ{a b} h=>by
   unfold Q41
   simp
   omega
 ·refine List.pairwise_lt_range.imp λ{a b} h x hx y hy=>?_
  have h1:=(mem_rowCl.1 hx).2.1
  have h2:=(mem_rowCl.1 hy).2.1
  unfold Q41
  rw[h1,h2]
  simp
  omega
theorem Qhq {es:List Eg} (hb:Kj es) {k:Int} (hk:PitchOk k) {n:Nat} (hn:n<=2048) (hE:EgB es (n*k)) :
  ofL (J6 (λp=>decide (0<wnd es (ctr k p.y p.x))) (n+1) (2*n+3) (2*n+3))=W7 es k:=by
 have k1:=hk.lo
 generalize hL:J6 (λp=>decide (0<wnd es (ctr k p.y p.x))) (n+1) (2*n+3) (2*n+3)=L
 have hI:=Qh8 L (by rw[<- hL];exact Q6t _ _ _ _) L.length (Nat.le_refl _)
 rw[qi]at hI
 unfold W7
 refine Q1v hI.v λy x=>?_
 rw[hI.mem,<- hL,Q6f]
 simp only[decide_eq_true_eq]
 constructor
 ·rintro⟨h1,h2,h3⟩
  exact⟨by omega,by omega,h1⟩
 ·rintro⟨h1,h2,h3⟩
  refine⟨h3,Classical.byContradiction λhne=>?_⟩
  have h0:wnd es (ctr k y x)=0:=by
   refine wnd_out hb hE ?_
   unfold ctr
   simp only[]
   have lo:∀z:Int,z<=-(n+2:Int)->z*k+k / 2 < -(n*k):=λz hz=>by
    have:=jm hz (show 0<=k by omega)
    have e:-((n:Int)+2)*k=-(n*k)-2*k:=by grind
    omega
   have hi:∀z:Int,(n+1:Int)<z->(n:Int)*k<z*k+k / 2:=λz hz=>by
    have:=jm (show (n:Int)+1<=z by omega) (show 0<=k by omega)
    have e:((n:Int)+1)*k=n*k+k:=by grind
    omega
   by_cases a1:x < -(n+1:Int)
   ·exact .inl (lo x (by omega))
   by_cases a2:(n+1:Int)<x
   ·exact .inr (.inl (hi x a2))
   by_cases a3:y < -(n+1:Int)
   ·exact .inr (.inr (.inl (lo y (by omega))))
   exact .inr (.inr (.inr (hi y (by omega))))
  omega
theorem Qcl:∀(l:List Int) (lo hi:Int),l.Pairwise (·<·)->(∀x∈l,lo<=x/\x<hi)->(l.length:Int)<=max 0 (hi-lo)
 | [],lo,hi,_,_=>by simp;omega
 | x::l,lo,hi,hp,h=>by
   obtain⟨h1,h2⟩:=jd.1 hp
   have hx:=h x (by simp)
   have:=Qcl l (x+1) hi h2 λy hy=>by have:=h1 y hy;have:=h y (by simp[hy]);omega
   rw[List.length_cons]
   omega
theorem RgV.len {g:List Rw} (h:RgV g) (hb:RgB g):g.length<=8192:=by
 have:=Qcl (g.map Rw.y) (-4096) 4096 (by rw[ji];exact h.asc) λy hy=>by
  obtain⟨w,hw,rfl⟩:=qo.1 hy
  obtain⟨x,hx⟩:=(h.rs w hw).some (h.ne w hw)
  exact(hb w.y x ⟨w,hw,rfl,hx⟩).1
 rw[List.length_map]at this
 omega
def RnI (l:List Rn):Prop:=∀r∈l,-4096<=r.a/\r.b<=4096
theorem RnsV.len {l:List Rn} (h:RnsV l) (hb:RnI l):l.length<=8192:=by
 have:=Qcl (l.map Rn.a) (-4096) 4096 (by
  rw[ji]
  refine List.Pairwise.imp_of_mem ?_ h.2
  intro r s hr hs hrs
  have:=h.1 r hr
  omega) λy hy=>by
  obtain⟨r,hr,rfl⟩:=qo.1 hy
  have:=h.1 r hr
  have:=hb r hr
  omega
 rw[List.length_map]at this
 omega
theorem RgB.rnb {g:List Rw} (h:RgV g) (hb:RgB g) {w:Rw} (hw:w∈g):RnI w.rs:=λr hr=>by
 have:=RgB.run h hb hw hr
 omega
theorem RgB.yb {g:List Rw} (h:RgV g) (hb:RgB g) {w:Rw} (hw:w∈g):-4096<=w.y/\w.y<4096:=by
 obtain⟨x,hx⟩:=(h.rs w hw).some (h.ne w hw)
 exact(hb w.y x ⟨w,hw,rfl,hx⟩).1
def Zy (l:List Rn) (i:Nat):Int:=if i % 2=1 then ((l[i / 2]?).getD ⟨1048577,1048577⟩).b else ((l[i / 2]?).getD ⟨1048577,1048577⟩).a
theorem E6 (l:List Rn):Zy l (2*l.length)=1048577:=by
 unfold Zy
 rw[if_neg (by omega),show 2*l.length / 2=l.length by omega,qk (Nat.le_refl _)];rfl
theorem E8 {l:List Rn} {k:Nat} {r:Rn} (h:l[k]?=some r):Zy l (2*k)=r.a:=by
 unfold Zy
 rw[if_neg (by omega),show 2*k / 2=k by omega,h];rfl
theorem Q05 {l:List Rn} {k:Nat} {r:Rn} (h:l[k]?=some r):Zy l (2*k+1)=r.b:=by
 unfold Zy
 rw[if_pos (by omega),show (2*k+1) / 2=k by omega,h];rfl
theorem Qcj {l:List Rn} (hl:RnsV l) (hb:RnI l) {i:Nat} (h:i<2*l.length):-4096<=Zy l i/\Zy l i<=4096:=by
 have hq:l[i / 2]?=some l[i / 2]:=q9 (by omega)
 have h1:=hb _ (qb hq)
 have h2:=hl.1 _ (qb hq)
 unfold Zy
 rw[hq]
 split<;>simp only[Option.getD_some]<;>omega
theorem Qne {l:List Rn} (h:RnsV l) {i:Nat} (hi:i+1<2*l.length):Zy l i<Zy l (i+1):=by
 have hq:l[i / 2]?=some l[i / 2]:=q9 (by omega)
 by_cases he:i % 2=1
 ·have hq2:l[i / 2+1]?=some l[i / 2+1]:=q9 (by omega)
  have e1:=Q05 hq
  have e2:=E8 hq2
  rw[show 2*(i / 2)+1=i by omega]at e1
  rw[show 2*(i / 2+1)=i+1 by omega]at e2
  rw[e1,e2]
  exact j8.1 h.2 (i / 2) (i / 2+1) (by omega) (by omega) (by omega)
 ·have e1:=E8 hq
  have e2:=Q05 hq
  rw[show 2*(i / 2)=i by omega]at e1
  rw[show 2*(i / 2)+1=i+1 by omega]at e2
  rw[e1,e2]
  exact h.1 _ (qb hq)
theorem E7 {l:List Rn} (h:RnsV l) {i:Nat}:∀{j:Nat},i<j->j<2*l.length->Zy l i<Zy l j
 | 0,hij,_=>by omega
 | j+1,hij,hj=>by
   have h1:=Qne h hj
   by_cases he:i=j
   ·rw[he];exact h1
   ·have:=E7 h (i:=i) (j:=j) (by omega) (by omega)
    omega
theorem Qmo {l:List Rn} {x:Int}:Qj l x↔∃k,k<l.length/\Zy l (2*k)<=x/\x<Zy l (2*k+1):=by
 constructor
 ·rintro⟨r,hr,h⟩
  obtain⟨k,hk⟩:=qq hr
  refine⟨k,(q8.1 hk).1,?_⟩
  rw[E8 hk,Q05 hk];exact h
 ·rintro⟨k,hk,h⟩
  have hq:l[k]?=some l[k]:=q9 hk
  rw[E8 hq,Q05 hq]at h
  exact⟨_,qb hq,h⟩
structure PosR (l:List Rn) (i:Nat) (X:Int):Prop where
 le:i<=2*l.length
 lo:∀k,k<i->Zy l k<=X
 hi:∀k,i<=k->k<2*l.length->X<Zy l k
theorem PosR.start {l:List Rn} (h:RnsV l) (hb:RnI l):PosR l 0 (-5000):=⟨by omega,by omega,λk _ hk=>by have:=Qcj h hb hk;omega⟩
theorem PosR.inn {l:List Rn} (h:RnsV l) {i:Nat} {X x:Int} (hp:PosR l i X) (h1:X<=x) (h2:i<2*l.length->x<Zy l i):Qj l x↔i % 2=1:=by
 have hle:=hp.le
 rw[Qmo]
 constructor
 ·rintro⟨k,hk,h3,h4⟩
  refine jb λhne=>?_
  by_cases hki:2*k+1<i
  ·have:=hp.lo _ hki;omega
  ·have h5:i<2*l.length:=by omega
   have h6:=h2 h5
   by_cases he:i=2*k
   ·rw[he]at h6;omega
   ·have:=E7 h (i:=i) (j:=2*k) (by omega) (by omega);omega
 ·intro ho
  have h5:i<2*l.length:=by omega
  refine⟨i / 2,by omega,?_,?_⟩
  ·have:=hp.lo (2*(i / 2)) (by omega);omega
  ·rw[show 2*(i / 2)+1=i by omega];exact h2 h5
theorem PosR.step {l:List Rn} (h:RnsV l) (hb:RnI l) {i:Nat} {X x:Int} (hp:PosR l i X) (h1:X<x) (h2:x<=Zy l i) (h3:x<1048577):PosR l (if Zy l i=x then i+1 else i) x:=by
 have hle:=hp.le
 have hov:=E6 l
 have hil:Zy l i=x->i<2*l.length:=λhe=>by
  refine jb λhn=>?_
  have:i=2*l.length:=by omega
  rw[this,hov]at he;omega
 split
 ·rename_i he
  have hi2:=hil he
  refine⟨by omega,λk hk=>?_,λk hk hk2=>?_⟩
  ·by_cases hki:k=i
   ·rw[hki];omega
   ·have:=hp.lo k (by omega);omega
  ·have:=E7 h (i:=i) (j:=k) (by omega) hk2;omega
 ·refine⟨hle,λk hk=>?_,λk hk hk2=>?_⟩
  ·have:=hp.lo k hk;omega
  ·by_cases hki:i=k
   ·rw[<- hki];omega
   ·have:=E7 h (i:=i) (j:=k) (by omega) hk2;omega
def Ek (i j:Nat):Bool:=decide (i % 2=1) || decide (j % 2=1)
structure SwI (a b:List Rn) (i j:Nat) (X:Int) (out:List Rn):Prop where
 pa:PosR a i X
 pb:PosR b j X
 cl:Ek i j=false->RnsV out/\(∀r∈out,r.b<=X)/\∀x,x<X->(Qj out x↔Qj a x∨Qj b x)
 op:Ek i j=true->∃o f,out=o++[⟨f,0⟩]/\RnsV o/\(∀r∈o,r.b<f)/\f<=X/\∀x,x<X->(Qj o x∨f<=x↔Qj a x∨Qj b x)
 len:out.length<=i+j
theorem Qey {l:List Rn} (hb:RnI l) {x:Int} (h:Qj l x):-4096<=x/\x<4096:=by
 obtain⟨r,hr,h1,h2⟩:=h
 have:=hb r hr
 omega
theorem SwI.start {a b:List Rn} (ha:RnsV a) (hb:RnsV b) (ha2:RnI a) (hb2:RnI b):SwI a b 0 0 (-5000) [] where
 pa:=PosR.start ha ha2
 pb:=PosR.start hb hb2
 cl _:=⟨RnsV.nil,by simp,λx hx=>⟨λh=>absurd h (Qm _),λh=>by
  rcases h with h | h
  ·have:=Qey ha2 h;omega
  ·have:=Qey hb2 h;omega⟩⟩
 op h:=by simp[Ek]at h
 len:=by simp
theorem SwI.done {a b out U:List Rn} {X:Int} (ha:RnsV a) (hb:RnsV b) (h:SwI a b (2*a.length) (2*b.length) X out) (hU:RnsV U) (hUx:∀x,Qj U x↔Qj a x∨Qj b x):out=U:=by
 obtain⟨h1,h2,h3⟩:=h.cl (by simp[Ek])
 refine h1.ext hU λx=>?_
 rw[hUx]
 by_cases hx:x<X
 ·exact h3 x hx
 ·have e1:=h.pa.inn ha (x:=x) (by omega) (by omega)
  have e2:=h.pb.inn hb (x:=x) (by omega) (by omega)
  rw[e1,e2]
  constructor
  ·rintro⟨r,hr,hr2,hr3⟩
   have:=h2 r hr;omega
  ·omega
def Eo (x:Int) (was now:Bool) (out:List Rn):List Rn :=
 if now && !was then out++[⟨x,0⟩] else if !now && was then out.dropLast++[⟨((out.getLast?).getD ⟨0,0⟩).a,x⟩] else out
def swN (l:List Rn) (i:Nat) (x:Int):Nat:=if Zy l i=x then i+1 else i
theorem SwI.step {a b out:List Rn} {i j:Nat} {X x:Int} (ha:RnsV a) (hb:RnsV b) (ha2:RnI a) (hb2:RnI b) (h:SwI a b i j X out) (hx:x=min (Zy a i) (Zy b j)) (hij:i<2*a.length∨j<2*b.length) :
  SwI a b (swN a i x) (swN b j x) x (Eo x (Ek i j) (Ek (swN a i x) (swN b j x)) out):=by
 have hx1:x<=4096:=by
  rcases hij with h1 | h1
  ·have:=Qcj ha ha2 h1;omega
  ·have:=Qcj hb hb2 h1;omega
 have hov1:=E6 a
 have hov2:=E6 b
 have gt1:X<Zy a i∨(i=2*a.length):=by
  by_cases h1:i<2*a.length
  ·exact .inl (h.pa.hi i (Nat.le_refl _) h1)
  ·have:=h.pa.le;exact .inr (by omega)
 have gt2:X<Zy b j∨(j=2*b.length):=by
  by_cases h1:j<2*b.length
  ·exact .inl (h.pb.hi j (Nat.le_refl _) h1)
  ·have:=h.pb.le;exact .inr (by omega)
 have hXx:X<x:=by
  have hX:X<1048577:=by
   rcases gt1 with g1 | g1
   ·rcases gt2 with g2 | g2
    ·omega
    ·rw[g2,hov2]at hx;omega
   ·rcases gt2 with g2 | g2
    ·rw[g1,hov1]at hx;omega
    ·omega
  rcases gt1 with g1 | g1<;>rcases gt2 with g2 | g2
  ·omega
  ·rw[g2,hov2]at hx;omega
  ·rw[g1,hov1]at hx;omega
  ·omega
 have ia:=λy (h1:X<=y) (h2:y<x)=>h.pa.inn ha (x:=y) h1 (λ_=>by omega)
 have ib:=λy (h1:X<=y) (h2:y<x)=>h.pb.inn hb (x:=y) h1 (λ_=>by omega)
 have iab:∀y,X<=y->y<x->((Qj a y∨Qj b y)↔Ek i j=true):=λy h1 h2=>by
  rw[ia y h1 h2,ib y h1 h2]
  unfold Ek
  simp
 have hpa:=h.pa.step ha ha2 hXx (by omega) (by omega)
 have hpb:=h.pb.step hb hb2 hXx (by omega) (by omega)
 have hlen:=h.len
 have hsn:i<=swN a i x/\j<=swN b j x:=by unfold swN;constructor<;>split<;>omega
 have hsn2:i+j+1<=swN a i x+swN b j x:=by
  have:Zy a i=x∨Zy b j=x:=by omega
  unfold swN
  rcases this with h1 | h1
  ·rw[if_pos h1];split<;>omega
  ·rw[if_pos h1];split<;>omega
 cases hw:Ek i j with
 | false =>
   obtain⟨c1,c2,c3⟩:=h.cl hw
   have hno:∀y,X<=y->¬ Qj out y:=λy hy ⟨r,hr,h1,h2⟩=>by have:=c2 r hr;omega
   have hall:∀y,y<x->(Qj out y↔Qj a y∨Qj b y):=λy hy=>by
    by_cases h1:y<X
    ·exact c3 y h1
    ·rw[iab y (by omega) hy,hw]
     simp[hno y (by omega)]
   cases hn:Ek (swN a i x) (swN b j x) with
   | false=>exact⟨hpa,hpb,λ_=>⟨c1,λr hr=>by have:=c2 r hr;omega,hall⟩,λhh=>by rw[hn]at hh;simp at hh,by simp[Eo];omega⟩
   | true =>
     refine⟨hpa,hpb,λhh=>by rw[hn]at hh;simp at hh,λ_=>⟨out,x,by simp[Eo],c1,λr hr=>by have:=c2 r hr;omega,Int.le_refl _,λy hy=>?_⟩,by simp[Eo];omega⟩
     rw[<- hall y hy]
     constructor
     ·rintro (h1 | h1)
      ·exact h1
      ·omega
     ·exact .inl
 | true =>
   obtain⟨o,f,c0,c1,c2,c3,c4⟩:=h.op hw
   have hall:∀y,y<x->(Qj o y∨f<=y↔Qj a y∨Qj b y):=λy hy=>by
    by_cases h1:y<X
    ·exact c4 y h1
    ·rw[iab y (by omega) hy,hw]
     simp
     exact .inr (by omega)
   cases hn:Ek (swN a i x) (swN b j x) with
   | true=>exact⟨hpa,hpb,λhh=>by rw[hn]at hh;simp at hh,λ_=>⟨o,f,by simp[Eo,c0],c1,c2,by omega,hall⟩,by simp[Eo];omega⟩
   | false =>
     have e:Eo x true false out=o++[⟨f,x⟩]:=by rw[c0];simp[Eo]
     refine⟨hpa,hpb,λ_=>?_,λhh=>by rw[hn]at hh;simp at hh,?_⟩
     ·rw[e]
      refine⟨RnsV.snoc.2 ⟨c1,by simp only[];omega,λr hr=>c2 r hr⟩,λr hr=>?_,λy hy=>?_⟩
      ·rcases qg.1 hr with hr | hr
       ·have:=c2 r hr;omega
       ·rw[qn.1 hr];exact Int.le_refl _
      ·rw[<- hall y hy,Jo,inRns_cons]
       simp only[Qm,or_false]
       constructor
       ·rintro (h1 | ⟨h1,_⟩)
        ·exact .inl h1
        ·exact .inr h1
       ·rintro (h1 | h1)
        ·exact .inl h1
        ·exact .inr ⟨h1,hy⟩
     ·rw[e]
      rw[c0]at hlen
      simp only[j7,List.length_cons,List.length_nil]at hlen ⊢
      omega
end Go.Abs
namespace Go.Abs
open Go.Sort
theorem Qi2 {t:T3} {e:P2} (h:e∈Q8 t):e.x≠e.y:=by
 unfold Q8 Zq at h
 have:=(qu.1 h).2
 simpa using this
theorem Qig {l:List T3} {e:P2} (h:e∈Qd l):e.x≠e.y:=by
 obtain⟨t,_,ht⟩:=jq.1 h
 exact Qi2 ht
theorem Qom {e:P2} (h:e.x<e.y):e.und=e:=by cases e;simp only[P2.und,P2.mk.injEq]at h ⊢;omega
theorem und_gt {e:P2} (h:¬ e.x<e.y):e.und=e.rev:=by cases e;simp only[P2.und,P2.rev,P2.mk.injEq]at h ⊢;omega
def isV (l:List Int):V:=.l 1 (l.map λx=>[.i .i64 x])
def bl (n:Nat) (g:Nat->Bool):List (List V):=(List.range n).map λj=>[.b (g j)]
theorem Wg (n:Nat) (g:Nat->Bool):(bl n g).length=n:=by simp[bl]
theorem Q1x {n:Nat} {g:Nat->Bool} {i:Nat} (h:i<n):(bl n g)[i]?=some [.b (g i)]:=by simp[bl,h]
theorem Qt2 (n:Nat):List.replicate n [V.b false]=bl n (λ_=>false):=by
 apply qy
 intro i
 by_cases h:i<n
 ·rw[Q1x h];simp[h]
 ·rw[qk (by simp;omega),qk (by rw[Wg];omega)]
theorem Qt1 (n:Nat) (g:Nat->Bool) (i:Nat) (b:Bool):(bl n g).set i [.b b]=bl n (λj=>if j=i then b else g j):=by
 apply qy
 intro j
 by_cases h:j<n
 ·rw[Q1x h]
  by_cases hj:i=j
  ·subst hj
   rw[qm (by rw[Wg];exact h),if_pos rfl]
  ·rw[qt hj,Q1x h,if_neg (λhh=>hj hh.symm)]
 ·rw[qk (by simp[Wg];omega),qk (by rw[Wg];omega)]
theorem Qft (n:Nat) (g:Nat->Bool) (k:Nat):∀el∈bl n g,∀x∈el,x.cl k=true:=by
 intro el hel x hx
 obtain⟨j,_,rfl⟩:=qo.1 hel
 simp at hx;subst hx;rfl
theorem Qt3 (n:Nat) (g:Nat->Bool):∀el∈bl n g,∀x∈el,x.isD=true:=by
 intro el hel x hx
 obtain⟨j,_,rfl⟩:=qo.1 hel
 simp at hx;subst hx;rfl
def ics (l:List Int):List (List V):=l.map λx=>[.i .i64 x]
def lsV (ls:List (List Int)):V:=.l 1 (ls.map λl=>[isV l])
def Held (b:Nat) (hx:List O) (ls:List (List Int)) (cells:List (List V)):Prop :=
 cells.length=ls.length/\∀(i:Nat) (c:List V) (l:List Int),cells[i]?=some c->ls[i]?=some l->∃j g,c=[.own (b+j) g 0 l.length]/\hx[j]?=some (.arr g 1 (ics l))
def Flt (hx:List O):Prop:=∀o∈hx,∀n,o.cl n
theorem Held.nil (b:Nat):Held b [] [] []:=⟨rfl,by simp⟩
theorem Held.app {b:Nat} {hx:List O} {ls:List (List Int)} {cells:List (List V)} (h:Held b hx ls cells) (l:List O):Held b (hx++l) ls cells :=
 ⟨h.1,λi c x h1 h2=>by obtain⟨j,g,h3,h4⟩:=h.2 i c x h1 h2;exact⟨j,g,h3,by rw[qd (q8.1 h4).1];exact h4⟩⟩
theorem Held.snoc {b:Nat} {hx:List O} {ls:List (List Int)} {cells:List (List V)} (h:Held b hx ls cells) {j g:Nat} {l:List Int} (hj:hx[j]?=some (.arr g 1 (ics l))):Held b hx (ls++[l]) (cells++[[.own (b+j) g 0 l.length]]):=by
 refine⟨by simp[h.1],λi c x h1 h2=>?_⟩
 by_cases hi:i<ls.length
 ·rw[qd (by rw[h.1];exact hi)]at h1
  rw[qd hi]at h2
  exact h.2 i c x h1 h2
 ·rw[qf (by rw[h.1];omega)]at h1
  rw[qf (by omega)]at h2
  have hi0:i-ls.length=0:=by
   have:=(q8.1 h2).1
   simp at this;omega
  rw[h.1,hi0]at h1
  rw[hi0]at h2
  simp at h1 h2
  subst h1;subst h2
  exact⟨j,g,rfl,hj⟩
theorem Held.cl {b:Nat} {hx:List O} {ls:List (List Int)} {cells:List (List V)} (h:Held b hx ls cells) {n:Nat} (hn:b+hx.length<=n):∀el∈cells,∀x∈el,x.cl n=true:=by
 intro el hel x hx'
 obtain⟨i,hi⟩:=qq hel
 have hlt:=(q8.1 hi).1
 obtain⟨j,g,rfl,h4⟩:=h.2 i el _ hi (q9 (by rw[<- h.1];exact hlt))
 have:=(q8.1 h4).1
 simp at hx';subst hx'
 simp[V.cl,V.cl1,V.cl0];omega
theorem Qjv (l:List Int):∀el∈ics l,∀x∈el,x.isD=true:=by
 intro el hel x hx
 obtain⟨a,_,rfl⟩:=qo.1 hel
 simp at hx;subst hx;rfl
theorem Q6q (l:List Int) (n:Nat):∀el∈ics l,∀x∈el,x.cl n=true:=λel hel x hx=>Kg n (Qjv l el hel x hx)
theorem Held.frz {b:Nat} {base hx:List O} {ls:List (List Int)} {cells:List (List V)} (h:Held b hx ls cells) (hb:base.length=b):cells.mapM (λel=>el.mapM (Em (base++hx)))=some (ls.map λl=>[isV l]):=by
 induction cells generalizing ls with
 | nil =>
   have:=h.1
   simp at this
   obtain rfl:=List.length_eq_zero_iff.1 this.symm
   rfl
 | cons c cells ih =>
   have hl:=h.1
   cases ls with
   | nil=>simp at hl
   | cons l ls =>
     have h0:=h.2 0 c l rfl rfl
     obtain⟨j,g,rfl,hj⟩:=h0
     have ht:Held b hx ls cells:=⟨by simpa using hl,λi c x h1 h2=>h.2 (i+1) c x (by simpa using h1) (by simpa using h2)⟩
     have hg:(base++hx)[b+j]?=some (.arr g 1 (ics l)):=by rw[<- hb,Qf];exact hj
     have ha:(ics l).all (λx=>x.all V.isD)=true:=by
      rw[qj]
      exact λel hel=>qj.2 (Qjv l el hel)
     have hlen:(ics l).length=l.length:=by simp[ics]
     have hfr:Em (base++hx) (.own (b+j) g 0 l.length)=some (isV l):=by
      have ht2:List.take l.length (ics l)=ics l:=qe (by omega)
      show _=some (V.l 1 (ics l))
      simp only[Em,X1,hg]
      rw[List.drop_zero,ht2,if_pos ⟨trivial,by omega,ha⟩]
     simp[List.mapM_cons,hfr,ih ht]
theorem held_if {b:Nat} {base hx:List O} {ls:List (List Int)} {cells:List (List V)} (h:Held b hx ls cells) (hb:base.length=b) :
  (if ls.length<=cells.length then Option.map (V.l 1) (List.mapM (λel=>List.mapM (Em (base++hx)) el) (List.take ls.length cells)) else none)=some (lsV ls):=by
 have h1:=h.frz hb
 have ht:List.take ls.length cells=cells:=qe (by rw[h.1];exact Nat.le_refl _)
 simp only[ht,h1,h.1,Nat.le_refl,if_true,Option.map_some,lsV]
theorem Qfs {n:Nat} {g g':Nat->Bool} (h:∀j,j<n->g j=g' j):bl n g=bl n g':=by
 unfold bl
 exact ju λj hj=>by rw[h j (qz.1 hj)]
def mk (n:Nat) (done:List Int):List (List V):=bl n λj=>decide ((j:Int)∈done)
theorem mk_nil (n:Nat):List.replicate n [V.b false]=mk n []:=by rw[Qt2];exact Qfs λj _=>by simp
theorem Qq4 {n:Nat} {d:List Int} {v:Int} (h0:0<=v):(mk n d).set v.toNat [.b true]=mk n (d++[v]):=by
 unfold mk
 rw[Qt1]
 refine Qfs λj _=>?_
 by_cases hj:j=v.toNat
 ·have:(j:Int)=v:=by omega
  simp[hj,show ((v.toNat:Nat):Int)=v by omega]
 ·have:(j:Int)≠v:=by omega
  simp[hj,this]
theorem Qq5 {n:Nat} {d:List Int} {v:Int} (h0:0<=v) (h1:v<n):(mk n d)[v.toNat]?=some [.b (decide (v∈d))]:=by
 unfold mk
 rw[Q1x (by omega),show ((v.toNat:Nat):Int)=v by omega]
theorem mk_cl (n:Nat) (d:List Int) (k:Nat):∀el∈mk n d,∀x∈el,x.cl k=true:=Qft _ _ _
theorem Flt.app {a b:List O} (h:Flt a) (k:Flt b):Flt (a++b):=λo ho n=>by
 rcases qg.1 ho with h1 | h1
 ·exact h o h1 n
 ·exact k o h1 n
theorem Flt.WeakH {hx l:List O} (h:Flt hx) (n:Nat):WeakH n (hx++l) hx:=Qii λo ho=>h o ho n
theorem Flt.WeakH' {hx:List O} (h:Flt hx) (n:Nat):Go.Abs.WeakH n hx hx:=by
 have:=h.WeakH (l:=[]) n
 rwa [List.append_nil]at this
end Go.Abs
