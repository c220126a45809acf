/- Part of the library on which the proof stands: an abstract machine, its values and its soundness against the model; or what functions of the program do to such values. -/
import Derived.Test.YtcdjgldeiaiaoaaGreatGoSch
import Derived.Test.YtcdjgldeiaiaoaaGreatGoWeA
import Derived.Test.YtcdjgldeiaiaoaaGreatGoShpN
import Derived.Test.YtcdjgldeiaiaoaaGreatAbsSS
import Derived.Test.YtcdjgldeiaiaoaaGreatGoHeap
import Derived.Test.YtcdjgldeiaiaoaaGreatGoRevC
import Derived.Test.YtcdjgldeiaiaoaaGreatGoTpE
import Derived.Test.YtcdjgldeiaiaoaaGreatGoOriD
import Derived.Test.YtcdjgldeiaiaoaaGreatGoLq
import Derived.Test.YtcdjgldeiaiaoaaGreatGoRpH
import Derived.Test.YtcdjgldeiaiaoaaGreatGoOu
import Derived.Test.YtcdjgldeiaiaoaaGreatGoRpA
set_option linter.unusedVariables false
set_option linter.unusedSimpArgs false
set_option maxHeartbeats 2000000
namespace Go.Abs
def mxP (p:P2):Int:=max (max p.x (-p.x)) (max p.y (-p.y))
def dT (k:Int) (p:P2):Nat:=((mxP p+k-1) / k).toNat
def nx (n i:Nat):Nat:=if i+1=n then 0 else i+1
def cr (p q:P2):Int:=p.x*q.y-p.y*q.x
def bxV (s:V3):List V3:=[⟨0,0,0⟩,⟨0,0,s.z⟩,⟨0,s.y,0⟩,⟨0,s.y,s.z⟩,⟨s.x,0,0⟩,⟨s.x,0,s.z⟩,⟨s.x,s.y,0⟩,⟨s.x,s.y,s.z⟩]
def pI (j:Int):Int:=if j=1 then 4 else if j=3 then 6 else if j=4 then 1 else if j=6 then 3 else j
def pT (t:T3):T3:=⟨pI t.a,pI t.b,pI t.c⟩
def bxT:List T3:=[⟨0,2,6⟩,⟨0,6,4⟩,⟨1,5,7⟩,⟨1,7,3⟩,⟨0,4,5⟩,⟨0,5,1⟩,⟨2,3,7⟩,⟨2,7,6⟩,⟨0,1,3⟩,⟨0,3,2⟩,⟨4,6,7⟩,⟨4,7,5⟩]
theorem Qkb:bxT=boxTris.map pT:=by decide
def fl1 (p:Bool) (t:T3):T3:=if p then t.rev else t
def flI (F:Nat->Bool) (T:List T3) (K:List Nat):List T3:=K.map λi=>fl1 (F i) (tAt T i)
def Qv (g:Int):List Nat:=(List.range 12).filter λi=>decide ((i:Int)≠g)
theorem mem_keepI {g:Int} {i:Nat}:i∈Qv g↔i<12/\(i:Int)≠g:=by
 unfold Qv;rw[qv,qz,decide_eq_true_eq]
theorem Qie (g:Int):(Qv g).Pairwise (·<·):=List.pairwise_lt_range.filter _
theorem Qf6 (g:Int):(Qv g).length<=12:=by
 have:=j8 (λi:Nat=>decide ((i:Int)≠g)) (List.range 12)
 simpa[Qv]using this
theorem Q75:∀t∈boxTris,(0<=t.a/\t.a<8)/\(0<=t.b/\t.b<8)/\0<=t.c/\t.c<8:=by decide
theorem Q10:∀t∈bxT,(0<=t.a/\t.a<8)/\(0<=t.b/\t.b<8)/\0<=t.c/\t.c<8:=by decide
theorem fl1_idx {t:T3} (p:Bool) (h:(0<=t.a/\t.a<8)/\(0<=t.b/\t.b<8)/\0<=t.c/\t.c<8):(0<=(fl1 p t).a/\(fl1 p t).a<8)/\(0<=(fl1 p t).b/\(fl1 p t).b<8)/\0<=(fl1 p t).c/\(fl1 p t).c<8:=by
 cases p
 ·exact h
 ·exact⟨h.1,h.2.2,h.2.1⟩
theorem U1 {F:Nat->Bool} {T:List T3} (hT:T.length=12) (h:∀t∈T,(0<=t.a/\t.a<8)/\(0<=t.b/\t.b<8)/\0<=t.c/\t.c<8) {g:Int}:∀t∈flI F T (Qv g),(0<=t.a/\t.a<8)/\(0<=t.b/\t.b<8)/\0<=t.c/\t.c<8:=λt ht=>by
 obtain⟨i,hi,rfl⟩:=qp.1 ht
 exact fl1_idx _ (h _ (qb (Qi (by have:=(mem_keepI.1 hi).1;omega))))
structure Bx (s:V3):Prop where
 x:1<=s.x
 y:1<=s.y
 z:1<=s.z
 v:s.valid=true
theorem Bx.asc {s:V3} (h:Bx s):(bxV s).Pairwise V3.lt:=by
 obtain⟨h1,h2,h3,_⟩:=h
 simp[bxV,V3.lt]
 omega
theorem Bx.vals {s:V3} (h:Bx s):Jq (bxV s)=true:=by
 have:=V3.valid_iff.1 h.v
 obtain⟨h1,h2,h3,_⟩:=h
 simp only[Jq,bxV,List.all_cons,List.all_nil,Bool.and_true,Bool.and_eq_true]
 refine⟨?_,?_,?_,?_,?_,?_,?_,?_⟩<;>rw[V3.valid_iff]<;>simp only<;>omega
theorem bx_v {s:V3} {T T':List T3} {j:Int} (h0:0<=j) (h1:j<8):(Mesh.mk (Qk ⟨0,0,0⟩ s) T).v j=(Mesh.mk (bxV s) T').v (pI j):=by
 have:j=0∨j=1∨j=2∨j=3∨j=4∨j=5∨j=6∨j=7:=by omega
 rcases this with rfl | rfl | rfl | rfl | rfl | rfl | rfl | rfl<;>simp[Mesh.v,Qk,bxV,pI]
theorem Q88 {j:Int} (h0:0<=j) (h1:j<8):0<=pI j/\pI j<8:=by
 unfold pI;repeat' split
 all_goals omega
theorem Wn {s:V3} (h:Bx s) {T:List T3} (hl:T.length<=12) (hT:∀t∈T,(0<=t.a/\t.a<8)/\(0<=t.b/\t.b<8)/\0<=t.c/\t.c<8):(Mesh.mk (bxV s) T).check=0:=by
 rw[Mesh.check_zero]
 refine⟨by simp[bxV],by simp only;omega,h.vals,?_⟩
 simp only[Kw,qj]
 intro t ht
 have:=hT t ht
 rw[T3.ok_iff]
 simp[bxV];omega
theorem Qbx (j:Int) (h0:0<=j) (h1:j<8) (s:V3) (hs:Bx s):Kf (bxV s) ((Mesh.mk (bxV s) []).v (pI j))=pI j:=by
 obtain⟨p0,p1⟩:=Q88 h0 h1
 have hnd:(bxV s).Nodup:=Jk V3.ltO hs.asc
 have hlt:(pI j).toNat<(bxV s).length:=by simp[bxV];omega
 have:=Jo hnd (i:=(pI j).toNat) (v:=(Mesh.mk (bxV s) []).v (pI j)) (by
  rw[q9 hlt,(Mesh.mk (bxV s) []).v_get (by simp[bxV];omega) hlt])
 omega
theorem Qkc:∀j<8,∃i1<12,∃i2<12,i1≠i2/\((tAt bxT i1).a=(j:Nat)∨(tAt bxT i1).b=(j:Nat)∨(tAt bxT i1).c=(j:Nat))/\((tAt bxT i2).a=(j:Nat)∨(tAt bxT i2).b=(j:Nat)∨(tAt bxT i2).c=(j:Nat)):=by decide
theorem Qcl (T:List T3) (hT:T.length=12) (i:Nat) (hi:i<12):tAt (T.map pT) i=pT (tAt T i):=by
 have h1:=Qi (ts:=T) (i:=i) (by omega)
 have h2:=Qi (ts:=T.map pT) (i:=i) (by simp;omega)
 rw[qq,h1]at h2
 exact(Option.some.inj h2).symm
theorem pT_fl1 (p:Bool) (t:T3):pT (fl1 p t)=fl1 p (pT t):=by cases p<;>rfl
theorem flI_pT (F:Nat->Bool) (g:Int):(flI F boxTris (Qv g)).map pT=flI F bxT (Qv g):=by
 unfold flI
 rw[List.map_map]
 refine ji λi hi=>?_
 rw[Function.comp,pT_fl1,Qkb,Qcl boxTris rfl i (mem_keepI.1 hi).1]
theorem Q3b {s:V3} (h:Bx s) {T:List T3} (hl:T.length<=12) (hT:∀t∈T,(0<=t.a/\t.a<8)/\(0<=t.b/\t.b<8)/\0<=t.c/\t.c<8):(Mesh.mk (Qk ⟨0,0,0⟩ s) T).check=0:=by
 rw[Mesh.check_zero]
 refine⟨by simp[Qk],by simp only;omega,?_,?_⟩
 ·have:=V3.valid_iff.1 h.v
  obtain⟨h1,h2,h3,_⟩:=h
  simp only[Jq,Qk,List.all_cons,List.all_nil,Bool.and_true,Bool.and_eq_true]
  refine⟨?_,?_,?_,?_,?_,?_,?_,?_⟩<;>rw[V3.valid_iff]<;>simp only<;>omega
 ·simp only[Kw,qj]
  intro t ht
  have:=hT t ht
  rw[T3.ok_iff]
  simp[Qk];omega
theorem U0 (F:Nat->Bool) (T:List T3) (g:Int):(flI F T (Qv g)).length<=12:=by
 unfold flI;rw[List.length_map];exact Qf6 g
theorem Q9i {s:V3} (h:Bx s) (F:Nat->Bool) (g:Int):Q8 ⟨Qk ⟨0,0,0⟩ s,flI F boxTris (Qv g)⟩=(⟨bxV s,flI F bxT (Qv g)⟩,0,0):=by
 have hid:=U1 (F:=F) (T:=boxTris) rfl Q75 (g:=g)
 have hz:=Q3b h (U0 F boxTris g) hid
 have hv:∀j:Int,0<=j->j<8->(Mesh.mk (Qk ⟨0,0,0⟩ s) (flI F boxTris (Qv g))).v j=(Mesh.mk (bxV s) []).v (pI j):=λj h0 h1=>bx_v h0 h1
 have hW:(Mesh.mk (Qk ⟨0,0,0⟩ s) (flI F boxTris (Qv g))).wverts=bxV s:=by
  refine Jz V3.ltO (Y5 _) h.asc λv=>?_
  rw[mem_wverts]
  have hin:∀j:Int,0<=j->j<8->(Mesh.mk (bxV s) []).v (pI j)∈bxV s:=λj h0 h1=>by
   obtain⟨p0,p1⟩:=Q88 h0 h1
   exact Mesh.v_mem (m:=Mesh.mk (bxV s) []) p0 (by simp[bxV];omega)
  constructor
  ·rintro⟨t,ht,hc⟩
   obtain⟨⟨a0,a1⟩,⟨b0,b1⟩,c0,c1⟩:=hid t ht
   simp only[Mesh.cor,List.mem_cons,List.not_mem_nil,or_false,hv _ a0 a1,hv _ b0 b1,hv _ c0 c1]at hc
   rcases hc with rfl | rfl | rfl
   ·exact hin _ a0 a1
   ·exact hin _ b0 b1
   ·exact hin _ c0 c1
  ·intro hm
   obtain⟨k,hk⟩:=qr hm
   have hk8:k<8:=by have:=(q8.1 hk).1;simpa[bxV]using this
   obtain⟨i1,l1,i2,l2,hne,m1,m2⟩:=Qkc k hk8
   have hvk:(Mesh.mk (bxV s) []).v k=v:=by
    have:=(Mesh.mk (bxV s) []).v_get (i:=(k:Int)) (by simp[bxV];omega) (by simpa[bxV]using hk8)
    simp at this
    rw[<- this]
    obtain⟨_,h2⟩:=q8.1 hk
    exact h2
   obtain⟨i,hi,hig,hmi⟩:∃i:Nat,i<12/\(i:Int)≠g/\((tAt bxT i).a=(k:Nat)∨(tAt bxT i).b=(k:Nat)∨(tAt bxT i).c=(k:Nat)):=by
    by_cases he:(i1:Int)=g
    ·exact⟨i2,l2,by omega,m2⟩
    ·exact⟨i1,l1,he,m1⟩
   refine⟨fl1 (F i) (tAt boxTris i),qp.2 ⟨i,mem_keepI.2 ⟨hi,hig⟩,rfl⟩,?_⟩
   obtain⟨⟨a0,a1⟩,⟨b0,b1⟩,c0,c1⟩:=Q75 _ (qb (Qi (ts:=boxTris) (i:=i) hi))
   have hcor:v∈(Mesh.mk (Qk ⟨0,0,0⟩ s) (flI F boxTris (Qv g))).cor (tAt boxTris i):=by
    rw[Qkb,Qcl boxTris rfl i hi]at hmi
    simp only[Mesh.cor,hv _ a0 a1,hv _ b0 b1,hv _ c0 c1,List.mem_cons,List.not_mem_nil,or_false,<- hvk]
    simp only[pT]at hmi
    rcases hmi with e | e | e<;>simp[e]
   unfold fl1
   split
   ·exact(Qde _ _ _).2 hcor
   ·exact hcor
 have ht:(flI F boxTris (Qv g)).map (K8 ⟨Qk ⟨0,0,0⟩ s,flI F boxTris (Qv g)⟩ (bxV s))=flI F bxT (Qv g):=by
  rw[<- flI_pT]
  refine ji λt ht=>?_
  obtain⟨⟨a0,a1⟩,⟨b0,b1⟩,c0,c1⟩:=hid t ht
  unfold K8 pT
  rw[hv _ a0 a1,hv _ b0 b1,hv _ c0 c1,Qbx _ a0 a1 s h,Qbx _ b0 b1 s h,Qbx _ c0 c1 s h]
 unfold Q8 Mesh.weldM
 rw[if_pos hz,hW,ht]
 simp[Qk,bxV]
theorem Qfw:∀i<12,∀j<12,i≠j->∀p q:Bool,(fl1 p (tAt bxT i)).twins (fl1 q (tAt bxT j))=false:=by decide
theorem Qka {s:V3} (h:Bx s) (T:List T3):∀i<12,∀p:Bool,(Mesh.mk (bxV s) T).deg (fl1 p (tAt bxT i))=false:=by
 intro i hi p
 obtain⟨h1,h2,h3,h4⟩:=h
 have:i=0∨i=1∨i=2∨i=3∨i=4∨i=5∨i=6∨i=7∨i=8∨i=9∨i=10∨i=11:=by omega
 have hx:∀a b:Int,1<=a->1<=b->a*b≠0:=λa b ha hb=>by have:=Int.mul_pos (show 0<a by omega) (show 0<b by omega);omega
 have k1:=hx s.x s.y h1 h2
 have k2:=hx s.y s.x h2 h1
 have k3:=hx s.x s.z h1 h3
 have k4:=hx s.z s.x h3 h1
 have k5:=hx s.y s.z h2 h3
 have k6:=hx s.z s.y h3 h2
 rcases this with rfl | rfl | rfl | rfl | rfl | rfl | rfl | rfl | rfl | rfl | rfl | rfl<;>cases p <;>
  simp[Mesh.deg,Kk,fl1,T3.rev,tAt,bxT,Mesh.v,bxV,V3.sub,V3.crs]<;>intros<;>omega
theorem Qfx {s:V3} (h:Bx s) (F:Nat->Bool) (g:Int):Qc ⟨bxV s,flI F bxT (Qv g)⟩=(⟨bxV s,flI F bxT (Qv g)⟩,0,0,0):=by
 have hz:=Wn h (U0 F bxT g) (U1 (F:=F) (T:=bxT) rfl Q10 (g:=g))
 have hc:=Q71 (Mesh.mk (bxV s) (flI F bxT (Qv g))).deg (l:=flI F bxT (Qv g)) (λt ht=>by
  obtain⟨i,hi,rfl⟩:=qp.1 ht
  exact Qka h _ i (mem_keepI.1 hi).1 _) (by
  unfold flI
  rw[jd]
  refine List.Pairwise.imp_of_mem ?_ (Qie g)
  intro i j hi hj hij
  exact Qfw j (mem_keepI.1 hj).1 i (mem_keepI.1 hi).1 (by omega) _ _)
 unfold Qc Mesh.cleanM
 rw[if_pos hz,hc];rfl
theorem Qfv {s:V3} (h:Bx s) (F:Nat->Bool) (g:Int):Q8 ⟨bxV s,flI F bxT (Qv g)⟩=(⟨bxV s,flI F bxT (Qv g)⟩,0,0):=by
 have hz0:=Q3b h (U0 F boxTris g) (U1 (F:=F) (T:=boxTris) rfl Q75 (g:=g))
 have hz:=Wn h (U0 F bxT g) (U1 (F:=F) (T:=bxT) rfl Q10 (g:=g))
 have hw:=Q4f hz0
 have h1:=Q9i h F g
 rcases W0 ⟨Qk ⟨0,0,0⟩ s,flI F boxTris (Qv g)⟩ with⟨h2,h3⟩ | ⟨_,h2⟩
 ·exact absurd hz0 h3
 ·rw[h2]at h1
  have h4:(Mesh.mk (Qk ⟨0,0,0⟩ s) (flI F boxTris (Qv g))).weldM=⟨bxV s,flI F bxT (Qv g)⟩:=congrArg Prod.fst h1
  rw[h4]at hw
  exact hw.weld hz
def KS:List (List Nat):=(List.range 13).map λk=>(List.range 12).filter λi=>decide (i≠k)
theorem Qif (g:Int):Qv g∈KS:=by
 by_cases h:0<=g/\g<12
 ·refine qp.2 ⟨g.toNat,qz.2 (by omega),?_⟩
  unfold Qv
  refine List.filter_congr λi _=>?_
  rw[decide_eq_decide];omega
 ·refine qp.2 ⟨12,qz.2 (by omega),?_⟩
  unfold Qv
  refine List.filter_congr λi hi=>?_
  have:=qz.1 hi
  rw[decide_eq_decide];omega
def Q4d (c:Bool) (K:List Nat):List T3:=flI (λ_=>c) bxT K
def adjB (ts:List T3) (i j:Nat):Bool:=decide (i<ts.length) && (decide (j<ts.length) && (Q5 (tAt ts i)).any λa=>(Q5 (tAt ts j)).any λb=>decide (a.und=b.und))
theorem adjB_ok {ts:List T3} {i j:Nat} (h:adjB ts i j=true):adjI ts i j:=by
 simp only[adjB,Bool.and_eq_true,decide_eq_true_eq,List.any_eq_true]at h
 obtain⟨h1,h2,a,ha,b,hb,hab⟩:=h
 exact⟨_,_,Qi h1,Qi h2,a,ha,b,hb,hab⟩
def Q84 (ts:List T3):Nat->List Nat
 | 0=>[0]
 | n+1=>let r:=Q84 ts n;r++(List.range ts.length).filter λi=>decide (i∉r) && r.any λj=>adjB ts j i
theorem Q1y {ts:List T3} (h0:0<ts.length):∀(n:Nat),∀i∈Q84 ts n,Conn ts 0 i
 | 0,i,hi=>by simp[Q84]at hi;subst hi;exact .refl h0
 | n+1,i,hi=>by
   simp only[Q84,qg,qv,Bool.and_eq_true,List.any_eq_true]at hi
   rcases hi with hi | ⟨_,_,j,hj,ha⟩
   ·exact Q1y h0 n i hi
   ·exact .tail (Q1y h0 n j hj) (adjB_ok ha)
def oneB (ts:List T3):Bool:=(List.range ts.length).all λi=>decide (i∈Q84 ts 6)
theorem Conn.symm' {ts:List T3} {i j:Nat} (h:Conn ts i j):Conn ts j i:=by
 have key:∀{a b c:Nat},Conn ts a b->Conn ts c a->Conn ts c b:=λhab=>by
  induction hab with
  | refl _=>exact λh=>h
  | tail _ h2 ih=>exact λh=>.tail (ih h) h2
 induction h with
 | refl h=>exact .refl h
 | tail h1 h2 ih=>exact key ih (.tail (.refl h2.lt.2) h2.symm)
theorem Qcx {ts:List T3} (h0:0<ts.length) (h:oneB ts=true):IsLab ts (List.replicate ts.length 0) where
 len:=by simp
 con i v hv:=by
  rw[je]at hv
  split at hv
  ·rename_i hi
   obtain rfl:=Option.some.inj hv
   refine⟨by omega,by omega,?_⟩
   have:=qj.1 h i (qz.2 hi)
   exact(Q1y h0 6 i (by simpa using this)).symm'
  ·simp at hv
 adj i j ha:=by
  obtain⟨h1,h2⟩:=ha.lt
  rw[je,je,if_pos h1,if_pos h2]
def Q5k (E l:List P2):Bool:=(List.range l.length).all λi=>match l[i]? with
 | some e=>decide (E.count e=1) && (decide (E.count e.rev=0) && !(decide (0<i) && decide (((l[i-1]?).getD ⟨0,0⟩).x=e.x)))
 | none=>true
theorem Qaa {m:Mesh} (hz:m.check=0) (l:List P2):m.simple l=Q5k (Qa m.tris) l:=by
 unfold Mesh.simple Q5k
 congr 1
 funext i
 unfold Kz Mesh.use
 cases l[i]? with
 | none=>rfl
 | some e =>
   simp only[if_pos hz]
   congr 1
   ·rw[decide_eq_decide];omega
   ·congr 1;rw[decide_eq_decide];omega
def bord (T:List T3):List P2:=border (Qa T)
def lops (T:List T3):List (List Int):=Xu (bord T)
def filT (T:List T3):List T3:=T++(lops T).flatMap Jg
def inB (t:T3):Bool:=decide (0<=t.a/\t.a<8/\0<=t.b/\t.b<8/\0<=t.c/\t.c<8)
def Qj0 (c:Bool):List T3:=Q4d c (List.range 12)
def rotB (c:Bool) (t:T3):Bool:=(List.range 12).any λi=>let u:=fl1 c (tAt bxT i);decide (t=u) || (decide (t=u.rot) || decide (t=u.rot.rot))
def goodB (c:Bool) (K:List Nat):Bool :=
 let U:=Q4d c K
 let T:=filT U
 decide (0<U.length) && (oneB U && (Xw U && (Q5k (Qa U) (bord U) && (decide (T.length=12) && (decide (bord T=[]) && (oneB T && (Xw T && (T.all inB && (T.all (rotB c) && (T.map T3.turned).isPerm ((Qj0 c).map T3.turned))))))))))
theorem Qiv:∀c:Bool,∀K∈KS,goodB c K=true:=by decide +kernel
theorem Q18 (vs:List V3) (t:T3):Ei vs t.rot=Ei vs t:=Qk1 _ _ _
theorem Q7p (vs:List V3) (t:T3):Ei vs t.turned=Ei vs t:=by
 unfold T3.turned
 rcases Wy (T3.least t t.rot) t.rot.rot with h | h<;>rw[h]
 ·rcases Wy t t.rot with h | h<;>rw[h]
  exact Q18 _ _
 ·rw[Q18,Q18]
theorem Q02 (vs:List V3) (ts:List T3):Zk vs (ts.map T3.turned)=Zk vs ts:=by
 unfold Zk
 rw[List.map_map]
 congr 1
 exact ji λt _=>Q7p vs t
theorem Qds {vs:List V3} {a b:List T3} (h:a.Perm b):Zk vs a=Zk vs b:=by
 induction h with
 | nil=>rfl
 | cons x _ ih=>rw[Zj,Zj,ih]
 | swap x y l=>rw[Zj,Zj,Zj,Zj];omega
 | trans _ _ h1 h2=>rw[h1,h2]
theorem Q7q (s:V3):Zk (bxV s) bxT=6*s.x*s.y*s.z:=by
 have h:∀i:Nat,vAt (bxV s) (i:Int)=(bxV s).getD i ⟨0,0,0⟩:=λi=>by
  unfold vAt;rw[Int.toNat_natCast,List.getD_eq_getElem?_getD]
 have h0:vAt (bxV s) 0=⟨0,0,0⟩:=h 0
 have h1:vAt (bxV s) 1=⟨0,0,s.z⟩:=h 1
 have h2:vAt (bxV s) 2=⟨0,s.y,0⟩:=h 2
 have h3:vAt (bxV s) 3=⟨0,s.y,s.z⟩:=h 3
 have h4:vAt (bxV s) 4=⟨s.x,0,0⟩:=h 4
 have h5:vAt (bxV s) 5=⟨s.x,0,s.z⟩:=h 5
 have h6:vAt (bxV s) 6=⟨s.x,s.y,0⟩:=h 6
 have h7:vAt (bxV s) 7=⟨s.x,s.y,s.z⟩:=h 7
 simp only[Zk,bxT,List.map_cons,List.map_nil,List.sum_cons,List.sum_nil,Ei,h0,h1,h2,h3,h4,h5,h6,h7,Ee,Qbn,crs]
 grind
theorem Qdt (s:V3) (c:Bool):Zk (bxV s) (Qj0 c)=if c then -(6*s.x*s.y*s.z) else 6*s.x*s.y*s.z:=by
 cases c
 ·exact Q7q s
 ·have:Qj0 true=bxT.map T3.rev:=by decide
  rw[this,Q19,Q7q];rfl
theorem Q7y:Yb (List.replicate 12 0) 12=[[0,1,2,3,4,5,6,7,8,9,10,11]]:=by decide
theorem Qhu {ts:List T3} (h:ts.length=12):Qo ts [0,1,2,3,4,5,6,7,8,9,10,11]=ts:=by
 have:Qo ts [0,1,2,3,4,5,6,7,8,9,10,11]=(List.range 12).map (tAt ts):=rfl
 rw[this]
 apply qy
 intro i
 by_cases hi:i<12
 ·rw[qq,jf hi,Qi (by omega)];rfl
 ·rw[qk (by simp;omega),qk (by omega)]
theorem flp_all {ts:List T3} (h:ts.length=12):flp ts [0,1,2,3,4,5,6,7,8,9,10,11]=ts.map T3.rev:=by
 apply qy
 intro i
 by_cases hi:i<12
 ·rw[Kh (by omega),if_pos (by
   have:i=0∨i=1∨i=2∨i=3∨i=4∨i=5∨i=6∨i=7∨i=8∨i=9∨i=10∨i=11:=by omega
   rcases this with rfl | rfl | rfl | rfl | rfl | rfl | rfl | rfl | rfl | rfl | rfl | rfl<;>simp),qq,Qi (by omega)];rfl
 ·rw[qk (by rw[Zo];omega),qk (by simp;omega)]
theorem bx_degR {s:V3} (h:Bx s) (T:List T3):∀i<12,∀p:Bool,(Mesh.mk (bxV s) T).deg (fl1 p (tAt bxT i)).rot=false/\(Mesh.mk (bxV s) T).deg (fl1 p (tAt bxT i)).rot.rot=false:=by
 intro i hi p
 obtain⟨h1,h2,h3,h4⟩:=h
 have:i=0∨i=1∨i=2∨i=3∨i=4∨i=5∨i=6∨i=7∨i=8∨i=9∨i=10∨i=11:=by omega
 have hx:∀a b:Int,1<=a->1<=b->a*b≠0:=λa b ha hb=>by have:=Int.mul_pos (show 0<a by omega) (show 0<b by omega);omega
 have k1:=hx s.x s.y h1 h2
 have k2:=hx s.y s.x h2 h1
 have k3:=hx s.x s.z h1 h3
 have k4:=hx s.z s.x h3 h1
 have k5:=hx s.y s.z h2 h3
 have k6:=hx s.z s.y h3 h2
 rcases this with rfl | rfl | rfl | rfl | rfl | rfl | rfl | rfl | rfl | rfl | rfl | rfl<;>cases p<;>constructor <;>
  simp[Mesh.deg,Kk,fl1,T3.rev,T3.rot,tAt,bxT,Mesh.v,bxV,V3.sub,V3.crs]<;>intros<;>omega
theorem Qcs (t:T3):t.rot.rev=t.rev.rot.rot/\t.rot.rot.rev=t.rev.rot:=⟨rfl,rfl⟩
theorem Qcr {s:V3} (h:Bx s) (T:List T3) {c:Bool} {t:T3} (ht:rotB c t=true):(Mesh.mk (bxV s) T).deg t=false/\(Mesh.mk (bxV s) T).deg t.rev=false:=by
 simp only[rotB,List.any_eq_true,Bool.or_eq_true,decide_eq_true_eq]at ht
 obtain⟨i,hi,ht⟩:=ht
 have hi:=qz.1 hi
 have a:=λp=>Qka h T i hi p
 have b:=λp=>bx_degR h T i hi p
 have e:∀c:Bool,(fl1 c (tAt bxT i)).rev=fl1 (!c) (tAt bxT i):=λc=>by cases c<;>rfl
 rcases ht with rfl | rfl | rfl
 ·exact⟨a c,by rw[e];exact a _⟩
 ·exact⟨(b c).1,by rw[(Qcs _).1,e];exact(b _).2⟩
 ·exact⟨(b c).2,by rw[(Qcs _).2,e];exact(b _).1⟩
theorem box_rep {s:V3} (h:Bx s) (F:Nat->Bool) (g:Int):∃(A:Mesh) (r:Rep),Jm ⟨Qk ⟨0,0,0⟩ s,flI F boxTris (Qv g)⟩=(A,r,0)/\r.sh=1/\A.vol6=6*s.x*s.y*s.z/\A.tris.length=12/\A.verts.length<=4096:=by
 obtain⟨c,hc⟩:∃c,c=F ((Qv g).headD 0):=⟨_,rfl⟩
 have hg:=Qiv c (Qv g) (Qif g)
 unfold goodB at hg
 simp only[Bool.and_eq_true,decide_eq_true_eq]at hg
 obtain⟨g1,g2,g3,g4,g5,g6,g7,g8,g9,g10,g11⟩:=hg
 have w1:=Q9i h F g
 have w2:=Qfx h F g
 have w3:=Qfv h F g
 have hz1:=Wn h (U0 F bxT g) (U1 (F:=F) (T:=bxT) rfl Q10 (g:=g))
 -- orient
 have hfl:Fl (Q4d c (Qv g)) (flI F bxT (Qv g)):=by
  refine⟨by simp[Q4d,flI],λi t u h1 h2=>?_⟩
  unfold Q4d flI at h1
  unfold flI at h2
  rw[qq]at h1 h2
  cases hk:(Qv g)[i]? with
  | none=>rw[hk]at h1;simp at h1
  | some k =>
    rw[hk]at h1 h2
    obtain rfl:=Option.some.inj h1
    obtain rfl:=Option.some.inj h2
    clear hc
    show fl1 (F k) (tAt bxT k)=fl1 c (tAt bxT k)∨fl1 (F k) (tAt bxT k)=(fl1 c (tAt bxT k)).rev
    generalize F k=q
    show fl1 q (tAt bxT k)=fl1 c (tAt bxT k)∨fl1 q (tAt bxT k)=(fl1 c (tAt bxT k)).rev
    cases c<;>cases q
    ·exact .inl rfl
    ·exact .inr rfl
    ·exact .inr rfl
    ·exact .inl rfl
 have hLU:=Qcx g1 g2
 have hL:=hfl.lab hLU
 have hgood:Good (flI F bxT (Qv g)) (Q4d c (Qv g)) (List.replicate (Q4d c (Qv g)).length 0):=by
  refine⟨hfl.symm,cohB_iff.1 g3,λi hi hLi=>?_⟩
  rw[je]at hLi
  split at hLi
  ·have h0:i=0:=by have:=Option.some.inj hLi;omega
   subst h0
   cases hk:Qv g with
   | nil=>rw[hk]at g1;simp[Q4d,flI]at g1
   | cons k ks =>
     rw[hk]at hc
     simp only[List.headD_cons]at hc
     simp[Q4d,flI,tAt,hc]
  ·simp at hLi
 have w4:=Q5u hz1 (Kd hL hgood)
 simp only at w4
 -- fill
 obtain⟨U,hU⟩:∃U,U=Q4d c (Qv g):=⟨_,rfl⟩
 rw[<- hU]at g1 g2 g3 g4 g5 g6 g7 g8 g9 g10 g11 w4
 have hzU:(Mesh.mk (bxV s) U).check=0:=by
  rw[hU];exact Wn h (U0 _ bxT g) (U1 (T:=bxT) rfl Q10)
 have hbU:(Mesh.mk (bxV s) U).border=bord U:=by unfold Mesh.border;rw[if_pos hzU];rfl
 have hlU:(Mesh.mk (bxV s) U).loops=(lops U,0):=by
  unfold Mesh.loops
  rw[if_pos hzU,hbU,Qaa hzU,if_pos g4];rfl
 have w5:Qy ⟨bxV s,U⟩=(⟨bxV s,filT U⟩,((lops U).length:Int),0):=by
  unfold Qy Mesh.fillM
  rw[hlU]
  simp only
  rw[if_pos (show True from trivial)]<;>first | rfl | skip
  rw[if_pos (by show (filT U).length<=4096;omega)]
  rfl
 obtain⟨T,hT⟩:∃T,T=filT U:=⟨_,rfl⟩
 rw[<- hT]at g5 g6 g7 g8 g9 g10 g11 w5
 have hzT:(Mesh.mk (bxV s) T).check=0:=Wn h (by omega) λt ht=>by
  have:=qj.1 g9 t ht
  simp only[inB,decide_eq_true_eq]at this
  omega
 have hbT:(Mesh.mk (bxV s) T).border=[]:=by unfold Mesh.border;rw[if_pos hzT];exact g6
 have hcl:(Mesh.mk (bxV s) T).closed=true:=by unfold Mesh.closed;rw[hbT,hzT];rfl
 -- outward
 rcases Q21 ⟨bxV s,T⟩ with⟨h1,_⟩ | ⟨w6,hok⟩
 ·exfalso
  apply h1
  unfold Zz
  rw[if_neg (by simpa using hzT),if_neg (by rw[hcl];simp),if_neg (by rw[g8];simp)]
 have hLT:=Qcx (by omega) g7
 rw[g5]at hLT
 have hsh:(Mesh.mk (bxV s) T).shells=[[0,1,2,3,4,5,6,7,8,9,10,11]]:=by
  unfold Mesh.shells
  rw[if_pos hzT,Y9 hLT,List.length_replicate,Q7y]
 have hvol:Zk (bxV s) T=if c then -(6*s.x*s.y*s.z) else 6*s.x*s.y*s.z:=by
  rw[<- Q02,Qds (List.isPerm_iff.1 g11),Q02,Qdt]
 have hpos:0<6*s.x*s.y*s.z:=Int.mul_pos (Int.mul_pos (Int.mul_pos (by omega) (by have:=h.x;omega)) (by have:=h.y;omega)) (by have:=h.z;omega)
 have hng:(Mesh.mk (bxV s) T).negs=if c then [[0,1,2,3,4,5,6,7,8,9,10,11]] else []:=by
  unfold Mesh.negs Zq
  rw[hsh,List.filter_cons,Qhu g5,hvol]
  cases c
  ·rw[if_neg (by simp;omega)];rfl
  ·rw[if_pos (by simp;omega)];rfl
 have how:(Mesh.mk (bxV s) T).outw.tris=if c then T.map T3.rev else T:=by
  unfold Mesh.outw
  rw[hng]
  cases c
  ·exact Q6j T
  ·exact flp_all g5
 have hov:(Mesh.mk (bxV s) T).outw.verts=bxV s:=rfl
 have hofl:Fl T (Mesh.mk (bxV s) T).outw.tris:=Q6k T _
 have hLo:=hofl.lab hLT
 have hsho:(Mesh.mk (bxV s) T).outw.shells=[[0,1,2,3,4,5,6,7,8,9,10,11]]:=by
  unfold Mesh.shells
  rw[if_pos hok.z,Y9 hLo,List.length_replicate,Q7y]
 have hsnd:Snd (Mesh.mk (bxV s) T).outw:=by
  refine⟨hok.z,hok.clo,cohB_iff.1 hok.coh,λt ht=>?_,hok.vol⟩
  rw[how]at ht
  cases c
  ·exact(Qcr h _ (qj.1 g10 t ht)).1
  ·obtain⟨u,hu,rfl⟩:=qp.1 ht
   exact(Qcr h _ (qj.1 g10 u hu)).2
 refine⟨(Mesh.mk (bxV s) T).outw,⟨0+0,0,0,Q0t (flI F bxT (Qv g)) U,(lops U).length,((Mesh.mk (bxV s) T).negs.length:Int),((Mesh.mk (bxV s) T).outw.shells.length:Int)⟩,?_,?_,?_,?_,?_⟩
 ·unfold Jm
  simp only[w1,w2,w3,w4,w5,w6,snd_iff.2 hsnd,ne_eq,not_true_eq_false,if_false]
 ·rw[hsho];rfl
 ·unfold Mesh.vol6
  rw[if_pos hok.z,hov,how]
  cases c
  ·exact hvol
  ·simp only[if_true]at hvol ⊢
   rw[Q19,hvol];omega
 ·rw[hofl.len,g5]
 ·rw[hov];simp[bxV]
def L0k.c (L0n L0j L0l:FuncId):C :=(.seq (.reg [Au 3 (.box (.t 0)),Au 4 (.box (.t 1)),Au 5 (.box (.t 2)),Ac 6 0]) (.seq (.seq (.reg [Ag 7 3 3,Au 8 (.call L0n [.t 7]),Au 9 (.un .not (.t 8)),Am 10 9,Aw 11 10 (.ld (some 3) (.t 4)),Aw 12 10 (.call L0n [.t 11]),Aw 13 10 (.un .not (.t 12)),Ao 14 10 13,Am 15 14,Aw 16 15 (.ld (some 3) (.t 5)),Aw 17 15 (.call L0n [.t 16]),Aw 18 15 (.un .not (.t 17)),Ao 19 15 18]) (.ite (.t 19) (.seq (.reg [Ac 6 0]) .ret) .skip)) (.seq (.drw [Ag 20 3 3,Ag 21 3 4,Ag 22 3 5,Au 23 (.call L0j [.t 21,.t 22]),Au 24 (.call L0l [.t 20,.t 23]),Am 6 24] [[],[],[],[0],[],[]]) .ret)))
def L0k.r:List Rr:=[.tmp 6]
abbrev L0k.n:Nat:=25
def L0n.c (L0o:FuncId):C :=(.seq (.reg [Au 1 (.box (.t 0)),Ab 2 false]) (.seq (.reg [Ag 3 3 1,Au 4 (.call L0o [.t 3,(.c (.i .i64 131072))]),Am 2 4]) .ret))
def L0n.r:List Rr:=[.tmp 2]
abbrev L0n.n:Nat:=5
def L0l.c (L0n L0o:FuncId):C :=(.seq (.reg [Au 2 (.box (.t 0)),Au 3 (.box (.t 1)),Ac 4 0]) (.seq (.seq (.reg [Ag 5 3 2,Au 6 (.call L0n [.t 5]),Au 7 (.un .not (.t 6)),Am 8 7,Aw 9 8 (.ld (some 3) (.t 3)),Aw 10 8 (.call L0o [.t 9,(.c (.i .i64 1099511627776))]),Aw 11 8 (.un .not (.t 10)),Ao 12 8 11]) (.ite (.t 12) (.seq (.reg [Ac 4 0]) .ret) .skip)) (.seq (.reg [Af 13 0 2,Al 14 13,Af 15 0 3,Al 16 15,Aj .mul 17 14 16,Af 18 1 2,Al 19 18,Af 20 1 3,Al 21 20,Aj .mul 22 19 21,Aj .add 23 17 22,Af 24 2 2,Al 25 24,Af 26 2 3,Al 27 26,Aj .mul 28 25 27,Aj .add 29 23 28,Am 4 29]) .ret)))
def L0l.r:List Rr:=[.tmp 4]
abbrev L0l.n:Nat:=30
def L0j.c (L0n:FuncId):C :=(.seq (.reg [Au 2 (.box (.t 0)),Au 3 (.box (.t 1)),Au 4 (.alloc [(.i .i64 0),(.i .i64 0),(.i .i64 0)])]) (.seq (.seq (.reg [Ag 5 3 2,Au 6 (.call L0n [.t 5]),Au 7 (.un .not (.t 6)),Am 8 7,Aw 9 8 (.ld (some 3) (.t 3)),Aw 10 8 (.call L0n [.t 9]),Aw 11 8 (.un .not (.t 10)),Ao 12 8 11]) (.ite (.t 12) (.seq (.reg [Au 13 (.build [(.i .i64 0),(.i .i64 0),(.i .i64 0)] []),As 3 4 13]) .ret) .skip)) (.seq (.reg [Af 14 1 2,Al 15 14,Af 16 2 3,Al 17 16,Aj .mul 18 15 17,Af 19 2 2,Al 20 19,Af 21 1 3,Al 22 21,Aj .mul 23 20 22,Aj .sub 24 18 23,Af 25 2 2,Al 26 25,Af 27 0 3,Al 28 27,Aj .mul 29 26 28,
 Af 30 0 2,Al 31 30,Af 32 2 3,Al 33 32,Aj .mul 34 31 33,Aj .sub 35 29 34,Af 36 0 2,Al 37 36,Af 38 1 3,Al 39 38,Aj .mul 40 37 39,Af 41 1 2,Al 42 41,Af 43 0 3,Al 44 43,Aj .mul 45 42 44,Aj .sub 46 40 45,Au 47 (.build [(.i .i64 0),(.i .i64 0),(.i .i64 0)] [(0,1,(.t 24)),(1,1,(.t 35)),(2,1,(.t 46))]),As 3 4 47]) .ret)))
def L0j.r:List Rr:=[.cell 4 (some 3)]
abbrev L0j.n:Nat:=48
section
variable {P:Program} (hm:P.follows .mixedOrders=true)
include hm
theorem Q1u {f fw:FuncId} (hf:Qb P f (L0n.c fw) L0n.r L0n.n) (hw:X7 P fw):Xl P f:=Ek hm hf hw
theorem Q1w {f fs:FuncId} (hf:Qb P f (L0j.c fs) L0j.r L0j.n) (hs:Xl P fs):Q11 P f:=El hm hf hs
theorem Q5p {f fs fw:FuncId} (hf:Qb P f (L0l.c fs fw) L0l.r L0l.n) (hs:Xl P fs) (hw:X7 P fw):Qdo P f:=Q1a hm hf hs hw
theorem Q5q {f fs fc fd:FuncId} (hf:Qb P f (L0k.c fs fc fd) L0k.r L0k.n) (hs:Xl P fs) (hc:Q11 P fc) (hd:Qdo P fd):Qgl P f:=by
 intro x y z hx hy hz
 refine PureC.is (Q9 hm hf (qh rfl) ?_) rfl
 unfold L0k.c
 have h0:=hs x
 have h1:=hs y
 have h2:=hs z
 rw[Zw hx]at h0
 rw[Zw hy]at h1
 rw[Zw hz]at h2
 simp[go_sem,V3.enc,V3.cs]at h0 h1 h2 ⊢
 refine Q6 h0 ?_
 simp[go_sem]
 refine Q6 h1 ?_
 simp[go_sem]
 refine Q6 h2 ?_
 simp[go_sem]
 refine Qp (hc y z hy hz) ?_
 simp[go_sem]
 refine Qp (hd x (crs y z) hx (Q37 hy hz)) ?_
 simp[go_sem,L0k.r,Ee]
theorem B7 {f fc fd:FuncId} (hf:Qb P f (L0q.c fc fd) L0q.r L0q.n) (hc:Y3 P fc) (hd:Qgl P fd):Qc0 P f:=Ku hm hf hc hd
end
end Go.Abs
