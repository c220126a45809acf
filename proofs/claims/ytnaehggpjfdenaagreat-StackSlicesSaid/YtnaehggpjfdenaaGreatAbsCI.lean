/- The library's slices.Compact on an own array of numbers, by the kit's contract. -/
import Derived.Test.YtnaehggpjfdenaaGreatAbsST
import Derived.Test.YtnaehggpjfdenaaGreatAbsCP
import Derived.Test.YtnaehggpjfdenaaGreatGoUnI
import Derived.Shelf.SlicesG.CompactI
set_option linter.unusedVariables false
set_option linter.unusedSimpArgs false
namespace Go.Abs
open Go.RowKit Go.Sort Go.Proofs Go.Shelf
set_option maxHeartbeats 1000000 in
theorem Qz1 {P:Program} {ρ:Ren} (L:SlLaysN.n43 P ρ):Qod P (ρ.f 43):=by
 intro xs hlen hsrt;obtain⟨kc1,kc2,kc3⟩:=Qkm hsrt;obtain⟨zs,hzs⟩:∃zs,zs=Lib.compact xs++List.replicate (xs.length-(Lib.compact xs).length) 0:=⟨_,rfl⟩
 have hsl0:zs.length=xs.length:=by rw[hzs];simp;omega
 refine⟨Lib.compact xs,zs,kc1,kc2,kc3,hsl0,by rw[hzs];simp,λh id gen ho J m w cargs hr hp=>?_⟩;obtain⟨s,rfl⟩:∃s,cargs=[s]:=by
  have:=hp.1
  match cargs,this with
  | [s],_=>exact⟨s,rfl⟩
 have h1:RV J m w (.own id gen 0 xs.length) s:=hp.head;have h1k:=h1;obtain⟨hone,e,he,hge,hsl⟩:=h1;have hobj:=hr.obj id e _ he ho;simp only[RO]at hobj;obtain⟨q1,q2,q3,q4⟩:=hobj;have hsl:=hsl q1.symm;have hslk:=hsl;have hset:m.set id e=m:=Zb he
 have hnone:∀p cap,s=.slice p 0 cap->xs.length=0->Calls P (ρ.f 43) [s].toArray w λe w'=>∃v r h' J' m',e=.returned v/\(r=.own id gen 0 (Lib.compact xs).length/\h'=h.set id (.arr gen 1 (zs.map λx=>[.i .i64 x])))/\RV J' m' w' r v/\RS J' h' m' w'/\(∀n,Ev n J m w J' m' w')/\Ml m m':=by
  rintro p cap rfl hx;have hx':xs=[]:=ql hx;have hd:zs=[]:=ql (by rw[hsl0];exact hx);have hcl:(Lib.compact xs).length=0:=by omega
  have hh:h.set id (.arr gen 1 (zs.map λx=>[.i .i64 x]))=h:=by
   rw[hd];rw[hx']at ho;exact Zb ho
  refine (AnyG.slices_Compact_int_empty L p cap w).mono ?_;rintro e' w' ⟨rfl,rfl⟩;exact⟨_,.own id gen 0 (Lib.compact xs).length,_,J,m,rfl,⟨rfl,rfl⟩,by rw[hcl];rw[hx]at h1k;exact h1k,by rw[hh];exact hr,λn=>Ev.refl n J m _,Ml.refl m⟩
 unfold Ent.sl at hsl;cases hb:e.blk with
 | none =>
   rw[hb]at hsl
   obtain⟨_,hl0,hs⟩:=hsl;rw[hl0]at hnone
   rcases hs with rfl | ⟨a,rfl⟩
   ·exact hnone none 0 rfl rfl
   ·exact hnone (some a) 0 rfl rfl
 | some B =>
   rw[hb]at hsl q4
   obtain⟨o,c,rfl,⟨hc1,hc2⟩,hoo⟩:=hsl;by_cases hx:xs.length=0
   ·exact hnone (some ⟨B,o,none⟩) c (by rw[hx]) hx
   obtain⟨r1,r2,cc,ty,fz,r3,r4,r5,r6⟩:=q4;have hwB:B<w.heap.size:=(je.1 r3).1;have ho':o=e.base:=by have:=hoo (by omega);simpa[q2]using this
   have hcell:∀i,(hi:i<xs.length)->cc[e.base+i]?=some (Value.int .i64 xs[i]):=by
    intro i hi;obtain⟨cv,t1,t2⟩:=r6 i [.i .i64 xs[i]] 0 (.i .i64 xs[i]) (by simp[hi]) rfl;rw[Nat.mul_one,Nat.add_zero]at t1
    rw[t1,Ze (Qh t2)]
   have hH:Holds (Value.int .i64) w B o xs.toArray:=by
    intro t ht;have ht':t<xs.length:=by simpa using ht
    have hc:=hcell t ht';refine⟨?_,?_⟩
    ·unfold World.cell?;simp only[r3,ho',hc,Option.isSome_none,Bool.false_eq_true,if_false];rw[getElem!_pos _ _ (by simpa using ht')];simp
    ·unfold World.frozen?;simp only[r3];have hlt:=(je.1 hc).1;have:=r5 (o+t) (by rw[ho'];exact hlt);cases fz;simpa using this
   refine (AnyG.slices_Compact_int L B o c xs w hH (by omega) hc1).mono ?_;rintro e' w' ⟨rfl,n,hw⟩;rw[<- hzs]at hw
   have hH2:Holds (Value.int .i64) (Go.Sort.ahead w n) B o xs.toArray:=hH;have hF:=holds_putRow (Value.int .i64) (Go.Sort.ahead w n) B o xs.toArray zs.toArray hH2 (by simp[hsl0]);have hheap:w'.heap=w.heap.modify B (onCells (putCells (Value.int .i64) o zs.toArray)):=by rw[hw];rfl
   have hsz:w'.heap.size=w.heap.size:=by rw[hheap];simp
   have hBn:w'.heap[B]?=some (.cells (putCells (Value.int .i64) o zs.toArray cc) ty fz):=by
    rw[hheap,Array.getElem?_modify,if_pos rfl,r3];rfl
   have hoth:∀q,q<w.heap.size->e.blk≠some q->w'.heap[q]?=w.heap[q]?:=by
    intro q hq hne;have:B≠q:=λhh=>hne (by rw[hb,hh])
    rw[hheap,Array.getElem?_modify,if_neg this]
   have hos:w'.os=w.os:=by rw[hw];rfl
   have htp:w'.tape=w.tape:=by rw[hw];rfl
   have hou:w'.output=w.output:=by rw[hw];rfl
   have hdr:w.drawn<=w'.drawn:=by rw[hw];exact Nat.le_add_right _ _
   refine⟨_,.own id gen 0 (Lib.compact xs).length,_,J,m,rfl,⟨rfl,rfl⟩,⟨rfl,e,he,hge,λ_=>?_⟩,?_,?_,Ml.refl m⟩
   ·unfold Ent.sl;rw[hb];exact⟨o,c,rfl,⟨by omega,hc2⟩,hoo⟩
   ·have:=RS.upd hr e (.arr gen 1 (zs.map λx=>[.i .i64 x])) he (Nat.le_refl _) (λ_=>rfl) (λB' hB'=>⟨.inl hB',by have:=(hr.dis id e B' he hB').2;omega⟩) hoth (by omega) ?_
    ·rw[hset]at this;exact this
    ·rw[hset];simp only[RO];refine⟨q1,q2,?_,?_⟩
     ·intro i el hi;simp at hi;obtain⟨a,_,rfl⟩:=hi
      rfl
     ·rw[hb];refine⟨?_,r2,_,ty,fz,hBn,by simp[putCells,r4],by simpa[putCells]using r5,?_⟩
      ·simp[hsl0]at r1 ⊢;omega
      ·intro i el j x hi hj;simp only[qp,qa]at hi;obtain⟨a,ha,rfl⟩:=hi;obtain⟨hil,rfl⟩:=q8.1 ha;have hj0:j=0:=by
        have:=(q8.1 hj).1;simp at this;exact this
       subst hj0;simp at hj;subst hj;have hcl:=(hF i (by simpa using hil)).1;unfold World.cell? at hcl;have hBp:(putRow (Value.int .i64) (Go.Sort.ahead w n) B o zs.toArray).heap[B]?=some (.cells (putCells (Value.int .i64) o zs.toArray cc) ty fz):=by
        show (w.heap.modify B (onCells (putCells (Value.int .i64) o zs.toArray)))[B]?=_;rw[Array.getElem?_modify,if_pos rfl,r3];rfl
       simp only[hBp,Option.isSome_none,Bool.false_eq_true,if_false]at hcl;refine⟨_,?_,Qv (.i .i64 _)⟩;rw[Nat.mul_one,Nat.add_zero,<- ho',hcl];rw[getElem!_pos _ i (by simpa using hil)];simp
   ·intro n';have:=Ev.upd (n:=n') (J:=J) e he (Nat.le_refl _) (λ_=>rfl) (λB' hB'=>.inl hB') hoth (by omega) hos htp hou hdr;rw[hset]at this;exact this
end Go.Abs
