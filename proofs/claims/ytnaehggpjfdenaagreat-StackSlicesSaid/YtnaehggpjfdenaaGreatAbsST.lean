/- The library's sort of an own array, by the kit's contract. -/
import Derived.Test.YtnaehggpjfdenaaGreatAbsCP
import Derived.Shelf.SlSortCmp.WholeK
import Derived.Shelf.SlSortCmp.NoneTotal
set_option linter.unusedVariables false
set_option linter.unusedSimpArgs false
namespace Go.Abs
open Go.RowKit Go.Sort Go.Proofs Go.Shelf
theorem ev_grow {n:Nat} {J J':Nat->Prop} {m':List Ent} {w w':World} (h:Ev n J [] w J' m' w'):∃q os,w'=grow (w.drewN q) os:=by
 refine⟨w'.drawn-w.drawn,w'.heap.extract w.heap.size w'.heap.size,?_⟩;have h1:=h.os;have h2:=h.tape;have h3:=h.output;have h4:=h.drawn;have h5:=h.size;have h6:∀k,k<w.heap.size->w'.heap[k]?=w.heap[k]?:=λk hk=>h.keep k hk (λid e he=>by simp at he)
 unfold grow World.drewN;have e1:w'.heap=w.heap++w'.heap.extract w.heap.size w'.heap.size:=by
  apply Array.ext_getElem?;intro k;by_cases hk:k<w.heap.size
  ·rw[jw hk,h6 k hk]
  ·rw[Array.getElem?_append_right (by omega),Array.getElem?_extract];split
   ·congr 1;omega
   ·rw[Array.getElem?_eq_none (by omega)]
 have e2:w.drawn+(w'.drawn-w.drawn)=w'.drawn:=by omega
 simp only[e2,<- e1,<- h1,<- h2,<- h3]
def SortCK (P:Program) (f:FuncId) (k:Nat):Prop :=
 ∀{α:Type} [Inhabited α] (en:α->List Int),(∀x,(en x).length=k)->∀(cf:α->α->Int),SWO (ltOf cf)->∀g:FuncId,Qx P g=true ->
  (∀x y,CallIs P g [.a ((en x).map (.i .i64)),.a ((en y).map (.i .i64))] (.i .i64 (cf x y)))->∀xs:List α,xs.length<4611686018427387904 ->
  ∃ys:List α,ys.Perm xs/\ys.Pairwise (λx y=>ltOf cf y x=false) /\
   ∀(h:List O) (id gen:Nat),h[id]?=some (.arr gen k (xs.map λx=>(en x).map (.i .i64))) ->
    ACall P f [.own id gen 0 xs.length,.f g []] h (λr h'=>r=.t []/\h'=h.set id (.arr gen k (ys.map λx=>(en x).map (.i .i64))))
theorem Qz2 {P:Program} {k:Nat} {α:Type} [Inhabited α] {en:α->List Int} {cf:α->α->Int} {g:FuncId}
  (hcmp:∀x y,CallIs P g [.a ((en x).map (.i .i64)),.a ((en y).map (.i .i64))] (.i .i64 (cf x y))) (blk off size:Nat) (w:World):CmpLays P g #[] (λx=>(en x).map (Value.int .i64)) k cf blk off size w:=by
 intro m os dk _ x y;have hpw:∀(W:World) (l:List Int),Pw (RC (λ_=>False) [] W) (l.map (V.i .i64)) (l.map (Value.int .i64)):=by
  intro W l
  induction l with
  | nil=>exact Pw.nil
  | cons a l ih=>exact Pw.cons (Qv (.i .i64 a)) ih
 have hag:∀(W:World) (l:List Int),RV (λ_=>False) [] W (.a (l.map (V.i .i64))) (.agg (l.map (Value.int .i64)).toArray):=λW l=>⟨_,rfl,hpw W l⟩
 have h:=hcmp x y [] (λ_=>False) [] (sortWorldK (λx=>(en x).map (Value.int .i64)) k w blk off m dk os) [.agg ((en x).map (Value.int .i64)).toArray,.agg ((en y).map (Value.int .i64)).toArray]
  ⟨rfl,λ_ h=>h.elim,λid e B h=>by simp at h,λid id' e e' B h=>by simp at h,λid e o h=>by simp at h⟩ (Pw.cons (hag _ _) (Pw.cons (hag _ _) Pw.nil))
 refine h.mono ?_;rintro e w' ⟨v,r,h',J',m',rfl,⟨rfl,rfl⟩,hv,_,hev,_⟩;refine⟨?_,ev_grow (hev 0)⟩;rw[Ze hv]
theorem Quz {P:Program} {ρ:Ren} (L:SlLaysF0.n6 P ρ) {k:Nat} (aE:∀w,(isAgg (ρ.t 24)).run P w=.ok true w) (zE:∀w,(Go.sizeOf (ρ.t 24)).run P w=.ok k w):SortCK P (ρ.f 6) k:=by
 intro α _ en hk cf hO g hg hcmp xs hlen;have hsrt:=pdq_sorts (ltOf cf) hO xs.toArray 0 xs.length (Lib.bitLen xs.length) true true (Nat.zero_le _) (by simp) (Or.inl rfl);have eg:∀args w,(callFunc g args).run P w=.ok (.enter g args) w:=λargs w=>Q1l hg args w
 have hmain:=λ(B o c:Nat) (w:World) (hH:HoldsK (λx=>(en x).map (Value.int .i64)) k w B o xs.toArray) (hblk:B<w.heap.size) =>
  AnyQ.slices_SortFunc_eq L k aE zE (λx=>(en x).map (Value.int .i64)) (by simpa using hk) (by intro x v hv;simp at hv;obtain⟨a,_,rfl⟩:=hv;rfl) cf hO g #[] B o c xs.toArray w eg (Qz2 hcmp B o xs.toArray.size w) hH hblk (by simpa using hlen)
 simp only[List.size_toArray]at hmain;generalize pdq (ltOf cf) xs.toArray 0 xs.length (Lib.bitLen xs.length) true true=d' at hsrt hmain;obtain⟨⟨s1,_,s2⟩,s3⟩:=hsrt;simp only[List.size_toArray]at s1;refine⟨d'.toList,?_,?_,?_⟩
 ·rw[Array.extract_eq_self_of_le (by omega),Array.extract_eq_self_of_le (by simp)]at s2
  simpa using s2
 ·rw[j8];intro i j hi hj hij;simp at hi hj;have:=s3 i j (Nat.zero_le _) hij (by omega);rw[getElem!_pos _ j (by omega),getElem!_pos _ i (by omega)]at this
  simpa using this
 intro h id gen ho J m w cargs hr hp;obtain⟨s,fv,rfl⟩:∃s fv,cargs=[s,fv]:=by
  have:=hp.1
  match cargs,this with
  | [s,fv],_=>exact⟨s,fv,rfl⟩
 have h1:RV J m w (.own id gen 0 xs.length) s:=hp.head;have h2:RV J m w (.f g []) fv:=hp.tail.head;obtain⟨cs,rfl,hcs⟩:=h2;have hcs0:cs=#[]:=by
  have:=hcs.1;apply Array.eq_empty_of_size_eq_zero;simpa using this.symm
 subst hcs0;obtain⟨_,e,he,_,hsl⟩:=h1;have hobj:=hr.obj id e _ he ho;simp only[RO]at hobj;obtain⟨q1,q2,q3,q4⟩:=hobj;have hsl:=hsl q1.symm;have hset:m.set id e=m:=Zb he
 have hnone:∀p cap,s=.slice p 0 cap->xs.length=0->Calls P (ρ.f 6) [s,Value.func (.func g) #[] #[]].toArray w λe w'=>∃v r h' J' m',e=.returned v/\(r=.t []/\h'=h.set id (.arr gen k (d'.toList.map λx=>(en x).map (.i .i64))))/\RV J' m' w' r v/\RS J' h' m' w'/\(∀n,Ev n J m w J' m' w')/\Ml m m':=by
  rintro p cap rfl hx;have hd:d'.toList=[]:=by
   apply ql;rw[Array.length_toList];omega
  have hx':xs=[]:=ql hx;have hh:h.set id (.arr gen k (d'.toList.map λx=>(en x).map (.i .i64)))=h:=by
   rw[hd];rw[hx']at ho;exact Zb ho
  refine (AnyF.slices_SortFunc_none L p cap (.func (.func g) #[] #[]) w).mono ?_;rintro e' w' ⟨rfl,rfl⟩;exact⟨_,.t [],_,J,m,rfl,⟨rfl,rfl⟩,⟨#[],rfl,Pw.nil⟩,by rw[hh];exact hr,λn=>Ev.refl n J m _,Ml.refl m⟩
 unfold Ent.sl at hsl;cases hb:e.blk with
 | none =>
   rw[hb]at hsl
   obtain⟨_,hl0,hs⟩:=hsl;rw[hl0]at hnone
   rcases hs with rfl | ⟨a,rfl⟩
   ·exact hnone none 0 rfl rfl
   ·exact hnone (some a) 0 rfl rfl
 | some B =>
   rw[hb]at hsl q4
   obtain⟨o,c,rfl,⟨hc1,hc2⟩,hoo⟩:=hsl;by_cases hx:xs.length=0
   ·exact hnone (some ⟨B,o,none⟩) c (by rw[hx]) hx
   obtain⟨r1,r2,cc,ty,fz,r3,r4,r5,r6⟩:=q4;have hwB:B<w.heap.size:=(je.1 r3).1;have ho':o=e.base*k:=by have:=hoo (by omega);simpa[q2]using this
   have hcell:∀i j,(hi:i<xs.length)->(hj:j<k)->cc[(e.base+i)*k+j]?=some (Value.int .i64 ((en xs[i])[j]'(by rw[hk];exact hj))):=by
    intro i j hi hj;have hl:=hk xs[i];obtain⟨cv,t1,t2⟩:=r6 i ((en xs[i]).map (.i .i64)) j (.i .i64 ((en xs[i])[j]'(by omega))) (by simp[hi]) (by simp[hl,hj]);rw[t1,Ze (Qh t2)]
   have hH:HoldsK (λx=>(en x).map (Value.int .i64)) k w B o xs.toArray:=by
    intro t ht;have ht':t<xs.length*k:=by simpa using ht
    have k0:0<k:=Nat.pos_of_ne_zero (λh0=>by subst h0;simp at ht');have hi:t / k<xs.length:=Nat.div_lt_of_lt_mul (by rw[Nat.mul_comm];exact ht');have hj:t % k<k:=Nat.mod_lt _ k0;have hpos:o+t=(e.base+t / k)*k+t % k:=by
     rw[ho',Nat.add_mul];have:=Nat.div_add_mod t k;rw[Nat.mul_comm]at this
     omega
    have hc:=hcell _ _ hi hj;rw[get_flatK _ _ _ _ (by simpa using ht')];refine⟨?_,?_⟩
    ·unfold World.cell?;simp only[r3,hpos,hc,Option.isSome_none,Bool.false_eq_true,if_false];have e1:xs.toArray[t / k]! = xs[t / k]:=by rw[getElem!_pos _ _ (by simpa using hi)];simp
     rw[e1];simp only[_root_.id];rw[getElem!_pos _ _ (by simp[hk,hj])];simp
    ·unfold World.frozen?;simp only[r3];have hlt:=(je.1 hc).1;have:=r5 (o+t) (by rw[hpos];exact hlt);cases fz;simpa using this
   refine (hmain B o c w hH hwB).mono ?_;rintro e' w' ⟨rfl,n,os,hw⟩;have hF:=holdsK_sortWorldK_c (λx=>(en x).map (Value.int .i64)) k w B o xs.toArray d' n os hH hwB (by simpa using s1);rw[<- hw]at hF
   have hheap:w'.heap=(w.heap.modify B (onCells (putCells _root_.id o (Go.Sort.flatK (λx=>(en x).map (Value.int .i64)) k d'))))++os:=by rw[hw];rfl
   have hsz:w'.heap.size=w.heap.size+os.size:=by rw[hheap];simp
   have hBn:w'.heap[B]?=some (.cells (putCells _root_.id o (Go.Sort.flatK (λx=>(en x).map (Value.int .i64)) k d') cc) ty fz):=by
    rw[hheap,jw (by simpa using hwB),Array.getElem?_modify,if_pos rfl,r3];rfl
   have hoth:∀q,q<w.heap.size->e.blk≠some q->w'.heap[q]?=w.heap[q]?:=by
    intro q hq hne;have:B≠q:=λhh=>hne (by rw[hb,hh])
    rw[hheap,jw (by simpa using hq),Array.getElem?_modify,if_neg this]
   have hos:w'.os=w.os:=by rw[hw];rfl
   have htp:w'.tape=w.tape:=by rw[hw];rfl
   have hou:w'.output=w.output:=by rw[hw];rfl
   have hdr:w.drawn<=w'.drawn:=by rw[hw];exact Nat.le_add_right _ _
   refine⟨_,.t [],_,J,m,rfl,⟨rfl,rfl⟩,⟨#[],rfl,Pw.nil⟩,?_,?_,Ml.refl m⟩
   ·have:=RS.upd hr e (.arr gen k (d'.toList.map λx=>(en x).map (.i .i64))) he (Nat.le_refl _) (λ_=>rfl) (λB' hB'=>⟨.inl hB',by have:=(hr.dis id e B' he hB').2;omega⟩) hoth (by omega) ?_
    ·rw[hset]at this;exact this
    ·rw[hset];simp only[RO];refine⟨q1,q2,?_,?_⟩
     ·intro i el hi;simp at hi;obtain⟨a,_,rfl⟩:=hi;simp[hk]
     ·rw[hb];refine⟨?_,r2,_,ty,fz,hBn,by simp[putCells,r4],by simpa[putCells]using r5,?_⟩
      ·simp at r1 ⊢;omega
      ·intro i el j x hi hj;simp only[qp,qa]at hi;obtain⟨a,ha,rfl⟩:=hi;simp only[qp,qa]at hj;obtain⟨z,hz,rfl⟩:=hj;obtain⟨hil,rfl⟩:=q8.1 ha;obtain⟨hjl,rfl⟩:=q8.1 hz;have hil':i<d'.size:=by simpa using hil
       have hjk:j<k:=by rw[hk]at hjl;exact hjl
       have hcl:=(HoldsK.cell hF hil' hjk).1;unfold World.cell? at hcl;simp only[hBn,Option.isSome_none,Bool.false_eq_true,if_false]at hcl;refine⟨_,?_,Qv (.i .i64 _)⟩;rw[Nat.add_mul,<- ho',hcl];rw[getElem!_pos _ i hil',getElem!_pos _ j (by simpa using hjl)];simp
   ·intro n';have:=Ev.upd (n:=n') (J:=J) e he (Nat.le_refl _) (λ_=>rfl) (λB' hB'=>.inl hB') hoth (by omega) hos htp hou hdr;rw[hset]at this;exact this
theorem Q1h {P:Program} {ρ:Ren} (L:SlLaysF0.n6 P ρ) {k:Nat} (aE:∀w,(isAgg (ρ.t 24)).run P w=.ok true w) (zE:∀w,(Go.sizeOf (ρ.t 24)).run P w=.ok k w):Ic P (ρ.f 6) k:=by
 intro α _ en hk cf hO g hg hcmp xs hlen;exact Quz L aE zE en hk cf hO g hg hcmp xs hlen
end Go.Abs
