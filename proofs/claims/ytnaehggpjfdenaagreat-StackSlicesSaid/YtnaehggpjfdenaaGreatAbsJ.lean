/- Part of the library on which the proof stands: an abstract machine, its values and its soundness against the model; or what functions of the program do to such values. -/
import Derived.Test.YtnaehggpjfdenaaGreatAbsH
set_option linter.unusedVariables false
set_option linter.unusedSimpArgs false
namespace Go.Abs
open Go.RowKit
section
variable {P:Program} {J:Nat->Prop} {m:List Ent} {w:World} {h:List O}
theorem Flat.set {R:V->Value->Prop} {sz:Nat} {els:List (List V)} {vs:List Value} (hf:Flat R sz els vs) {i:Nat} (hi:i<els.length) {ys:List V} {us:List Value} (hp:Pw R ys us) (hy:ys.length=sz) :
  Flat R sz (els.set i ys) (vs.take (i*sz)++us++vs.drop (i*sz+sz)):=by
 have hus:us.length=sz:=by rw[<- hp.1,hy]
 have hin:i*sz+sz<=els.length*sz:=by
  have:=j9 sz (show i+1<=els.length from hi);rw[Nat.add_mul,Nat.one_mul]at this;exact this
 have hvl:=hf.1;have hsp:=λq=>Yj (cs:=vs) (ys:=us) (j:=i*sz) (k:=q) (by rw[hus];omega)
 rw[hus]at hsp
 refine⟨by simp only[j7,qv,List.length_drop,List.length_set,hus,hvl];omega,λk el hk=>?_,λk el j x hk hj=>?_⟩
 ·by_cases hik:i=k
  ·subst hik;rw[qm hi]at hk
   rw[<- Option.some.inj hk];exact hy
  ·rw[qt hik]at hk
   exact hf.2.1 k el hk
 ·rw[hsp];by_cases hik:i=k
  ·subst hik;rw[qm hi]at hk
   obtain rfl:=Option.some.inj hk;obtain⟨cv,h1,h2⟩:=hp.get hj;have hjl:=(q8.1 hj).1;rw[if_neg (by omega),if_pos (by omega)];exact⟨cv,by rw[<- h1];congr 1;omega,h2⟩
  ·rw[qt hik]at hk
   obtain⟨cv,h1,h2⟩:=hf.2.2 k el j x hk hj;have hjl:j<sz:=by rw[<- hf.2.1 k el hk];exact(q8.1 hj).1
   refine⟨cv,?_,h2⟩;split
   ·exact h1
   ·rename_i q1;split
    ·rename_i q2;exfalso;have q3:k*sz+j=i*sz+(k*sz+j-i*sz):=by omega
     have:=Qj8 hjl (show k*sz+j-i*sz<sz by omega) q3;omega
    ·exact h1
theorem Qkk {sz:Nat}:∀(ps:List (Nat × V)) (qs:List (Nat × Value)) (els:List (List V)) (cells:Array Value) (es:List (List V)),
  ps.length=qs.length->(∀(k:Nat) i X i' v,ps[k]?=some (i,X)->qs[k]?=some (i',v)->i=i'/\RV J m w X v)->Flat (RC J m w) sz els cells.toList->Jt sz els ps=some es ->
  ∃cells',Instr.fill (λi=>some (i*sz,sz)) cells qs=some cells'/\Flat (RC J m w) sz es cells'.toList
 | [],[],els,cells,es,_,_,hz,hf=>by
   simp[Jt]at hf;subst hf
   exact⟨cells,rfl,hz⟩
 | [],_::_,_,_,_,hl,_,_,_=>by simp at hl
 | _::_,[],_,_,_,hl,_,_,_=>by simp at hl
 | (i,X)::ps,(i',v)::qs,els,cells,es,hl,hk,hz,hf=>by
   simp only[Jt,ja]at hf;obtain⟨⟨h1,h2,h3⟩,h4⟩:=hf;obtain⟨rfl,h6⟩:=hk 0 i X i' v rfl rfl;have hc:=I9 h6 h3;have hvs:v.cells.size=sz:=by have:=hc.1;simp at this;omega
   have hcl:cells.size=els.length*sz:=by simpa using hz.1
   have hin:i*sz+sz<=els.length*sz:=by
    have:=j9 sz (show i+1<=els.length from h2);rw[Nat.add_mul,Nat.one_mul]at this;exact this
   obtain⟨cells',h7,h8⟩:=Qeh (place:=λi=>some (i*sz,sz)) (i:=i) (cells:=cells) (rest:=qs) rfl hvs (by omega);rw[h8];refine Qkk ps qs (els.set i X.cells) cells' es (by simpa using hl) (λk o' X' i' v' a b=>hk (k+1) o' X' i' v' (by simpa using a) (by simpa using b)) ?_ h4;rw[h7];exact hz.set h2 hc h1
theorem Em {t e:TypeId} {i:TypeInfo} {z:Value} (ht:P.underlying t=some (.slice e)) (hi:P.info? e=some i) (hz:i.zero=some z) {zs:List V} (hzs:∀(J:Nat->Prop) m w,Pw (RC J m w) zs z.cells.toList) (hsz:zs.length=i.size)
  {len:Nat} (hlen:len*i.size<=16777216) {ps:List (Nat × V)} {qs:Array (Nat × Value)} (hl:ps.length=qs.toList.length)
  (hk:∀(k:Nat) i X i' v,ps[k]?=some (i,X)->qs.toList[k]?=some (i',v)->i=i'/\RV J m w X v) {es:List (List V)} (hf:Jt i.size (List.replicate len zs) ps=some es) :
  ∃row,Flat (RC J m w) i.size es row.toList/\(do pure (.value (<- Instr.buildSlice t len qs)):Sem Next).run P w=.ok (.value (.slice (some ⟨w.heap.size,0,none⟩) len len)) (w.alloc (.cells row e)):=by
 obtain⟨row,h1,h2⟩:=Qkk (J:=J) (m:=m) (w:=w) ps qs.toList (List.replicate len zs) (madeCells z.cells (len*i.size)) es hl hk (Flat.replicate (hzs J m w) hsz len) hf;refine⟨row,h2,?_⟩;have hn:¬ (16777216<len*i.size):=by omega
 by_cases h0:len*i.size=0
 ·have hm:madeCells z.cells (len*i.size)=#[]:=by rw[h0];simp[madeCells]
  rw[hm]at h1
  simp[Instr.buildSlice,run_underlying ht,Qr (show (P.info? e).map (·.size)=some i.size by rw[hi];rfl),hn,h0,Array.range_zero',h1,newRow]
 ·simp only[Instr.buildSlice,Sem.run_bind,run_underlying ht,Result.andThen_ok,Qr (show (P.info? e).map (·.size)=some i.size by rw[hi];rfl),gt_iff_lt,hn,if_false,h0,Sem.run_pure,Sem.run_ite];have hm:madeCells z.cells (len*i.size)=(Array.range (len*i.size)).map (λk=>z.cells[k % z.cells.size]!):=rfl;rw[hm]at h1
  simp[h1,newRow,hn,zeroValue,typeInfo,hi,hz]
theorem Q4n {sz:Nat}:∀(ps:List (Nat × V)) (els es:List (List V)),Jt sz els ps=some es->es.length=els.length
 | [],els,es,h=>by simp[Jt]at h;rw[<- h]
 | (i,X)::ps,els,es,h=>by
   simp only[Jt,ja]at h;rw[Q4n ps _ es h.2];simp
theorem Qyq {t e:TypeId} {i:TypeInfo} {z:Value} (ht:P.underlying t=some (.slice e)) (hi:P.info? e=some i) (hz:i.zero=some z) {zs:List V} (hzs:∀(J:Nat->Prop) m w,Pw (RC J m w) zs z.cells.toList) (hsz:zs.length=i.size)
  {len:Nat} (hlen:len*i.size<=16777216) (hlen2:len<=16777216) (hr:RS J h m w) {ps:List (Nat × V)} {qs:Array (Nat × Value)} (hl:ps.length=qs.toList.length)
  (hk:∀(k:Nat) i X i' v,ps[k]?=some (i,X)->qs.toList[k]?=some (i',v)->i=i'/\RV J m w X v) {es:List (List V)} (hf:Jt i.size (List.replicate len zs) ps=some es) :
  Fine J m w (if len=0 then h else h++[.arr 1 i.size es]) (if len=0 then .nil else .own h.length 1 0 len) ((do pure (.value (<- Instr.buildSlice t len qs)):Sem Next).run P w):=by
 obtain⟨row,h1,h2⟩:=Em (J:=J) (m:=m) (w:=w) ht hi hz hzs hsz hlen hl hk hf;rw[h2];have hel:es.length=len:=by rw[Q4n _ _ _ hf];simp
 have hold:∀k,k<w.heap.size->(w.alloc (.cells row e)).heap[k]?=w.heap[k]?:=λk hk=>heap_alloc_old w _ hk
 by_cases h0:len=0
 ·subst h0;simp only[if_true];exact⟨_,_,J,m,.inl rfl,RD.nil1 _,RS.same hr (λ_ h=>h) (λ_ h=>.inl h) (λk hk=>Nat.lt_of_lt_of_le (hr.jlt k hk) (by simp)) hold (by simp),λn=>Ev.same (λ_ h=>h) (λ_ h=>.inl h) hold (by simp) rfl rfl rfl (by simp),Ml.refl m⟩
 ·simp only[h0,if_false];have:=I5 hr (sz:=i.size) (els:=es) (w':=w.alloc (.cells row e)) (c:=row) (ty:=e) (fz:=(0,0)) (cap:=len) h1.2.1
   rfl rfl rfl (by simp) hold (by simp) (heap_alloc_new w _) (by have:=h1.1;rw[hel]at this;simpa using this) (by omega) (by simp only[maxLen];omega) (by intro k _;simp)
   (λa el b x q1 q2=>by
    obtain⟨cv,h3,h4⟩:=h1.2.2 a el b x q1 q2;exact⟨cv,by simpa using h3,h4⟩)
  exact⟨_,_,J,_,.inl rfl,⟨rfl,⟨1,i.size,some w.heap.size,0,len⟩,by rw[<- hr.len];exact Yr _ _,⟨Nat.le_refl _,Nat.le_refl _⟩,λ_=>⟨0,_,rfl,by simp,by simp⟩⟩,this.1,this.2.1,this.2.2⟩
theorem Qyr {t e:TypeId} {i:TypeInfo} {z:Value} (ht:P.underlying t=some (.slice e)) (hi:P.info? e=some i) (hz:i.zero=some z) {zs:List V} (hzs:∀(J:Nat->Prop) m w,Pw (RC J m w) zs z.cells.toList) (hsz:zs.length=i.size)
  {len:Nat} (hlen:len*i.size<=16777216) (hr:RS J h m w) {ps:List (Nat × V)} {qs:Array (Nat × Value)} (hl:ps.length=qs.toList.length)
  (hk:∀(k:Nat) i X i' v,ps[k]?=some (i,X)->qs.toList[k]?=some (i',v)->i=i'/\RV J m w X v) {es:List (List V)} (hf:Jt i.size (List.replicate len zs) ps=some es) (hd:es.all (·.all V.isD)=true) :
  Fine J m w h (.l i.size es) ((do pure (.value (<- Instr.buildSlice t len qs)):Sem Next).run P w):=by
 obtain⟨row,h1,h2⟩:=Em (J:=J) (m:=m) (w:=w) ht hi hz hzs hsz hlen hl hk hf;rw[h2];have hel:es.length=len:=by rw[Q4n _ _ _ hf];simp
 have hold:∀k,k<w.heap.size->(w.alloc (.cells row e)).heap[k]?=w.heap[k]?:=λk hk=>heap_alloc_old w _ hk
 have hJ:∀k,J k->(λk=>J k∨k=w.heap.size) k:=λk hk=>.inl hk
 have hJn:∀k,(λk=>J k∨k=w.heap.size) k->J k∨w.heap.size<=k:=λk hk=>hk.imp id (λh=>by omega)
 refine⟨_,_,λk=>J k∨k=w.heap.size,m,.inl rfl,?_,RS.same hr hJ hJn (λk hk=>hk.elim (λhk=>Nat.lt_of_lt_of_le (hr.jlt k hk) (by simp)) (λhk=>by simp;omega)) hold (by simp),λn=>Ev.same hJ hJn hold (by simp) rfl rfl rfl (by simp),Ml.refl m⟩;have hdd:∀(a:Nat) (el:List V) (b:Nat) (x:V),es[a]?=some el->el[b]?=some x->x.isD=true:=by
  intro a el b x q1 q2;have q3:=qj.1 hd el (qb q1);exact qj.1 q3 x (qb q2)
 have:=RD.l (J:=λk=>J k∨k=w.heap.size) (w:=w.alloc (.cells row e)) i.size es ⟨w.heap.size,0,none⟩ len (λa b=>(row[a*i.size+b]?).getD undef) (.inr rfl) (by omega) h1.2.1
  (λa b ha hb=>by
   have hlt:a*i.size+b<row.size:=by
    have:=h1.1;simp at this;rw[this];have:=j9 i.size (show a+1<=es.length from ha);rw[Nat.add_mul,Nat.one_mul]at this;omega
   rw[Addr.add_lit,Nat.zero_add];have hnew:=heap_alloc_new w (.cells row e);simp only[World.cell?,hnew];simp[hlt])
  (λa el b x q1 q2=>by
   obtain⟨cv,q3,q4⟩:=h1.2.2 a el b x q1 q2;have q5:row[a*i.size+b]?=some cv:=by simpa using q3
   simp only[q5,Option.getD_some];exact(Ie (hdd a el b x q1 q2) q4).mono hJ (λk hk=>hold k (hr.jlt k hk)))
 rw[hel]at this
 exact this
theorem Zd {x:Value} {k:IntKind} {n:Int} (hx:x=.int k n) {y:Nat} (h0:0<=n) (h1:n.toNat<=y) (code:BoundsCode):(Instr.sliceBound x y code).run P w=.ok n.toNat w:=by
 subst hx;have:n<=y:=by omega
 simp[Instr.sliceBound,asIntOf,h0,this]
theorem Qhs {X:Option V} {x:Option Value} {d b:Nat} (hX:X.isSome=x.isSome) (hx:∀V' v,X=some V'->x=some v->RV J m w V' v) (hb:bnd X d=some b) :
  match x with
  | none=>b=d
  | some v=>∃k n,v=.int k n/\0<=n/\b=n.toNat:=by
 cases X with
 | none =>
   cases x with
   | none=>simp[bnd]at hb;exact hb.symm
   | some v=>simp at hX
 | some X =>
   cases x with
   | none=>simp at hX
   | some v =>
     have:=hx X v rfl rfl;cases X<;>simp[bnd]at hb
     obtain⟨h0,rfl⟩:=hb;exact⟨_,_,Ze this,h0,rfl⟩
theorem Z8 {lo hi:Option Value} {LO HI:Option V} {len cap a b:Nat} {isS:Bool} (hlo:LO.isSome=lo.isSome) (hlo2:∀V' v,LO=some V'->lo=some v->RV J m w V' v)
  (hhi:HI.isSome=hi.isSome) (hhi2:∀V' v,HI=some V'->hi=some v->RV J m w V' v) (ha:bnd LO 0=some a) (hb:bnd HI len=some b) (hab:a<=b) (hbc:b<=cap) :
  (Instr.sliceBounds isS len cap lo hi none).run P w=.ok (a,b,cap) w:=by
 have h1:=Qhs hlo hlo2 ha;have h2:=Qhs hhi hhi2 hb;cases lo with
 | none =>
   simp only at h1;subst h1;cases hi with
   | none=>simp only at h2;subst h2;simp[Instr.sliceBounds]
   | some y =>
     simp only at h2;obtain⟨k,n,rfl,q1,rfl⟩:=h2;simp[Instr.sliceBounds,Zd rfl q1 hbc]
 | some x =>
   simp only at h1;obtain⟨k,n,rfl,q1,rfl⟩:=h1;cases hi with
   | none=>simp only at h2;subst h2;simp[Instr.sliceBounds,Zd rfl q1 hab]
   | some y =>
     simp only at h2;obtain⟨k',n',rfl,q2,rfl⟩:=h2;simp[Instr.sliceBounds,Zd rfl q2 hbc,Zd rfl q1 hab]
theorem Z5 {T e:TypeId} {sz:Nat} (hT:P.underlying T=some (.slice e)) (he:(P.info? e).map (·.size)=some sz) {x:Option Addr} {len cap a b:Nat} {lo hi:Option Value}
  (hb:(Instr.sliceBounds true len cap lo hi none).run P w=.ok (a,b,cap) w) :
  (do pure (.value (<- Instr.sliceAt T (.slice x len cap) lo hi none)):Sem Next).run P w=.ok (.value (.slice (if cap=a then x else x.map (·.add (a*sz))) (b-a) (cap-a))) w:=by
 simp[Instr.sliceAt,Instr.slice,run_underlying hT,hb,Qr he]
theorem Qn8 {T e:TypeId} {sz:Nat} (hT:P.underlying T=some (.slice e)) (he:(P.info? e).map (·.size)=some sz) (hr:RS J h m w) {els:List (List V)} {x:Value} (hx:RV J m w (.l sz els) x)
  {lo hi:Option Value} {LO HI:Option V} {a b:Nat} (hlo:LO.isSome=lo.isSome) (hlo2:∀V' v,LO=some V'->lo=some v->RV J m w V' v)
  (hhi:HI.isSome=hi.isSome) (hhi2:∀V' v,HI=some V'->hi=some v->RV J m w V' v) (ha:bnd LO 0=some a) (hb:bnd HI els.length=some b) (hab:a<=b) (hbl:b<=els.length) :
  Fine J m w h (.l sz ((els.take b).drop a)) ((do pure (.value (<- Instr.sliceAt T x lo hi none)):Sem Next).run P w):=by
 have hx':RD J w (.l sz els) x:=hx;cases hx' with
 | l0 =>
   have hb0:b=0:=by simpa using hbl
   have ha0:a=0:=by omega
   subst hb0;subst ha0;simp only[List.length_nil]at hb;rw[Z5 hT he (Z8 hlo hlo2 hhi hhi2 ha hb hab (Nat.zero_le _))];exact Fine.pure hr (by simpa using Qh (m:=m) (Qv (RD.l0 (J:=J) (w:=w) sz)))
 | l1 _ ad cap =>
   have hb0:b=0:=by simpa using hbl
   have ha0:a=0:=by omega
   subst hb0;subst ha0;simp only[List.length_nil]at hb;rw[Z5 hT he (Z8 hlo hlo2 hhi hhi2 ha hb hab (Nat.zero_le _))];refine Fine.pure hr ?_;by_cases hc:cap=0
   ·simp only[hc,if_true];simpa using Qh (m:=m) (Qv (RD.l1 (J:=J) (w:=w) sz ad 0))
   ·simp only[hc,if_false];simpa using Qh (m:=m) (Qv (RD.l1 (J:=J) (w:=w) sz (ad.add 0) cap))
 | l _ _ ad cap cs hj hc hsz hcell hrd =>
   rw[Z5 hT he (Z8 hlo hlo2 hhi hhi2 ha hb hab (by omega))];refine Fine.pure hr ?_;have hlen:((els.take b).drop a).length=b-a:=by simp;omega
   have hget:∀i el,((els.take b).drop a)[i]?=some el->els[a+i]?=some el:=by
    intro i el hi;rw[jh,jf]at hi
    split at hi
    case isFalse=>simp at hi
    exact hi
   by_cases hca:cap=a
   ·have:(els.take b).drop a=[]:=ql (by omega);rw[this,if_pos hca,show b-a=0 by omega];exact RD.l1 sz ad (cap-a)
   ·rw[if_neg hca];have:=RD.l (J:=J) (w:=w) sz ((els.take b).drop a) (ad.add (a*sz)) (cap-a) (λi j=>cs (a+i) j) (by rw[Addr.add_block];exact hj) (by omega) (λi el hi=>hsz _ el (hget i el hi))
     (λi j hi hjj=>by rw[Addr.add_add,<- Nat.add_assoc,<- Nat.add_mul];exact hcell _ _ (by omega) hjj) (λi el j v q1 q2=>hrd _ el j v (hget i el q1) q2)
    rw[hlen]at this
    exact this
theorem Qh7 {T e:TypeId} {sz:Nat} (hT:P.underlying T=some (.slice e)) (he:(P.info? e).map (·.size)=some sz) (hr:RS J h m w) {x:Value} (hx:RV J m w .nil x)
  {lo hi:Option Value} {LO HI:Option V} (hlo:LO.isSome=lo.isSome) (hlo2:∀V' v,LO=some V'->lo=some v->RV J m w V' v)
  (hhi:HI.isSome=hi.isSome) (hhi2:∀V' v,HI=some V'->hi=some v->RV J m w V' v) (ha:bnd LO 0=some 0) (hb:bnd HI 0=some 0) :
  Fine J m w h .nil ((do pure (.value (<- Instr.sliceAt T x lo hi none)):Sem Next).run P w):=by
 have hx':RD J w .nil x:=hx;cases hx' with
 | nil0 =>
   rw[Z5 hT he (Z8 hlo hlo2 hhi hhi2 ha hb (Nat.le_refl _) (Nat.le_refl _))];exact Fine.pure hr RD.nil0
 | nil1 ad =>
   rw[Z5 hT he (Z8 hlo hlo2 hhi hhi2 ha hb (Nat.le_refl _) (Nat.le_refl _))];exact Fine.pure hr (RD.nil1 ad)
theorem Qh6 {T e:TypeId} {sz:Nat} (hT:P.underlying T=some (.slice e)) (he:(P.info? e).map (·.size)=some sz) (hr:RS J h m w) {id g off len:Nat} {x:Value} (hx:RV J m w (.own id g off len) x)
  {els:List (List V)} (ho:h[id]?=some (.arr g sz els)) {lo hi:Option Value} {LO HI:Option V} {a b:Nat} (hlo:LO.isSome=lo.isSome) (hlo2:∀V' v,LO=some V'->lo=some v->RV J m w V' v)
  (hhi:HI.isSome=hi.isSome) (hhi2:∀V' v,HI=some V'->hi=some v->RV J m w V' v) (ha:bnd LO 0=some a) (hb:bnd HI len=some b) (hab:a<=b) (hbl:b<=len) :
  Fine J m w h (.own id g (off+a) (b-a)) ((do pure (.value (<- Instr.sliceAt T x lo hi none)):Sem Next).run P w):=by
 obtain⟨en,hen,hg,hsz,hsl,hobj⟩:=K2 hr hx ho;unfold Ent.sl at hsl;cases hbk:en.blk with
 | none =>
   rw[hbk]at hsl
   obtain⟨q1,q2,q3⟩:=hsl;have hb0:b=0:=by omega
   have ha0:a=0:=by omega
   subst hb0;subst ha0;subst q1;subst q2;rcases q3 with rfl | ⟨ad,rfl⟩
   ·rw[Z5 hT he (Z8 hlo hlo2 hhi hhi2 ha hb (Nat.le_refl _) (Nat.le_refl _))];exact Fine.pure hr ⟨rfl,en,hen,by have:=hx.2;obtain⟨_,_,h3,_⟩:=this;omega,λ_=>by unfold Ent.sl;rw[hbk];exact⟨rfl,rfl,.inl rfl⟩⟩
   ·rw[Z5 hT he (Z8 hlo hlo2 hhi hhi2 ha hb (Nat.le_refl _) (Nat.le_refl _))];exact Fine.pure hr ⟨rfl,en,hen,by have:=hx.2;obtain⟨_,_,h3,_⟩:=this;omega,λ_=>by unfold Ent.sl;rw[hbk];exact⟨rfl,rfl,.inr ⟨ad,rfl⟩⟩⟩
 | some B =>
   rw[hbk]at hsl
   obtain⟨o,cc,rfl,q1,q2⟩:=hsl;rw[Z5 hT he (Z8 hlo hlo2 hhi hhi2 ha hb hab (by omega))];by_cases hc:cc=a
   ·rw[if_pos hc];refine Fine.pure hr ⟨rfl,en,hen,by have:=hx.2;obtain⟨_,_,h3,_⟩:=this;omega,λ_=>?_⟩;unfold Ent.sl;rw[hbk];exact⟨o,cc-a,rfl,by omega,λhlt=>by omega⟩
   ·rw[if_neg hc];refine Fine.pure hr ⟨rfl,en,hen,by have:=hx.2;obtain⟨_,_,h3,_⟩:=this;omega,λ_=>?_⟩;unfold Ent.sl;rw[hbk];refine⟨o+a*sz,cc-a,?_,by omega,λhlt=>?_⟩
    ·simp only[Option.map_some,Addr.add_lit]
    ·rw[q2 (by omega),<- hsz,<- Nat.add_mul,Nat.add_assoc]
theorem Qse {T:TypeId} (hT:P.underlying T=some .string) (hr:RS J h m w) {l:List UInt8} {x:Value} (hx:RV J m w (.s l) x)
  {lo hi:Option Value} {LO HI:Option V} {a b:Nat} (hlo:LO.isSome=lo.isSome) (hlo2:∀V' v,LO=some V'->lo=some v->RV J m w V' v)
  (hhi:HI.isSome=hi.isSome) (hhi2:∀V' v,HI=some V'->hi=some v->RV J m w V' v) (ha:bnd LO 0=some a) (hb:bnd HI l.length=some b) (hab:a<=b) (hbl:b<=l.length) :
  Fine J m w h (.s ((l.take b).drop a)) ((do pure (.value (<- Instr.sliceAt T x lo hi none)):Sem Next).run P w):=by
 have:=Xo hx;subst this;have hb':=Z8 (P:=P) (w:=w) (isS:=false) (cap:=l.length) hlo hlo2 hhi hhi2 ha hb hab hbl;have hex:(ByteArray.mk l.toArray).extract a b=⟨((l.take b).drop a).toArray⟩:=by
  apply ByteArray.ext;apply Array.ext';simp[ByteArray.data_extract,List.extract_eq_take_drop,List.drop_take]
 have hrun:(do pure (.value (<- Instr.sliceAt T (.string ⟨l.toArray⟩) lo hi none)):Sem Next).run P w=.ok (.value (.string ⟨((l.take b).drop a).toArray⟩)) w:=by
  simp[Instr.sliceAt,Instr.slice,run_underlying hT,Q1i,hb',hex]
 rw[hrun];exact Fine.pure hr (rv_s _)
end
end Go.Abs
namespace Go.Abs
open Go.RowKit
section
variable {P:Program} {J:Nat->Prop} {m:List Ent} {w:World} {h:List O}
theorem Qyh {t e:TypeId} {i:TypeInfo} {z:Value} (ht:P.underlying t=some (.slice e)) (hi:P.info? e=some i) (hz:i.zero=some z) {zs:List V} (hzs:∀(J:Nat->Prop) m w,Pw (RC J m w) zs z.cells.toList) (hsz:zs.length=i.size)
  (hr:RS J h m w) {k:Int} {x:Value} (hx:RV J m w (.i .i64 k) x) (h0:0<=k) (hb:k*i.bytes<=140737488355328) (h63:k<=9223372036854775807) (hd:zs.all V.isD=true) :
  Fine J m w h (.l i.size (List.replicate k.toNat zs)) ((do pure (.value (<- Instr.makeSlice t x x)):Sem Next).run P w):=by
 have:=Ze hx;subst this;have hrun:=run_make (P:=P) w t e i z ht hi hz .i64 .i64 k k h0 (Int.le_refl _) (by rw[Int.mul_comm];omega) h63;have hrun':(do pure (.value (<- Instr.makeSlice t (.int .i64 k) (.int .i64 k))):Sem Next).run P w=.ok (.value (.slice (some ⟨w.heap.size,0,none⟩) k.toNat k.toNat)) (w.alloc (.cells (madeCells z.cells (k.toNat*i.size)) e)):=by
  simp only[Sem.run_bind,hrun,Result.andThen_ok,Sem.run_pure]
 rw[hrun'];have h1:=Flat.replicate (hzs J m w) hsz k.toNat;generalize hrow:madeCells z.cells (k.toNat*i.size)=row at *
 have hel:(List.replicate k.toNat zs).length=k.toNat:=by simp
 have hold:∀k,k<w.heap.size->(w.alloc (.cells row e)).heap[k]?=w.heap[k]?:=λk hk=>heap_alloc_old w _ hk
 have hJ:∀k,J k->(λk=>J k∨k=w.heap.size) k:=λk hk=>.inl hk
 have hJn:∀k,(λk=>J k∨k=w.heap.size) k->J k∨w.heap.size<=k:=λk hk=>hk.imp id (λh=>by omega)
 refine⟨_,_,λk=>J k∨k=w.heap.size,m,.inl rfl,?_,RS.same hr hJ hJn (λk hk=>hk.elim (λhk=>Nat.lt_of_lt_of_le (hr.jlt k hk) (by simp)) (λhk=>by simp;omega)) hold (by simp),λn=>Ev.same hJ hJn hold (by simp) rfl rfl rfl (by simp),Ml.refl m⟩;have hdd:∀(a:Nat) (el:List V) (b:Nat) (x:V),(List.replicate k.toNat zs)[a]?=some el->el[b]?=some x->x.isD=true:=by
  intro a el b x q1 q2;rw[jk]at q1
  split at q1
  case isFalse=>simp at q1
  obtain rfl:=Option.some.inj q1;exact qj.1 hd x (qb q2)
 have:=RD.l (J:=λk=>J k∨k=w.heap.size) (w:=w.alloc (.cells row e)) i.size (List.replicate k.toNat zs) ⟨w.heap.size,0,none⟩ k.toNat (λa b=>(row[a*i.size+b]?).getD undef) (.inr rfl) (by simp) h1.2.1
  (λa b ha hb=>by
   have hlt:a*i.size+b<row.size:=by
    have:=h1.1;rw[hel]at this ha
    simp at this;rw[this];have:=j9 i.size (show a+1<=k.toNat from ha);rw[Nat.add_mul,Nat.one_mul]at this;omega
   rw[Addr.add_lit,Nat.zero_add];have hnew:=heap_alloc_new w (.cells row e);simp only[World.cell?,hnew];simp[hlt])
  (λa el b x q1 q2=>by
   obtain⟨cv,q3,q4⟩:=h1.2.2 a el b x q1 q2;have q5:row[a*i.size+b]?=some cv:=by simpa using q3
   simp only[q5,Option.getD_some];exact(Ie (hdd a el b x q1 q2) q4).mono hJ (λk hk=>hold k (hr.jlt k hk)))
 rw[hel]at this
 exact this
theorem Flat.take {R:V->Value->Prop} {sz:Nat} {els:List (List V)} {vs:List Value} (hf:Flat R sz els vs) (n:Nat):Flat R sz (els.take n) (vs.take (n*sz)):=by
 refine⟨?_,λi el hi=>?_,λi el j x hi hj=>?_⟩
 ·simp only[qv,hf.1];rcases Nat.le_total n els.length with hle | hle
  ·rw[Nat.min_eq_left hle,Nat.min_eq_left (j9 _ hle)]
  ·rw[Nat.min_eq_right hle,Nat.min_eq_right (j9 _ hle)]
 ·rw[jf]at hi
  split at hi
  case isFalse=>simp at hi
  exact hf.2.1 i el hi
 ·rw[jf]at hi
  split at hi
  case isFalse=>simp at hi
  rename_i hin;obtain⟨cv,h1,h2⟩:=hf.2.2 i el j x hi hj;have hjl:j<sz:=by rw[<- hf.2.1 i el hi];exact(q8.1 hj).1
  have:=j9 sz (show i+1<=n from hin);rw[Nat.add_mul,Nat.one_mul]at this
  exact⟨cv,by rw[jf,if_pos (by omega)];exact h1,h2⟩
theorem Q3e {dT sT ty e:TypeId} {sz:Nat} (hd:P.underlying dT=some (.slice e)) (he:(P.info? e).map (·.size)=some sz) {base:Option Addr} {dLen dCap sLen:Nat} {src:Value} (hlen:(Builtin.lenOf src).run P w=.ok sLen w)
  {cells:List Value} (hc:(Builtin.firstCells sz (Nat.min sLen dLen) src).run P w=.ok cells.toArray w) {w':World} (hst:(match base with | some a=>storeCells a cells | none=>pure ()).run P w=.ok () w') :
  (do pure (.value (<- Builtin.copy_ #[dT,sT] ty #[.slice base dLen dCap,src])):Sem Next).run P w=.ok (.value (.int .i64 (Nat.min sLen dLen:Nat))) w':=by
 cases base with
 | none =>
   simp only[Sem.run_pure]at hst;obtain⟨_,rfl⟩:True/\w=w':=⟨trivial,by simpa using hst⟩
   simp[Builtin.copy_,run_underlying hd,Qr he,hlen,hc,goInt]
 | some a =>
   simp only at hst;simp[Builtin.copy_,run_underlying hd,Qr he,hlen,hc,hst,goInt]
theorem I6 {dT sT ty e:TypeId} {sz:Nat} (hd:P.underlying dT=some (.slice e)) (he:(P.info? e).map (·.size)=some sz) (hr:RS J h m w) {id g off len:Nat} {x:Value} (hx:RV J m w (.own id g off len) x)
  {els:List (List V)} (ho:h[id]?=some (.arr g sz els)) (hle:off+len<=els.length) {src:Value} {news:List (List V)} {vs:List Value} (hlen:(Builtin.lenOf src).run P w=.ok news.length w)
  (hfl:Flat (RC J m w) sz (news.take len) vs) (hc:(Builtin.firstCells sz (Nat.min news.length len) src).run P w=.ok vs.toArray w) :
  Fine J m w (h.set id (.arr g sz (els.take off++news.take len++els.drop (off+min news.length len)))) (.i .i64 (min news.length len:Nat)) ((do pure (.value (<- Builtin.copy_ #[dT,sT] ty #[x,src])):Sem Next).run P w):=by
 obtain⟨en,hen,hg,hsz,hsl,hobj⟩:=K2 hr hx ho;obtain⟨_,_,o3,o4⟩:=hobj;have hidm:id<m.length:=(q8.1 hen).1;have hset:m.set id en=m:=by
  apply qy;intro i;by_cases hi:id=i
  ·subst hi;rw[qm hidm,hen]
  ·rw[qt hi]
 have hsetO:∀o,h[id]?=some o->h.set id o=h:=by
  intro o hoo;apply qy;intro i;by_cases hi:id=i
  ·subst hi;rw[qm (q8.1 ho).1,hoo]
  ·rw[qt hi]
 unfold Ent.sl at hsl;cases hbk:en.blk with
 | none =>
   rw[hbk]at hsl o4
   obtain⟨q1,q2,q3⟩:=hsl;subst q1;subst q2;have hels:els=[]:=o4.1;have hm:Nat.min news.length 0=0:=Nat.min_zero _;have hm2:min news.length 0=0:=Nat.min_zero _;have hvs:vs=[]:=ql (by rw[hfl.1];simp);subst hvs;have hobj2:h.set id (.arr g sz (els.take 0++news.take 0++els.drop (0+min news.length 0)))=h:=by
    rw[hels];simp only[List.take_zero,List.drop_nil,List.append_nil];exact hsetO _ (by rw[ho,hels])
   rw[hobj2,hm2];rw[hm]at hc
   rcases q3 with rfl | ⟨a,rfl⟩
   ·rw[Q3e hd he hlen (by rw[hm];exact hc) (base:=none) (w':=w) rfl,hm];exact Fine.pure hr (Bg _ _)
   ·rw[Q3e hd he hlen (by rw[hm];exact hc) (base:=some a) (w':=w) (by simp[storeCells]),hm];exact Fine.pure hr (Bg _ _)
 | some B =>
   rw[hbk]at hsl o4
   obtain⟨o,cc,rfl,q1,q2⟩:=hsl;obtain⟨p1,p2,c,ty2,fz,p3,p4,p5,p6⟩:=o4;have hvl:vs.length=min news.length len*sz:=by rw[hfl.1,qv,Nat.min_comm]
   have hfit:0<vs.length->o=(en.base+off)*sz:=by
    intro h0;rw[q2 (by
     rcases Nat.lt_or_ge 0 cc with h | h
     ·exact h
     ·have h00:len=0:=by omega
      exfalso;rw[h00,Nat.min_zero,Nat.zero_mul]at hvl
      omega),hsz]
   have hmx:min news.length len<=len:=Nat.min_le_right _ _;have hone:∀v∈vs,v.oneCell'=true:=by
    intro v hv;obtain⟨q,hq⟩:=qq hv;have hql:=(q8.1 hq).1;rw[hfl.1]at hql
    have hszp:0<sz:=by
     rcases Nat.eq_zero_or_pos sz with h | h
     ·rw[h]at hql;simp at hql
     ·exact h
    have r1:q / sz<(news.take len).length:=Nat.div_lt_of_lt_mul (by rw[Nat.mul_comm];exact hql);have r2:q % sz<sz:=Nat.mod_lt _ hszp;have r3:q / sz*sz+q % sz=q:=by rw[Nat.mul_comm];exact Nat.div_add_mod q sz
    have r4:=hfl.2.1 _ _ (q9 r1);obtain⟨cv,r5,r6⟩:=hfl.2.2 _ _ (q % sz) _ (q9 r1) (q9 (by omega));rw[r3,hq]at r5
    rw[Option.some.inj r5];exact RC.one r6
   have hmulm:min news.length len*sz<=len*sz:=j9 _ hmx;have hcap:(en.base+off)*sz+len*sz<=c.size:=by
    rw[p4,<- Nat.add_mul];exact j9 _ (by omega)
   -- the world behind it
   obtain⟨row,hrow,hrun⟩:∃row:List Value,row=c.toList.take ((en.base+off)*sz)++vs++c.toList.drop ((en.base+off)*sz+vs.length)/\(storeCells ⟨B,o,none⟩ vs).run P w=.ok () (w.setRow B row.toArray):=by
    refine⟨_,rfl,?_⟩;rcases Nat.eq_zero_or_pos vs.length with h0 | h0
    ·have:vs=[]:=ql h0;subst this;simp only[storeCells,Sem.run_pure,List.append_nil,List.length_nil,Nat.add_zero,List.take_append_drop,Array.toArray_toList];rw[setRow_self w B c ty2 fz p3]
    ·have:=Zv (P:=P) B o ty2 fz vs 0 c w p3 (by rw[hfit h0];omega) hone p5;rw[hfit h0]at this ⊢
     simpa using this
   rw[Q3e hd he hlen hc (base:=some ⟨B,o,none⟩) (w':=w.setRow B row.toArray) hrun];have hoth:∀k,k<w.heap.size->en.blk≠some k->(w.setRow B row.toArray).heap[k]?=w.heap[k]?:=λk _ hk=>setRow_other w B k _ (λhkb=>hk (by rw[hbk,hkb]))
   have hJ:∀k,J k->(w.setRow B row.toArray).heap[k]?=w.heap[k]?:=λk hk=>hoth k (hr.jlt k hk) (λhkb=>(hr.dis id en k hen hkb).1 hk)
   have hs2:w.heap.size<=(w.setRow B row.toArray).heap.size:=by simp[World.setRow]
   have hrl:row.length=c.size:=by rw[hrow];simp;omega
   refine⟨_,_,J,m,.inl rfl,Bg _ _,?_,λn=>?_,Ml.refl m⟩
   ·have:=RS.upd hr (w':=w.setRow B row.toArray) en (.arr g sz (els.take off++news.take len++els.drop (off+min news.length len))) hen (Nat.le_refl _) (λ_=>rfl) (λB' hB'=>⟨.inl hB',by have:=(hr.dis id en B' hen hB').2;omega⟩) hoth hs2 ?_
    ·rw[hset]at this;exact this
    ·rw[hset];have hl1:(els.take off).length=off:=by simp;omega
     have hl2:(news.take len).length=min news.length len:=by rw[qv,Nat.min_comm]
     refine⟨hg,hsz,λi el hi=>?_,?_⟩
     ·rw[j6]at hi
      by_cases h1:i<off
      ·rw[qd (by omega),jf,if_pos h1]at hi
       exact o3 i el hi
      ·rw[qf (by omega),hl1]at hi
       by_cases h2:i-off<min news.length len
       ·rw[qd (by omega)]at hi
        exact hfl.2.1 _ el hi
       ·rw[qf (by omega),jh]at hi
        exact o3 _ el hi
     ·rw[hbk];refine⟨by simp only[j7,hl1,hl2,List.length_drop];omega,p2,_,ty2,fz,setRow_heap w B c _ ty2 fz p3,by simp[hrl,p4],by intro k hk;exact p5 k (by simpa[hrl]using hk),λi el j y hi hj=>?_⟩;have hsp:=λq=>Yj (cs:=c.toList) (ys:=vs) (j:=(en.base+off)*sz) (k:=q) (by simp;omega)
      rw[List.getElem?_toArray,hrow,hsp];have hmono:∀v cv,RC J m w v cv->RC J m (w.setRow B row.toArray) v cv:=λv cv hq=>RC.mono (λ_ h=>h) hJ (Ml.refl m) hq
      rw[hrow]at hmono
      have hpos:(en.base+i)*sz+j=en.base*sz+i*sz+j:=by rw[Nat.add_mul]
      have hbo:(en.base+off)*sz=en.base*sz+off*sz:=by rw[Nat.add_mul]
      rw[j6]at hi
      by_cases h1:i<off
      ·rw[qd (by omega),jf,if_pos h1]at hi
       have hjl:j<sz:=by rw[<- o3 i el hi];exact(q8.1 hj).1
       have:=j9 sz (show i+1<=off from h1);rw[Nat.add_mul,Nat.one_mul]at this
       obtain⟨cv,r1,r2⟩:=p6 i el j y hi hj;rw[if_pos (by omega)];exact⟨cv,by rw[Array.getElem?_toList];exact r1,hmono _ _ r2⟩
      ·rw[qf (by omega),hl1]at hi
       have hio:i*sz=off*sz+(i-off)*sz:=by rw[<- Nat.add_mul];congr 1;omega
       by_cases h2:i-off<min news.length len
       ·rw[qd (by omega)]at hi
        obtain⟨cv,r1,r2⟩:=hfl.2.2 _ el j y hi hj;have:=(q8.1 r1).1;rw[if_neg (by omega),if_pos (by omega)];exact⟨cv,by rw[<- r1];congr 1;omega,hmono _ _ r2⟩
       ·rw[qf (by omega),jh,hl2]at hi
        rw[show off+min news.length len+(i-off-min news.length len)=i by omega]at hi
        obtain⟨cv,r1,r2⟩:=p6 i el j y hi hj;have:=j9 sz (show min news.length len<=i-off by omega);rw[if_neg (by omega),if_neg (by omega)];exact⟨cv,by rw[Array.getElem?_toList];exact r1,hmono _ _ r2⟩
   ·have:=Ev.upd (n:=n) (J:=J) (w:=w) (w':=w.setRow B row.toArray) en hen (Nat.le_refl _) (λ_=>rfl) (λB' hB'=>.inl hB') hoth hs2 rfl rfl rfl (Nat.le_refl _);rw[hset]at this;exact this
theorem Qsk {dT sT ty e:TypeId} {sz:Nat} (hd:P.underlying dT=some (.slice e)) (he:(P.info? e).map (·.size)=some sz) (hr:RS J h m w) {id g off len:Nat} {x:Value} (hx:RV J m w (.own id g off len) x)
  {els:List (List V)} (ho:h[id]?=some (.arr g sz els)) (hle:off+len<=els.length) {Y:V} {y:Value} (hy:RV J m w Y y) {news:List (List V)} (hn:Zr sz h Y=some news) :
  Fine J m w (h.set id (.arr g sz (els.take off++news.take len++els.drop (off+min news.length len)))) (.i .i64 (min news.length len:Nat)) ((do pure (.value (<- Builtin.copy_ #[dT,sT] ty #[x,y])):Sem Next).run P w):=by
 obtain⟨b,cap,vs,rfl,h1,h2,h3,h4⟩:=J5 hr hy hn;refine I6 (vs:=vs.take (len*sz)) hd he hr hx ho hle (by simp[Builtin.lenOf]) (h3.take len) ?_;have hmin:(Nat.min news.length len)*sz=min (len*sz) vs.length:=by
  rw[h3.1];show min news.length len*sz=_;rcases Nat.le_total news.length len with hh | hh
  ·rw[Nat.min_eq_left hh,Nat.min_eq_right (j9 _ hh)]
  ·rw[Nat.min_eq_right hh,Nat.min_eq_left (j9 _ hh)]
 refine Zq (by rw[qv,hmin]) (λhb=>?_) (λa' ha j v hj=>?_)
 ·have:=(h2 hb).1;show min news.length len=0;omega
 ·rw[jf]at hj
  split at hj
  case isFalse=>simp at hj
  exact h4 a' ha j v hj
theorem Qkg {dT sT ty e:TypeId} (hd:P.underlying dT=some (.slice e)) (he:(P.info? e).map (·.size)=some 1) (hr:RS J h m w) {id g off len:Nat} {x:Value} (hx:RV J m w (.own id g off len) x)
  {els:List (List V)} (ho:h[id]?=some (.arr g 1 els)) (hle:off+len<=els.length) {l:List UInt8} {y:Value} (hy:RV J m w (.s l) y) :
  Fine J m w (h.set id (.arr g 1 (els.take off++(l.map Yv).take len++els.drop (off+min (l.map Yv).length len)))) (.i .i64 (min (l.map Yv).length len:Nat)) ((do pure (.value (<- Builtin.copy_ #[dT,sT] ty #[x,y])):Sem Next).run P w):=by
 have:=Xo hy;subst this;refine I6 (vs:=(l.take len).map λb=>.int .u8 b.toNat) hd he hr hx ho hle (by simp[Builtin.lenOf,Q1i]) ?_ ?_
 ·refine⟨by simp,λi el hi=>?_,λi el j y hi hj=>?_⟩
  ·rw[jf]at hi
   split at hi
   case isFalse=>simp at hi
   simp only[qp,qa]at hi;obtain⟨b,_,rfl⟩:=hi;rfl
  ·rw[jf]at hi
   split at hi
   case isFalse=>simp at hi
   rename_i hlt;simp only[qp,qa]at hi;obtain⟨b,hb,rfl⟩:=hi;cases j with
   | succ j=>simp[Yv]at hj
   | zero =>
     simp[Yv]at hj
     subst hj;refine⟨.int .u8 b.toNat,?_,Qv (.i _ _)⟩;simp[jf,hlt,hb]
 ·have:((ByteArray.mk l.toArray).extract 0 (Nat.min (l.map Yv).length len)).data=(l.take len).toArray:=by
   apply Array.ext';simp[ByteArray.data_extract,List.extract_eq_take_drop];exact Nat.min_comm _ _
  simp[Builtin.firstCells,this]
  try (first | omega | exact Nat.min_comm _ _)
theorem Q4c {mx:Bool}:∀(vs:List V) (xs:List Value) (r:V),Pw (RV J m w) vs xs->W4 mx vs=some r ->
  ∃k n,r=.i k n/\(match xs with | []=>(stuck "" : Sem Value) | x::rest=>rest.foldlM (if mx then Builtin.max2 else Builtin.min2) x).run P w=.ok (.int k n) w
 | [],_,_,_,h=>by simp[W4]at h
 | [X],xs,r,hp,h=>by
   cases X<;>simp[W4,Qjr]at h
   subst h;cases xs with
   | nil=>have:=hp.1;simp at this
   | cons x xs =>
     have:=hp.1;simp at this;subst this;have:=Ze hp.head;subst this;exact⟨_,_,rfl,by simp⟩
 | X::Y::rest,xs,r,hp,h=>by
   cases X<;>cases Y<;>simp only[W4,Qjr]at h<;>try (simp at h;done)
   rename_i k a k' b;split at h
   case isFalse=>simp at h
   rename_i hk;subst hk;cases xs with
   | nil=>have:=hp.1;simp at this
   | cons x xs =>
     cases xs with
     | nil=>have:=hp.1;simp at this
     | cons y xs =>
       have:=Ze hp.head;subst this;have:=Ze hp.tail.head;subst this;obtain⟨k2,n2,rfl,h2⟩:=Q4c (.i k (if mx then (if b > a then b else a) else (if b<a then b else a))::rest) (.int k (if mx then (if b > a then b else a) else (if b<a then b else a))::xs) r (Pw.cons (Bg _ _) hp.tail.tail) h;refine⟨k2,n2,rfl,?_⟩;simp only[List.foldlM_cons,Sem.run_bind];simp only at h2;cases mx
       ·simp only[Bool.false_eq_true,if_false,Builtin.min2,Sem.run_pure,Result.andThen_ok]at h2 ⊢;exact h2
       ·simp only[if_true,Builtin.max2,Sem.run_pure,Result.andThen_ok]at h2 ⊢;exact h2
termination_by vs=>vs.length
theorem fine_mx {tys:Array TypeId} {ty:TypeId} (hr:RS J h m w) {vs:List V} {xs:Array Value} (hp:Pw (RV J m w) vs xs.toList) {r:V} (hs:W4 true vs=some r) :
  Fine J m w h r ((do pure (.value (<- Builtin.max_ tys ty xs)):Sem Next).run P w):=by
 obtain⟨k,n,rfl,h1⟩:=Q4c (P:=P) vs xs.toList r hp hs;have hrun:(Builtin.max_ tys ty xs).run P w=.ok (.int k n) w:=by
  unfold Builtin.max_;cases hx:xs.toList with
  | nil=>rw[hx]at h1;simp at h1
  | cons x rest=>rw[hx]at h1;simpa using h1
 simp only[Sem.run_bind,hrun,Result.andThen_ok,Sem.run_pure];exact Fine.pure hr (Bg _ _)
theorem fine_mn {tys:Array TypeId} {ty:TypeId} (hr:RS J h m w) {vs:List V} {xs:Array Value} (hp:Pw (RV J m w) vs xs.toList) {r:V} (hs:W4 false vs=some r) :
  Fine J m w h r ((do pure (.value (<- Builtin.min_ tys ty xs)):Sem Next).run P w):=by
 obtain⟨k,n,rfl,h1⟩:=Q4c (P:=P) vs xs.toList r hp hs;have hrun:(Builtin.min_ tys ty xs).run P w=.ok (.int k n) w:=by
  unfold Builtin.min_;cases hx:xs.toList with
  | nil=>rw[hx]at h1;simp at h1
  | cons x rest=>rw[hx]at h1;simpa using h1
 simp only[Sem.run_bind,hrun,Result.andThen_ok,Sem.run_pure];exact Fine.pure hr (Bg _ _)
end
end Go.Abs
