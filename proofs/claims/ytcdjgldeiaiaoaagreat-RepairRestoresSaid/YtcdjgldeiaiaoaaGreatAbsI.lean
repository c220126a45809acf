/- Part of the library on which the proof stands: an abstract machine, its values and its soundness against the model; or what functions of the program do to such values. -/
import Derived.Test.YtcdjgldeiaiaoaaGreatAbsH
set_option linter.unusedVariables false
set_option linter.unusedSimpArgs false
namespace Go.Abs
open Go.RowKit
section
variable {P:Program} {J:Nat->Prop} {m:List Ent} {w:World} {h:List O}
theorem Flat.set {R:V->Value->Prop} {sz:Nat} {els:List (List V)} {vs:List Value} (hf:Flat R sz els vs) {i:Nat} (hi:i<els.length) {ys:List V} {us:List Value} (hp:Pw R ys us) (hy:ys.length=sz) :
  Flat R sz (els.set i ys) (vs.take (i*sz)++us++vs.drop (i*sz+sz)):=by
 have hus:us.length=sz:=by rw[<- hp.1,hy]
 have hin:i*sz+sz<=els.length*sz:=by
  have:=j5 sz (show i+1<=els.length from hi)
  rw[Nat.add_mul,Nat.one_mul]at this;exact this
 have hvl:=hf.1
 have hsp:=λq=>Y0 (cs:=vs) (ys:=us) (j:=i*sz) (k:=q) (by rw[hus];omega)
 rw[hus]at hsp
 refine⟨by simp only[j3,qw,List.length_drop,List.length_set,hus,hvl];omega,λk el hk=>?_,λk el j x hk hj=>?_⟩
 ·by_cases hik:i=k
  ·subst hik
   rw[qn hi]at hk
   rw[<- Option.some.inj hk];exact hy
  ·rw[qu hik]at hk
   exact hf.2.1 k el hk
 ·rw[hsp]
  by_cases hik:i=k
  ·subst hik
   rw[qn hi]at hk
   obtain rfl:=Option.some.inj hk
   obtain⟨cv,h1,h2⟩:=hp.get hj
   have hjl:=(q8.1 hj).1
   rw[if_neg (by omega),if_pos (by omega)]
   exact⟨cv,by rw[<- h1];congr 1;omega,h2⟩
  ·rw[qu hik]at hk
   obtain⟨cv,h1,h2⟩:=hf.2.2 k el j x hk hj
   have hjl:j<sz:=by rw[<- hf.2.1 k el hk];exact(q8.1 hj).1
   refine⟨cv,?_,h2⟩
   split
   ·exact h1
   ·rename_i q1
    split
    ·rename_i q2
     exfalso
     have q3:k*sz+j=i*sz+(k*sz+j-i*sz):=by omega
     have:=Q82 hjl (show k*sz+j-i*sz<sz by omega) q3
     omega
    ·exact h1
theorem Q96 {sz:Nat}:∀(ps:List (Nat × V)) (qs:List (Nat × Value)) (els:List (List V)) (cells:Array Value) (es:List (List V)),
  ps.length=qs.length->(∀(k:Nat) i X i' v,ps[k]?=some (i,X)->qs[k]?=some (i',v)->i=i'/\RV J m w X v)->Flat (RC J m w) sz els cells.toList->Xo sz els ps=some es ->
  ∃cells',Instr.fill (λi=>some (i*sz,sz)) cells qs=some cells'/\Flat (RC J m w) sz es cells'.toList
 | [],[],els,cells,es,_,_,hz,hf=>by
   simp[Xo]at hf;subst hf
   exact⟨cells,rfl,hz⟩
 | [],_::_,_,_,_,hl,_,_,_=>by simp at hl
 | _::_,[],_,_,_,hl,_,_,_=>by simp at hl
 | (i,X)::ps,(i',v)::qs,els,cells,es,hl,hk,hz,hf=>by
   simp only[Xo,j6]at hf
   obtain⟨⟨h1,h2,h3⟩,h4⟩:=hf
   obtain⟨rfl,h6⟩:=hk 0 i X i' v rfl rfl
   have hc:=Wl h6 h3
   have hvs:v.cells.size=sz:=by have:=hc.1;simp at this;omega
   have hcl:cells.size=els.length*sz:=by simpa using hz.1
   have hin:i*sz+sz<=els.length*sz:=by
    have:=j5 sz (show i+1<=els.length from h2)
    rw[Nat.add_mul,Nat.one_mul]at this;exact this
   obtain⟨cells',h7,h8⟩:=Q4z (place:=λi=>some (i*sz,sz)) (i:=i) (cells:=cells) (rest:=qs) rfl hvs (by omega)
   rw[h8]
   refine Q96 ps qs (els.set i X.cells) cells' es (by simpa using hl) (λk o' X' i' v' a b=>hk (k+1) o' X' i' v' (by simpa using a) (by simpa using b)) ?_ h4
   rw[h7]
   exact hz.set h2 hc h1
theorem W3 {t e:TypeId} {i:TypeInfo} {z:Value} (ht:P.underlying t=some (.slice e)) (hi:P.info? e=some i) (hz:i.zero=some z) {zs:List V} (hzs:∀(J:Nat->Prop) m w,Pw (RC J m w) zs z.cells.toList) (hsz:zs.length=i.size)
  {len:Nat} (hlen:len*i.size<=16777216) {ps:List (Nat × V)} {qs:Array (Nat × Value)} (hl:ps.length=qs.toList.length)
  (hk:∀(k:Nat) i X i' v,ps[k]?=some (i,X)->qs.toList[k]?=some (i',v)->i=i'/\RV J m w X v) {es:List (List V)} (hf:Xo i.size (List.replicate len zs) ps=some es) :
  ∃row,Flat (RC J m w) i.size es row.toList/\(do pure (.value (<- Instr.buildSlice t len qs)):Sem Next).run P w=.ok (.value (.slice (some ⟨w.heap.size,0,none⟩) len len)) (w.alloc (.cells row e)):=by
 obtain⟨row,h1,h2⟩:=Q96 (J:=J) (m:=m) (w:=w) ps qs.toList (List.replicate len zs) (madeCells z.cells (len*i.size)) es hl hk (Flat.replicate (hzs J m w) hsz len) hf
 refine⟨row,h2,?_⟩
 have hn:¬ (16777216<len*i.size):=by omega
 by_cases h0:len*i.size=0
 ·have hm:madeCells z.cells (len*i.size)=#[]:=by rw[h0];simp[madeCells]
  rw[hm]at h1
  simp[Instr.buildSlice,run_underlying ht,Qm (show (P.info? e).map (·.size)=some i.size by rw[hi];rfl),hn,h0,Array.range_zero',h1,newRow]
 ·simp only[Instr.buildSlice,Sem.run_bind,run_underlying ht,Result.andThen_ok,Qm (show (P.info? e).map (·.size)=some i.size by rw[hi];rfl),gt_iff_lt,hn,if_false,h0,Sem.run_pure,Sem.run_ite]
  have hm:madeCells z.cells (len*i.size)=(Array.range (len*i.size)).map (λk=>z.cells[k % z.cells.size]!):=rfl
  rw[hm]at h1
  simp[h1,newRow,hn,zeroValue,typeInfo,hi,hz]
theorem Bn {sz:Nat}:∀(ps:List (Nat × V)) (els es:List (List V)),Xo sz els ps=some es->es.length=els.length
 | [],els,es,h=>by simp[Xo]at h;rw[<- h]
 | (i,X)::ps,els,es,h=>by
   simp only[Xo,j6]at h
   rw[Bn ps _ es h.2];simp
theorem Qjp {t e:TypeId} {i:TypeInfo} {z:Value} (ht:P.underlying t=some (.slice e)) (hi:P.info? e=some i) (hz:i.zero=some z) {zs:List V} (hzs:∀(J:Nat->Prop) m w,Pw (RC J m w) zs z.cells.toList) (hsz:zs.length=i.size)
  {len:Nat} (hlen:len*i.size<=16777216) (hlen2:len<=16777216) (hr:RS J h m w) {ps:List (Nat × V)} {qs:Array (Nat × Value)} (hl:ps.length=qs.toList.length)
  (hk:∀(k:Nat) i X i' v,ps[k]?=some (i,X)->qs.toList[k]?=some (i',v)->i=i'/\RV J m w X v) {es:List (List V)} (hf:Xo i.size (List.replicate len zs) ps=some es) :
  Fine J m w (if len=0 then h else h++[.arr 1 i.size es]) (if len=0 then .nil else .own h.length 1 0 len) ((do pure (.value (<- Instr.buildSlice t len qs)):Sem Next).run P w):=by
 obtain⟨row,h1,h2⟩:=W3 (J:=J) (m:=m) (w:=w) ht hi hz hzs hsz hlen hl hk hf
 rw[h2]
 have hel:es.length=len:=by rw[Bn _ _ _ hf];simp
 have hold:∀k,k<w.heap.size->(w.alloc (.cells row e)).heap[k]?=w.heap[k]?:=λk hk=>heap_alloc_old w _ hk
 by_cases h0:len=0
 ·subst h0
  simp only[if_true]
  exact⟨_,_,J,m,.inl rfl,RD.nil1 _,RS.same hr (λ_ h=>h) (λ_ h=>.inl h) (λk hk=>Nat.lt_of_lt_of_le (hr.jlt k hk) (by simp)) hold (by simp),λn=>Ev.same (λ_ h=>h) (λ_ h=>.inl h) hold (by simp) rfl rfl rfl (by simp),Ml.refl m⟩
 ·simp only[h0,if_false]
  have:=Wg hr (sz:=i.size) (els:=es) (w':=w.alloc (.cells row e)) (c:=row) (ty:=e) (fz:=(0,0)) (cap:=len) h1.2.1
   rfl rfl rfl (by simp) hold (by simp) (heap_alloc_new w _) (by have:=h1.1;rw[hel]at this;simpa using this) (by omega) (by simp only[maxLen];omega) (by intro k _;simp)
   (λa el b x q1 q2=>by
    obtain⟨cv,h3,h4⟩:=h1.2.2 a el b x q1 q2
    exact⟨cv,by simpa using h3,h4⟩)
  exact⟨_,_,J,_,.inl rfl,⟨rfl,⟨1,i.size,some w.heap.size,0,len⟩,by rw[<- hr.len];exact Ya _ _,⟨Nat.le_refl _,Nat.le_refl _⟩,λ_=>⟨0,_,rfl,by simp,by simp⟩⟩,this.1,this.2.1,this.2.2⟩
theorem Qjq {t e:TypeId} {i:TypeInfo} {z:Value} (ht:P.underlying t=some (.slice e)) (hi:P.info? e=some i) (hz:i.zero=some z) {zs:List V} (hzs:∀(J:Nat->Prop) m w,Pw (RC J m w) zs z.cells.toList) (hsz:zs.length=i.size)
  {len:Nat} (hlen:len*i.size<=16777216) (hr:RS J h m w) {ps:List (Nat × V)} {qs:Array (Nat × Value)} (hl:ps.length=qs.toList.length)
  (hk:∀(k:Nat) i X i' v,ps[k]?=some (i,X)->qs.toList[k]?=some (i',v)->i=i'/\RV J m w X v) {es:List (List V)} (hf:Xo i.size (List.replicate len zs) ps=some es) (hd:es.all (·.all V.isD)=true) :
  Fine J m w h (.l i.size es) ((do pure (.value (<- Instr.buildSlice t len qs)):Sem Next).run P w):=by
 obtain⟨row,h1,h2⟩:=W3 (J:=J) (m:=m) (w:=w) ht hi hz hzs hsz hlen hl hk hf
 rw[h2]
 have hel:es.length=len:=by rw[Bn _ _ _ hf];simp
 have hold:∀k,k<w.heap.size->(w.alloc (.cells row e)).heap[k]?=w.heap[k]?:=λk hk=>heap_alloc_old w _ hk
 have hJ:∀k,J k->(λk=>J k∨k=w.heap.size) k:=λk hk=>.inl hk
 have hJn:∀k,(λk=>J k∨k=w.heap.size) k->J k∨w.heap.size<=k:=λk hk=>hk.imp id (λh=>by omega)
 refine⟨_,_,λk=>J k∨k=w.heap.size,m,.inl rfl,?_,RS.same hr hJ hJn (λk hk=>hk.elim (λhk=>Nat.lt_of_lt_of_le (hr.jlt k hk) (by simp)) (λhk=>by simp;omega)) hold (by simp),λn=>Ev.same hJ hJn hold (by simp) rfl rfl rfl (by simp),Ml.refl m⟩
 have hdd:∀(a:Nat) (el:List V) (b:Nat) (x:V),es[a]?=some el->el[b]?=some x->x.isD=true:=by
  intro a el b x q1 q2
  have q3:=qj.1 hd el (qb q1)
  exact qj.1 q3 x (qb q2)
 have:=RD.l (J:=λk=>J k∨k=w.heap.size) (w:=w.alloc (.cells row e)) i.size es ⟨w.heap.size,0,none⟩ len (λa b=>(row[a*i.size+b]?).getD undef) (.inr rfl) (by omega) h1.2.1
  (λa b ha hb=>by
   have hlt:a*i.size+b<row.size:=by
    have:=h1.1
    simp at this
    rw[this]
    have:=j5 i.size (show a+1<=es.length from ha)
    rw[Nat.add_mul,Nat.one_mul]at this;omega
   rw[Addr.add_lit,Nat.zero_add]
   have hnew:=heap_alloc_new w (.cells row e)
   simp only[World.cell?,hnew]
   simp[hlt])
  (λa el b x q1 q2=>by
   obtain⟨cv,q3,q4⟩:=h1.2.2 a el b x q1 q2
   have q5:row[a*i.size+b]?=some cv:=by simpa using q3
   simp only[q5,Option.getD_some]
   exact(Wp (hdd a el b x q1 q2) q4).mono hJ (λk hk=>hold k (hr.jlt k hk)))
 rw[hel]at this
 exact this
theorem Qz {x:Value} {k:IntKind} {n:Int} (hx:x=.int k n) {y:Nat} (h0:0<=n) (h1:n.toNat<=y) (code:BoundsCode):(Instr.sliceBound x y code).run P w=.ok n.toNat w:=by
 subst hx
 have:n<=y:=by omega
 simp[Instr.sliceBound,asIntOf,h0,this]
theorem Q76 {X:Option V} {x:Option Value} {d b:Nat} (hX:X.isSome=x.isSome) (hx:∀V' v,X=some V'->x=some v->RV J m w V' v) (hb:bnd X d=some b) :
  match x with
  | none=>b=d
  | some v=>∃k n,v=.int k n/\0<=n/\b=n.toNat:=by
 cases X with
 | none =>
   cases x with
   | none=>simp[bnd]at hb;exact hb.symm
   | some v=>simp at hX
 | some X =>
   cases x with
   | none=>simp at hX
   | some v =>
     have:=hx X v rfl rfl
     cases X<;>simp[bnd]at hb
     obtain⟨h0,rfl⟩:=hb
     exact⟨_,_,Z5 this,h0,rfl⟩
theorem Qx {lo hi:Option Value} {LO HI:Option V} {len cap a b:Nat} {isS:Bool} (hlo:LO.isSome=lo.isSome) (hlo2:∀V' v,LO=some V'->lo=some v->RV J m w V' v)
  (hhi:HI.isSome=hi.isSome) (hhi2:∀V' v,HI=some V'->hi=some v->RV J m w V' v) (ha:bnd LO 0=some a) (hb:bnd HI len=some b) (hab:a<=b) (hbc:b<=cap) :
  (Instr.sliceBounds isS len cap lo hi none).run P w=.ok (a,b,cap) w:=by
 have h1:=Q76 hlo hlo2 ha
 have h2:=Q76 hhi hhi2 hb
 cases lo with
 | none =>
   simp only at h1
   subst h1
   cases hi with
   | none=>simp only at h2;subst h2;simp[Instr.sliceBounds]
   | some y =>
     simp only at h2
     obtain⟨k,n,rfl,q1,rfl⟩:=h2
     simp[Instr.sliceBounds,Qz rfl q1 hbc]
 | some x =>
   simp only at h1
   obtain⟨k,n,rfl,q1,rfl⟩:=h1
   cases hi with
   | none=>simp only at h2;subst h2;simp[Instr.sliceBounds,Qz rfl q1 hab]
   | some y =>
     simp only at h2
     obtain⟨k',n',rfl,q2,rfl⟩:=h2
     simp[Instr.sliceBounds,Qz rfl q2 hbc,Qz rfl q1 hab]
theorem Qu {T e:TypeId} {sz:Nat} (hT:P.underlying T=some (.slice e)) (he:(P.info? e).map (·.size)=some sz) {x:Option Addr} {len cap a b:Nat} {lo hi:Option Value}
  (hb:(Instr.sliceBounds true len cap lo hi none).run P w=.ok (a,b,cap) w) :
  (do pure (.value (<- Instr.sliceAt T (.slice x len cap) lo hi none)):Sem Next).run P w=.ok (.value (.slice (if cap=a then x else x.map (·.add (a*sz))) (b-a) (cap-a))) w:=by
 simp[Instr.sliceAt,Instr.slice,run_underlying hT,hb,Qm he]
theorem Qbg {T e:TypeId} {sz:Nat} (hT:P.underlying T=some (.slice e)) (he:(P.info? e).map (·.size)=some sz) (hr:RS J h m w) {els:List (List V)} {x:Value} (hx:RV J m w (.l sz els) x)
  {lo hi:Option Value} {LO HI:Option V} {a b:Nat} (hlo:LO.isSome=lo.isSome) (hlo2:∀V' v,LO=some V'->lo=some v->RV J m w V' v)
  (hhi:HI.isSome=hi.isSome) (hhi2:∀V' v,HI=some V'->hi=some v->RV J m w V' v) (ha:bnd LO 0=some a) (hb:bnd HI els.length=some b) (hab:a<=b) (hbl:b<=els.length) :
  Fine J m w h (.l sz ((els.take b).drop a)) ((do pure (.value (<- Instr.sliceAt T x lo hi none)):Sem Next).run P w):=by
 have hx':RD J w (.l sz els) x:=hx
 cases hx' with
 | l0 =>
   have hb0:b=0:=by simpa using hbl
   have ha0:a=0:=by omega
   subst hb0;subst ha0
   simp only[List.length_nil]at hb
   rw[Qu hT he (Qx hlo hlo2 hhi hhi2 ha hb hab (Nat.zero_le _))]
   exact Fine.pure hr (by simpa using Qe (m:=m) (Qn (RD.l0 (J:=J) (w:=w) sz)))
 | l1 _ ad cap =>
   have hb0:b=0:=by simpa using hbl
   have ha0:a=0:=by omega
   subst hb0;subst ha0
   simp only[List.length_nil]at hb
   rw[Qu hT he (Qx hlo hlo2 hhi hhi2 ha hb hab (Nat.zero_le _))]
   refine Fine.pure hr ?_
   by_cases hc:cap=0
   ·simp only[hc,if_true];simpa using Qe (m:=m) (Qn (RD.l1 (J:=J) (w:=w) sz ad 0))
   ·simp only[hc,if_false];simpa using Qe (m:=m) (Qn (RD.l1 (J:=J) (w:=w) sz (ad.add 0) cap))
 | l _ _ ad cap cs hj hc hsz hcell hrd =>
   rw[Qu hT he (Qx hlo hlo2 hhi hhi2 ha hb hab (by omega))]
   refine Fine.pure hr ?_
   have hlen:((els.take b).drop a).length=b-a:=by simp;omega
   have hget:∀i el,((els.take b).drop a)[i]?=some el->els[a+i]?=some el:=by
    intro i el hi
    rw[jc,jb]at hi
    split at hi
    case isFalse=>simp at hi
    exact hi
   by_cases hca:cap=a
   ·have:(els.take b).drop a=[]:=qm (by omega)
    rw[this,if_pos hca,show b-a=0 by omega]
    exact RD.l1 sz ad (cap-a)
   ·rw[if_neg hca]
    have:=RD.l (J:=J) (w:=w) sz ((els.take b).drop a) (ad.add (a*sz)) (cap-a) (λi j=>cs (a+i) j) (by rw[Addr.add_block];exact hj) (by omega) (λi el hi=>hsz _ el (hget i el hi))
     (λi j hi hjj=>by rw[Addr.add_add,<- Nat.add_assoc,<- Nat.add_mul];exact hcell _ _ (by omega) hjj) (λi el j v q1 q2=>hrd _ el j v (hget i el q1) q2)
    rw[hlen]at this
    exact this
theorem Q6m {T e:TypeId} {sz:Nat} (hT:P.underlying T=some (.slice e)) (he:(P.info? e).map (·.size)=some sz) (hr:RS J h m w) {x:Value} (hx:RV J m w .nil x)
  {lo hi:Option Value} {LO HI:Option V} (hlo:LO.isSome=lo.isSome) (hlo2:∀V' v,LO=some V'->lo=some v->RV J m w V' v)
  (hhi:HI.isSome=hi.isSome) (hhi2:∀V' v,HI=some V'->hi=some v->RV J m w V' v) (ha:bnd LO 0=some 0) (hb:bnd HI 0=some 0) :
  Fine J m w h .nil ((do pure (.value (<- Instr.sliceAt T x lo hi none)):Sem Next).run P w):=by
 have hx':RD J w .nil x:=hx
 cases hx' with
 | nil0 =>
   rw[Qu hT he (Qx hlo hlo2 hhi hhi2 ha hb (Nat.le_refl _) (Nat.le_refl _))]
   exact Fine.pure hr RD.nil0
 | nil1 ad =>
   rw[Qu hT he (Qx hlo hlo2 hhi hhi2 ha hb (Nat.le_refl _) (Nat.le_refl _))]
   exact Fine.pure hr (RD.nil1 ad)
theorem Q6l {T e:TypeId} {sz:Nat} (hT:P.underlying T=some (.slice e)) (he:(P.info? e).map (·.size)=some sz) (hr:RS J h m w) {id g off len:Nat} {x:Value} (hx:RV J m w (.own id g off len) x)
  {els:List (List V)} (ho:h[id]?=some (.arr g sz els)) {lo hi:Option Value} {LO HI:Option V} {a b:Nat} (hlo:LO.isSome=lo.isSome) (hlo2:∀V' v,LO=some V'->lo=some v->RV J m w V' v)
  (hhi:HI.isSome=hi.isSome) (hhi2:∀V' v,HI=some V'->hi=some v->RV J m w V' v) (ha:bnd LO 0=some a) (hb:bnd HI len=some b) (hab:a<=b) (hbl:b<=len) :
  Fine J m w h (.own id g (off+a) (b-a)) ((do pure (.value (<- Instr.sliceAt T x lo hi none)):Sem Next).run P w):=by
 obtain⟨en,hen,hg,hsz,hsl,hobj⟩:=Xr hr hx ho
 unfold Ent.sl at hsl
 cases hbk:en.blk with
 | none =>
   rw[hbk]at hsl
   obtain⟨q1,q2,q3⟩:=hsl
   have hb0:b=0:=by omega
   have ha0:a=0:=by omega
   subst hb0;subst ha0;subst q1;subst q2
   rcases q3 with rfl | ⟨ad,rfl⟩
   ·rw[Qu hT he (Qx hlo hlo2 hhi hhi2 ha hb (Nat.le_refl _) (Nat.le_refl _))]
    exact Fine.pure hr ⟨rfl,en,hen,by have:=hx.2;obtain⟨_,_,h3,_⟩:=this;omega,λ_=>by unfold Ent.sl;rw[hbk];exact⟨rfl,rfl,.inl rfl⟩⟩
   ·rw[Qu hT he (Qx hlo hlo2 hhi hhi2 ha hb (Nat.le_refl _) (Nat.le_refl _))]
    exact Fine.pure hr ⟨rfl,en,hen,by have:=hx.2;obtain⟨_,_,h3,_⟩:=this;omega,λ_=>by unfold Ent.sl;rw[hbk];exact⟨rfl,rfl,.inr ⟨ad,rfl⟩⟩⟩
 | some B =>
   rw[hbk]at hsl
   obtain⟨o,cc,rfl,q1,q2⟩:=hsl
   rw[Qu hT he (Qx hlo hlo2 hhi hhi2 ha hb hab (by omega))]
   by_cases hc:cc=a
   ·rw[if_pos hc]
    refine Fine.pure hr ⟨rfl,en,hen,by have:=hx.2;obtain⟨_,_,h3,_⟩:=this;omega,λ_=>?_⟩
    unfold Ent.sl
    rw[hbk]
    exact⟨o,cc-a,rfl,by omega,λhlt=>by omega⟩
   ·rw[if_neg hc]
    refine Fine.pure hr ⟨rfl,en,hen,by have:=hx.2;obtain⟨_,_,h3,_⟩:=this;omega,λ_=>?_⟩
    unfold Ent.sl
    rw[hbk]
    refine⟨o+a*sz,cc-a,?_,by omega,λhlt=>?_⟩
    ·simp only[Option.map_some,Addr.add_lit]
    ·rw[q2 (by omega),<- hsz,<- Nat.add_mul,Nat.add_assoc]
theorem Qfe {T:TypeId} (hT:P.underlying T=some .string) (hr:RS J h m w) {l:List UInt8} {x:Value} (hx:RV J m w (.s l) x)
  {lo hi:Option Value} {LO HI:Option V} {a b:Nat} (hlo:LO.isSome=lo.isSome) (hlo2:∀V' v,LO=some V'->lo=some v->RV J m w V' v)
  (hhi:HI.isSome=hi.isSome) (hhi2:∀V' v,HI=some V'->hi=some v->RV J m w V' v) (ha:bnd LO 0=some a) (hb:bnd HI l.length=some b) (hab:a<=b) (hbl:b<=l.length) :
  Fine J m w h (.s ((l.take b).drop a)) ((do pure (.value (<- Instr.sliceAt T x lo hi none)):Sem Next).run P w):=by
 have:=X1 hx;subst this
 have hb':=Qx (P:=P) (w:=w) (isS:=false) (cap:=l.length) hlo hlo2 hhi hhi2 ha hb hab hbl
 have hex:(ByteArray.mk l.toArray).extract a b=⟨((l.take b).drop a).toArray⟩:=by
  apply ByteArray.ext
  apply Array.ext'
  simp[ByteArray.data_extract,List.extract_eq_take_drop,List.drop_take]
 have hrun:(do pure (.value (<- Instr.sliceAt T (.string ⟨l.toArray⟩) lo hi none)):Sem Next).run P w=.ok (.value (.string ⟨((l.take b).drop a).toArray⟩)) w:=by
  simp[Instr.sliceAt,Instr.slice,run_underlying hT,En,hb',hex]
 rw[hrun]
 exact Fine.pure hr (rv_s _)
end
end Go.Abs
