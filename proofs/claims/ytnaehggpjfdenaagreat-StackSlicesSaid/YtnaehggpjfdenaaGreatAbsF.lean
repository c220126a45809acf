/- Part of the library on which the proof stands: an abstract machine, its values and its soundness against the model; or what functions of the program do to such values. -/
import Derived.Test.YtnaehggpjfdenaaGreatAbsD
import Derived.Laws.BytesArg
set_option linter.unusedVariables false
set_option linter.unusedSimpArgs false
namespace Go.Abs
open Go.RowKit
section
variable {P:Program} {J:Nat->Prop} {m:List Ent} {w:World} {h:List O}
theorem RC.drop_ip {cells:List V} {x:Value} {off:Nat} (hx:RL J m w (.ip cells) x):∃a,x=.pointer (some a)/\RL J m w (.ip (cells.drop off)) (.pointer (some (a.add off))):=by
 obtain⟨a,rfl,hj,hc⟩:=hx;refine⟨a,rfl,a.add off,rfl,by rw[Addr.add_block];exact hj,λj x hx=>?_⟩;rw[jh]at hx
 obtain⟨c,h1,h2⟩:=hc _ x hx;exact⟨c,by rw[Addr.add_add];exact h1,h2⟩
theorem Qvk {id g e j:Nat} {x:Value} (off:Nat) (hx:RL J m w (.p id g e j) x) (hst:∃en,m[id]?=some en/\en.gen=g):∃a,x=.pointer (some a)/\RL J m w (.p id g e (j+off)) (.pointer (some (a.add off))):=by
 obtain⟨en',hen',hg'⟩:=hst;obtain⟨_,en,hen,hg,hp⟩:=hx;obtain rfl:=Option.some.inj (hen.symm.trans hen');obtain⟨B,hB,rfl⟩:=hp hg'.symm;refine⟨_,rfl,rfl,en,hen,hg,λ_=>⟨B,hB,?_⟩⟩;rw[Addr.add_lit];simp[Nat.add_assoc]
theorem Q58 {S:TypeId} {fs:Array Field} {f:Field} {i n:Nat} (hS:P.underlying S=some (.struct fs)) (hf:fs[i]?=some f) (hn:(P.info? f.type).map (·.size)=some n) (hpos:0<n) (a:Addr) :
  (do pure (.value (<- Instr.fieldAt S (.pointer (some a)) i)):Sem Next).run P w=.ok (.value (.pointer (some (a.add f.offset)))) w:=by
 have h0:¬ n=0:=by omega
 simp[Instr.fieldAt,run_underlying hS,hf,Instr.sureAddr,fieldPlace,Qr hn,h0]
theorem Qsj {S:TypeId} {fs:Array Field} {f:Field} {i n:Nat} (hS:P.underlying S=some (.struct fs)) (hf:fs[i]?=some f) (hn:(P.info? f.type).map (·.size)=some n) (hpos:0<n)
  (hr:RS J h m w) {id g e j:Nat} {x:Value} (hx:RV J m w (.p id g e j) x) {sz:Nat} {els:List (List V)} (ho:h[id]?=some (.arr g sz els)) :
  Fine J m w h (.p id g e (j+f.offset)) ((do pure (.value (<- Instr.fieldAt S x i)):Sem Next).run P w):=by
 have hlt:id<m.length:=by rw[hr.len];exact(q8.1 ho).1
 have hobj:=hr.obj id m[id] _ (q9 hlt) ho;simp only[RO]at hobj;obtain⟨a,rfl,h1⟩:=Qvk f.offset (show RL J m w (.p id g e j) x from hx) ⟨m[id],q9 hlt,hobj.1⟩;rw[Q58 hS hf hn hpos a];exact Fine.pure hr (Qh h1)
theorem Qna {S:TypeId} {fs:Array Field} {f:Field} {i n:Nat} (hS:P.underlying S=some (.struct fs)) (hf:fs[i]?=some f) (hn:(P.info? f.type).map (·.size)=some n) (hpos:0<n)
  (hr:RS J h m w) {cs:List V} {x:Value} (hx:RV J m w (.ip cs) x) :
  Fine J m w h (.ip (cs.drop f.offset)) ((do pure (.value (<- Instr.fieldAt S x i)):Sem Next).run P w):=by
 obtain⟨a,rfl,h1⟩:=RC.drop_ip (m:=m) (off:=f.offset) hx;rw[Q58 hS hf hn hpos a];exact Fine.pure hr (Qh h1)
theorem Qos {T:TypeId} {n:Option Nat} (hT:Q4v P T=some n) {cs:List V} {arr:Array Value} (hp:Pw (RC J m w) cs arr.toList) {off:Nat} (ho:off<=cs.length) {r:V} (hs:Jm n (cs.drop off)=some r) :
  ∃v,(part T arr off).run P w=.ok v w/\RV J m w r v:=by
 have:=Q9m hs (hp.drop off);cases n with
 | none =>
   obtain⟨c,h1,h2⟩:=this;simp at h1;refine⟨c,?_,h2⟩;simp[part,Kz hT,h1]
 | some k =>
   obtain⟨h1,h2⟩:=this;refine⟨_,?_,h2⟩;simp[part,(Y5 hT w).1,(Y5 hT w).2,Array.toList_extract];apply Array.ext';simp[Array.toList_extract,List.extract_eq_take_drop]
theorem Qyk {S:TypeId} {fs:Array Field} {f:Field} {i:Nat} {n:Option Nat} (hS:P.underlying S=some (.struct fs)) (hf:fs[i]?=some f) (hT:Q4v P f.type=some n)
  (hr:RS J h m w) {cs:List V} {x:Value} (hx:RV J m w (.a cs) x) {r:V} (ho:f.offset<=cs.length) (hs:Jm n (cs.drop f.offset)=some r) :
  Fine J m w h r ((do pure (.value (<- Instr.field S x i)):Sem Next).run P w):=by
 obtain⟨arr,rfl,hp⟩:=hx;obtain⟨v,h1,h2⟩:=Qos hT hp ho hs;simp only[Instr.field,Sem.run_bind,run_underlying hS,Result.andThen_ok,hf,asAgg,Sem.run_pure,h1];exact Fine.pure hr h2
theorem Q4g {X:V} {x:Value} {n:Int} (hx:RV J m w X x) (hi:idx X=some n):∃k,x=.int k n:=by
 cases X<;>simp[idx]at hi
 subst hi;rename_i k n;have:RD J w (.i k n) x:=hx;cases this;exact⟨k,rfl⟩
theorem W0 {T E:TypeId} {sz:Nat} (hT:P.underlying T=some (.slice E)) (hE:(P.info? E).map (·.size)=some sz) (a:Addr) (len cap:Nat) (k:IntKind) (n:Int) (h0:0<=n) (h1:n.toNat<len) :
  (do pure (.value (<- Instr.indexAt T (.slice (some a) len cap) (.int k n))):Sem Next).run P w=.ok (.value (.pointer (some (a.add (n.toNat*sz))))) w:=by
 have h2:n<len:=by omega
 simp[Instr.indexAt,asIntOf,run_underlying hT,Qr hE,h0,h2]
theorem Qsi {T E:TypeId} {sz:Nat} (hT:P.underlying T=some (.slice E)) (hE:(P.info? E).map (·.size)=some sz) (hr:RS J h m w) {els:List (List V)} {x:Value} (hx:RV J m w (.l sz els) x)
  {I:V} {i:Value} (hi:RV J m w I i) {n:Int} (hn:idx I=some n) (h0:0<=n) {el:List V} (hel:els[n.toNat]?=some el) :
  Fine J m w h (.ip el) ((do pure (.value (<- Instr.indexAt T x i)):Sem Next).run P w):=by
 obtain⟨k,rfl⟩:=Q4g hi hn;have hlt:=(q8.1 hel).1;have hx':RD J w (.l sz els) x:=hx;cases hx' with
 | l0=>simp at hlt
 | l1=>simp at hlt
 | l _ _ a cap cs hj hc hsz hcell hrd =>
   rw[W0 hT hE a _ cap k n h0 hlt];refine Fine.pure hr ⟨_,rfl,by rw[Addr.add_block];exact hj,λj x hx=>?_⟩;have hjl:=(q8.1 hx).1;rw[hsz _ _ hel]at hjl
   exact⟨_,by rw[Addr.add_add];exact hcell _ _ hlt hjl,hrd _ _ _ _ hel hx⟩
theorem K2 (hr:RS J h m w) {id g off len:Nat} {x:Value} (hx:RV J m w (.own id g off len) x) {sz:Nat} {els:List (List V)} (ho:h[id]?=some (.arr g sz els)) :
  ∃en,m[id]?=some en/\en.gen=g/\en.sz=sz/\en.sl off len x/\RO J m w en (.arr g sz els):=by
 obtain⟨_,en,hen,_,hp⟩:=hx;have hobj:=hr.obj id en _ hen ho;have hobj':=hobj;simp only[RO]at hobj;exact⟨en,hen,hobj.1,hobj.2.1,hp hobj.1.symm,hobj'⟩
theorem Qkf {T E:TypeId} {sz:Nat} (hT:P.underlying T=some (.slice E)) (hE:(P.info? E).map (·.size)=some sz) (hr:RS J h m w) {id g off len:Nat} {x:Value} (hx:RV J m w (.own id g off len) x)
  {els:List (List V)} (ho:h[id]?=some (.arr g sz els)) {I:V} {i:Value} (hi:RV J m w I i) {n:Int} (hn:idx I=some n) (h0:0<=n) (hlt:n.toNat<len) :
  Fine J m w h (.p id g (off+n.toNat) 0) ((do pure (.value (<- Instr.indexAt T x i)):Sem Next).run P w):=by
 obtain⟨k,rfl⟩:=Q4g hi hn;obtain⟨en,hen,hg,hsz,hsl,_⟩:=K2 hr hx ho;unfold Ent.sl at hsl;cases hb:en.blk with
 | none=>rw[hb]at hsl;omega
 | some B =>
   rw[hb]at hsl
   obtain⟨o,c,rfl,h1,h2⟩:=hsl;rw[W0 hT hE _ _ _ k n h0 hlt];have hg1:1<=g:=by obtain⟨_,_,_,h3,_⟩:=hx;exact h3.1
   refine Fine.pure hr ⟨rfl,en,hen,by omega,λ_=>⟨B,hb,?_⟩⟩;rw[Addr.add_lit,h2 (by omega),<- hsz,<- Nat.add_mul];simp[Nat.add_assoc]
theorem W1 {T E:TypeId} {sz len:Nat} (hT:P.underlying T=some (.array len E)) (hE:(P.info? E).map (·.size)=some sz) (a:Addr) (k:IntKind) (n:Int) (h0:0<=n) (h1:n.toNat<len) :
  (do pure (.value (<- Instr.indexAt T (.pointer (some a)) (.int k n))):Sem Next).run P w=.ok (.value (.pointer (some (a.add (n.toNat*sz))))) w:=by
 have h2:n<len:=by omega
 simp[Instr.indexAt,asIntOf,run_underlying hT,Instr.sureAddr,Qr hE,h0,h2]
theorem Qn9 {T E:TypeId} {sz len:Nat} (hT:P.underlying T=some (.array len E)) (hE:(P.info? E).map (·.size)=some sz) (hr:RS J h m w) {id g e j:Nat} {x:Value} (hx:RV J m w (.p id g e j) x)
  {sz':Nat} {els:List (List V)} (ho:h[id]?=some (.arr g sz' els)) {I:V} {i:Value} (hi:RV J m w I i) {n:Int} (hn:idx I=some n) (h0:0<=n) (hlt:n.toNat<len) :
  Fine J m w h (.p id g e (j+n.toNat*sz)) ((do pure (.value (<- Instr.indexAt T x i)):Sem Next).run P w):=by
 obtain⟨k,rfl⟩:=Q4g hi hn;have hlm:id<m.length:=by rw[hr.len];exact(q8.1 ho).1
 have hobj:=hr.obj id m[id] _ (q9 hlm) ho;simp only[RO]at hobj;obtain⟨a,rfl,h1⟩:=Qvk (n.toNat*sz) (show RL J m w (.p id g e j) x from hx) ⟨m[id],q9 hlm,hobj.1⟩;rw[W1 hT hE a k n h0 hlt];exact Fine.pure hr (Qh h1)
theorem Qke {T E:TypeId} {sz len:Nat} (hT:P.underlying T=some (.array len E)) (hE:(P.info? E).map (·.size)=some sz) (hr:RS J h m w) {cs:List V} {x:Value} (hx:RV J m w (.ip cs) x)
  {I:V} {i:Value} (hi:RV J m w I i) {n:Int} (hn:idx I=some n) (h0:0<=n) (hlt:n.toNat<len) :
  Fine J m w h (.ip (cs.drop (n.toNat*sz))) ((do pure (.value (<- Instr.indexAt T x i)):Sem Next).run P w):=by
 obtain⟨k,rfl⟩:=Q4g hi hn;obtain⟨a,rfl,h1⟩:=RC.drop_ip (m:=m) (off:=n.toNat*sz) hx;rw[W1 hT hE a k n h0 hlt];exact Fine.pure hr (Qh h1)
theorem fine_ix {T E:TypeId} {sz len:Nat} {nn:Option Nat} (hT:P.underlying T=some (.array len E)) (hE:(P.info? E).map (·.size)=some sz) (hA:Q4v P E=some nn) (hr:RS J h m w) {cs:List V} {x:Value} (hx:RV J m w (.a cs) x)
  {I:V} {i:Value} (hi:RV J m w I i) {n:Int} (hn:idx I=some n) (h0:0<=n) (hlt:n.toNat<len) (ho:n.toNat*sz<=cs.length) {r:V} (hs:Jm nn (cs.drop (n.toNat*sz))=some r) :
  Fine J m w h r ((do pure (.value (<- Instr.index T x i)):Sem Next).run P w):=by
 obtain⟨k,rfl⟩:=Q4g hi hn;obtain⟨arr,rfl,hp⟩:=hx;obtain⟨v,h1,h2⟩:=Qos hA hp ho hs;have h3:n<len:=by omega
 have hrun:(do pure (.value (<- Instr.index T (.agg arr) (.int k n))):Sem Next).run P w=.ok (.value v) w:=by
  simp[Instr.index,asIntOf,run_underlying hT,Qr hE,h0,h3,h1]
 rw[hrun];exact Fine.pure hr h2
theorem Xo {l:List UInt8} {x:Value} (hx:RV J m w (.s l) x):x=.string ⟨l.toArray⟩:=by
 have:RD J w (.s l) x:=hx;cases this;rfl
theorem Qyj {T:TypeId} (hT:P.underlying T=some .string) (hr:RS J h m w) {l:List UInt8} {x:Value} (hx:RV J m w (.s l) x)
  {I:V} {i:Value} (hi:RV J m w I i) {n:Int} (hn:idx I=some n) (h0:0<=n) {b:UInt8} (hb:l[n.toNat]?=some b) :
  Fine J m w h (.i .u8 b.toNat) ((do pure (.value (<- Instr.index T x i)):Sem Next).run P w):=by
 obtain⟨k,rfl⟩:=Q4g hi hn;have:=Xo hx;subst this;have hlt:=(q8.1 hb).1;have hb2:(ByteArray.mk l.toArray)[n.toNat]?=some b:=by
  rw[ByteArray.getElem?_lt' _ _ (by simpa[ByteArray.size]using hlt)];have:=(q8.1 hb).2;simp only[Option.some.injEq];rw[<- this];rfl
 have hrun:(do pure (.value (<- Instr.index T (.string ⟨l.toArray⟩) (.int k n))):Sem Next).run P w=.ok (.value (.int .u8 b.toNat)) w:=by
  simp[Instr.index,asIntOf,run_underlying hT,h0,hb2]
 rw[hrun];exact Fine.pure hr (Qh (Qv (.i _ _)))
theorem Ze {k:IntKind} {n:Int} {x:Value} (hx:RV J m w (.i k n) x):x=.int k n:=by
 have:RD J w (.i k n) x:=hx;cases this;rfl
theorem Ym {b:Bool} {x:Value} (hx:RV J m w (.b b) x):x=.bool b:=by
 have:RD J w (.b b) x:=hx;cases this;rfl
theorem Bg (k:IntKind) (n:Int):RV J m w (.i k n) (.int k n):=Qh (Qv (.i k n))
theorem Qfk (b:Bool):RV J m w (.b b) (.bool b):=Qh (Qv (.b b))
theorem rv_s (l:List UInt8):RV J m w (.s l) (.string ⟨l.toArray⟩):=Qh (Qv (.s l))
theorem Q1i (l:List UInt8):(ByteArray.mk l.toArray).size=l.length:=by simp[ByteArray.size]
theorem Qkh {op:BinOp} {t:TypeId} {ox oy:Operand} (hr:RS J h m w) {X Y:V} {x y:Value} (hx:RV J m w X x) (hy:RV J m w Y y) {r:V} (hs:Qzg op X Y=some r) :
  Fine J m w h r ((do pure (.value (<- (do eqGuard op t ox oy x y;binOp op t x y))):Sem Next).run P w):=by
 unfold Qzg at hs;split at hs
 ·rename_i k a k' b;have:=Ze hx;subst this;have:=Ze hy;subst this;split at hs
  ·rename_i hop;unfold Qfj at hs;split at hs
   ·simp at hs
   ·rename_i hneg;rcases hop with rfl | rfl<;>simp at hs<;>subst hs <;>
     simp only[Sem.run_bind,eqGuard_at_int,eqGuard_at_string,eqGuard_at_bool,Sem.run_pure,Result.andThen_ok,binOp,Op.shift,hneg,if_false,Sem.run_pure]<;>exact Fine.pure hr (Bg _ _)
  ·rename_i hop;split at hs
   case isFalse=>simp at hs
   rename_i hk;subst hk;simp only[not_or]at hop;simp only[Sem.run_bind,eqGuard_at_int,eqGuard_at_string,eqGuard_at_bool,Sem.run_pure,Result.andThen_ok];cases op<;>simp[Wb]at hs<;>(try (exfalso;exact hop.1 rfl))<;>(try (exfalso;exact hop.2 rfl)) <;>
    first
    | (subst hs;simp only[binOp,ne_eq,not_true,if_false,Op.intArith,Op.intCmp,Op.intBits,Sem.run_pure,Result.andThen_ok];first | exact Fine.pure hr (Bg _ _) | exact Fine.pure hr (Qfk _))
    | (obtain⟨h0,rfl⟩:=hs;simp only[binOp,ne_eq,not_true,if_false,Op.intDiv,h0,Sem.run_pure,Result.andThen_ok];exact Fine.pure hr (Bg _ _))
 ·rename_i a b;have:=Xo hx;subst this;have:=Xo hy;subst this;simp only[Sem.run_bind,eqGuard_at_int,eqGuard_at_string,eqGuard_at_bool,Sem.run_pure,Result.andThen_ok];have hsz:∀l:List UInt8,(ByteArray.mk l.toArray).size=l.length:=λl=>by simp[ByteArray.size]
  have happ:(ByteArray.mk a.toArray)++(ByteArray.mk b.toArray)=ByteArray.mk (a++b).toArray:=by
   apply ByteArray.ext;simp
  cases op<;>simp only[strV,Option.some.injEq,ja,reduceCtorEq]at hs <;>
   first
   | (subst hs;simp only[binOp,Op.stringOp,ByteArray.toList_mk,Sem.run_pure,Result.andThen_ok];exact Fine.pure hr (Qfk _))
   | (obtain⟨h0,rfl⟩:=hs
      have h1:¬ (((ByteArray.mk a.toArray).size+(ByteArray.mk b.toArray).size:Nat):Int) > IntKind.i64.max:=by rw[hsz,hsz,IntKind.max_i64];omega
      simp only[binOp,Op.stringOp,h1,if_false,Sem.run_pure,Result.andThen_ok,happ];exact Fine.pure hr (rv_s _))
 ·simp at hs
theorem Qyn {op:BinOp} {t:TypeId} {ox oy:Operand} (ht:P.underlying t=some .bool) (hop:op=.eql∨op=.neq) (hr:RS J h m w) {p q:Bool} {x y:Value} (hx:RV J m w (.b p) x) (hy:RV J m w (.b q) y) :
  Fine J m w h (.b (if op=.neq then !(p == q) else p == q)) ((do pure (.value (<- (do eqGuard op t ox oy x y;binOp op t x y))):Sem Next).run P w):=by
 have:=Ym hx;subst this;have:=Ym hy;subst this;have h1:∀w,(Op.equal t (.bool p) (.bool q)).run P w=.ok (p == q) w:=λw=>run_equalIn_bool' w 9999 t p q ht
 rcases hop with rfl | rfl
 ·have e:binOp .eql t (.bool p) (.bool q)=(do pure (.bool (<- Op.equal t (.bool p) (.bool q)))):=rfl;simp only[eqGuard_at_bool,Sem.run_bind,Sem.run_pure,Result.andThen_ok,e,h1];exact Fine.pure hr (Qfk _)
 ·have e:binOp .neq t (.bool p) (.bool q)=(do pure (.bool (!(<- Op.equal t (.bool p) (.bool q))))):=rfl;simp only[eqGuard_at_bool,Sem.run_bind,Sem.run_pure,Result.andThen_ok,e,h1];exact Fine.pure hr (Qfk _)
theorem fine_un {op:UnOp} (hr:RS J h m w) {X:V} {x:Value} (hx:RV J m w X x) {r:V} (hs:unV op X=some r) :
  Fine J m w h r ((do pure (.value (<- Op.unary op x)):Sem Next).run P w):=by
 unfold unV at hs;split at hs
 ·have:=Ym hx;subst this;cases op<;>simp at hs
  subst hs;simp only[Op.unary,Sem.run_bind,Sem.run_pure,Result.andThen_ok];exact Fine.pure hr (Qfk _)
 ·have:=Ze hx;subst this;cases op<;>simp at hs
  subst hs;simp only[Op.unary,Op.intArith,Sem.run_bind,Sem.run_pure,Result.andThen_ok];exact Fine.pure hr (by simpa using Bg _ _)
 ·simp at hs
theorem Qyp {S D:TypeId} {d:TypeDesc} {k k':IntKind} {n:Int} (hS:P.underlying S=some d) (hD:P.underlying D=some (.int k)) (hr:RS J h m w) {x:Value} (hx:RV J m w (.i k' n) x) :
  Fine J m w h (.i k (k.wrap n)) ((do pure (.value (<- convert S D x)):Sem Next).run P w):=by
 have:=Ze hx;subst this;have hrun:(do pure (.value (<- convert S D (.int k' n))):Sem Next).run P w=.ok (.value (.int k (k.wrap n))) w:=by
  simp[convert,run_underlying hS,run_underlying hD,Conv.intToInt]
 rw[hrun];exact Fine.pure hr (Bg _ _)
theorem Qyl (hr:RS J h m w) {vs:List V} {x:Value} (hx:RV J m w (.t vs) x) {i:Nat} {r:V} (hi:vs[i]?=some r) :
  Fine J m w h r ((do pure (.value (<- Instr.extract x i)):Sem Next).run P w):=by
 obtain⟨arr,rfl,hp⟩:=hx;obtain⟨c,h1,h2⟩:=hp.get hi;have h3:arr[i]?=some c:=by simpa using h1
 have hrun:(do pure (.value (<- Instr.extract (.tuple arr) i)):Sem Next).run P w=.ok (.value c) w:=by simp[Instr.extract,h3]
 rw[hrun];exact Fine.pure hr (Z7 h2)
theorem Jl {X:V} {x:Value} {sz:Nat} {els:List (List V)} (hr:RS J h m w) (hx:RV J m w X x) (he:Zr sz h X=some els) :
  ∃a cap,x=.slice a els.length cap/\els.length<=cap/\(a=none->els.length=0/\cap=0)/\(∀(i:Nat) (el:List V),els[i]?=some el->el.length=sz) /\
   ∀a',a=some a'->∃cs:Nat->Nat->Value,(∀i j,i<els.length->j<sz->w.cell? (a'.add (i*sz+j))=some (cs i j))/\∀(i:Nat) (el:List V) (j:Nat) (v:V),els[i]?=some el->el[j]?=some v->RC J m w v (cs i j):=by
 cases X<;>first | (simp[Zr]at he;done) | skip
 case nil =>
  simp only[Zr,Option.some.injEq]at he;subst he;have hx':RD J w .nil x:=hx;cases hx' with
  | nil0=>exact⟨none,0,rfl,by simp,by simp,by simp,by simp⟩
  | nil1 a=>exact⟨some a,0,rfl,by simp,by simp,by simp,λa' _=>⟨λ_ _=>undef,by simp,by simp⟩⟩
 case l sz' els' =>
  simp only[Zr,ja,Option.some.injEq]at he;obtain⟨rfl,rfl⟩:=he;have hx':RD J w (.l sz' els') x:=hx;cases hx' with
  | l0=>exact⟨none,0,rfl,by simp,by simp,by simp,by simp⟩
  | l1 _ a cap=>exact⟨some a,cap,rfl,by simp,by simp,by simp,λa' _=>⟨λ_ _=>undef,by simp,by simp⟩⟩
  | l _ _ a cap cs hj hc hsz hcell hrd =>
    refine⟨some a,cap,rfl,hc,by simp,hsz,λa' ha=>?_⟩;obtain rfl:=Option.some.inj ha;exact⟨cs,hcell,λi el j v h1 h2=>Qv (hrd i el j v h1 h2)⟩
 case own id g off len =>
  simp only[Zr]at he;split at he
  case h_2=>simp at he
  rename_i g' sz' els' ho;split at he
  case isFalse=>simp at he
  rename_i hcond;obtain⟨rfl,rfl,hle⟩:=hcond;obtain rfl:=Option.some.inj he;obtain⟨en,hen,hg,hsz,hsl,hobj⟩:=K2 hr hx ho;obtain⟨_,_,hsz',hobj⟩:=hobj;have hlen:((els'.drop off).take len).length=len:=by simp;omega
  have hgetE:∀i,((els'.drop off).take len)[i]?=if i<len then els'[off+i]? else none:=by
   intro i;rw[jf];split<;>simp
  rw[hlen];have hszE:∀(i:Nat) (el:List V),((els'.drop off).take len)[i]?=some el->el.length=sz':=by
   intro i el hi;rw[hgetE]at hi
   split at hi
   case isFalse=>simp at hi
   exact hsz' _ _ hi
  unfold Ent.sl at hsl;cases hb:en.blk with
  | none =>
    rw[hb]at hsl
    obtain⟨h1,h2,h3⟩:=hsl;subst h2;rcases h3 with rfl | ⟨a,rfl⟩
    ·exact⟨none,0,rfl,by simp,by simp,hszE,by simp⟩
    ·exact⟨some a,0,rfl,by simp,by simp,hszE,λa' _=>⟨λ_ _=>undef,by simp,by simp⟩⟩
  | some B =>
    rw[hb]at hsl hobj
    obtain⟨o,cc,rfl,h1,h2⟩:=hsl;obtain⟨h5,h5',c,ty,fz,h6,h7,h8,h9⟩:=hobj;refine⟨some ⟨B,o,none⟩,cc,rfl,by omega,by simp,hszE,λa' ha=>?_⟩;obtain rfl:=Option.some.inj ha;refine⟨λi j=>(c[(en.base+(off+i))*sz'+j]?).getD undef,λi j hi hj=>?_,λi el j v hi hj=>?_⟩
    ·have hi':i<len:=by omega
     rw[Addr.add_lit,h2 (by omega),hsz];have hlt:(en.base+off)*sz'+(i*sz'+j)=(en.base+(off+i))*sz'+j:=by
      rw[<- Nat.add_assoc,<- Nat.add_mul,Nat.add_assoc]
     rw[hlt];have hin:(en.base+(off+i))*sz'+j<c.size:=by
      rw[h7];have:=j9 sz' (show en.base+(off+i)+1<=en.base+en.cap by omega);rw[Nat.add_mul,Nat.one_mul]at this
      omega
     simp[World.cell?,h6,hin]
    ·rw[hgetE]at hi
     split at hi
     case isFalse=>simp at hi
     obtain⟨cv,h10,h11⟩:=h9 _ _ _ _ hi hj;simp[h10,h11]
theorem W8 {t ty e:TypeId} (ht:P.underlying t=some (.slice e)) (hr:RS J h m w) {X:V} {x:Value} (hx:RV J m w X x) {n:Nat}
  (hn:∃a cap,x=.slice a n cap):Fine J m w h (.i .i64 n) ((do pure (.value (<- Builtin.len_ #[t] ty #[x])):Sem Next).run P w):=by
 obtain⟨a,cap,rfl⟩:=hn;have hrun:(do pure (.value (<- Builtin.len_ #[t] ty #[.slice a n cap])):Sem Next).run P w=.ok (.value (.int .i64 n)) w:=by
  simp[Builtin.len_,run_underlying ht,goInt]
 rw[hrun];exact Fine.pure hr (Bg _ _)
theorem Qh8 {t ty:TypeId} (ht:P.underlying t=some .string) (hr:RS J h m w) {l:List UInt8} {x:Value} (hx:RV J m w (.s l) x) :
  Fine J m w h (.i .i64 l.length) ((do pure (.value (<- Builtin.len_ #[t] ty #[x])):Sem Next).run P w):=by
 have:=Xo hx;subst this;have hrun:(do pure (.value (<- Builtin.len_ #[t] ty #[.string ⟨l.toArray⟩])):Sem Next).run P w=.ok (.value (.int .i64 l.length)) w:=by
  simp[Builtin.len_,run_underlying ht,goInt,Q1i]
 rw[hrun];exact Fine.pure hr (Bg _ _)
theorem Qh9 {t ty k e:TypeId} (ht:P.underlying t=some (.map k e)) (hr:RS J h m w) {id:Nat} {x:Value} (hx:RV J m w (.mp id) x) {es:List (V × V)} (ho:h[id]?=some (.mp es)) :
  Fine J m w h (.i .i64 es.length) ((do pure (.value (<- Builtin.len_ #[t] ty #[x])):Sem Next).run P w):=by
 obtain⟨_,en,hen,_,hp⟩:=hx;have hobj:=hr.obj id en _ hen ho;simp only[RO]at hobj;obtain⟨h0,B,hB,ms,h1,h2,h3⟩:=hobj;obtain⟨B',hB',rfl⟩:=hp h0.symm;obtain rfl:=Option.some.inj (hB.symm.trans hB');have hrun:(do pure (.value (<- Builtin.len_ #[t] ty #[.map (some B)])):Sem Next).run P w=.ok (.value (.int .i64 es.length)) w:=by
  simp[Builtin.len_,run_underlying ht,goInt,getObj,Sem.run,h1,h2]
 rw[hrun];exact Fine.pure hr (Bg _ _)
theorem Qdc {t ty k e:TypeId} (ht:P.underlying t=some (.map k e)) (hr:RS J h m w) {x:Value} (hx:RV J m w .mnil x) :
  Fine J m w h (.i .i64 0) ((do pure (.value (<- Builtin.len_ #[t] ty #[x])):Sem Next).run P w):=by
 have:x=.map none:=hx;subst this;have hrun:(do pure (.value (<- Builtin.len_ #[t] ty #[.map none])):Sem Next).run P w=.ok (.value (.int .i64 0)) w:=by
  simp[Builtin.len_,run_underlying ht,goInt]
 rw[hrun];exact Fine.pure hr (Bg _ _)
theorem Qha {t ty e:TypeId} {n:Nat} (ht:P.underlying t=some (.array n e)) (hr:RS J h m w) (x:Value) :
  Fine J m w h (.i .i64 n) ((do pure (.value (<- Builtin.len_ #[t] ty #[x])):Sem Next).run P w):=by
 have hrun:(do pure (.value (<- Builtin.len_ #[t] ty #[x])):Sem Next).run P w=.ok (.value (.int .i64 n)) w:=by
  simp[Builtin.len_,run_underlying ht,goInt]
 rw[hrun];exact Fine.pure hr (Bg _ _)
end
end Go.Abs
namespace Go.Abs
open Go.RowKit
section
variable {P:Program} {J:Nat->Prop} {m:List Ent} {w:World} {h:List O}
def Qef (n sz:Nat) (cs:Nat->Nat->Value):List Value:=(List.range (n*sz)).map λq=>cs (q / sz) (q % sz)
theorem Qed (n sz:Nat) (cs:Nat->Nat->Value):(Qef n sz cs).length=n*sz:=by simp[Qef]
theorem Qee {n sz:Nat} {cs:Nat->Nat->Value} {i j:Nat} (hi:i<n) (hj:j<sz):(Qef n sz cs)[i*sz+j]?=some (cs i j):=by
 have h1:i*sz+j<n*sz:=by
  have:=j9 sz (show i+1<=n from hi);rw[Nat.add_mul,Nat.one_mul]at this;omega
 have h2:(i*sz+j) / sz=i:=by
  rw[Nat.mul_comm,Nat.mul_add_div (by omega),Nat.div_eq_of_lt hj,Nat.add_zero]
 have h3:(i*sz+j) % sz=j:=by
  rw[Nat.mul_comm,Nat.mul_add_mod,Nat.mod_eq_of_lt hj]
 simp[Qef,h1,h2,h3]
theorem Qn7 {n sz:Nat} {cs:Nat->Nat->Value} {a:Addr} (hc:∀i j,i<n->j<sz->w.cell? (a.add (i*sz+j))=some (cs i j)) :
  ∀q v,(Qef n sz cs)[q]?=some v->w.cell? (a.add q)=some v:=by
 intro q v hq;have hlt:=(q8.1 hq).1;rw[Qed]at hlt
 have hsz:0<sz:=by
  rcases Nat.eq_zero_or_pos sz with h | h
  ·subst h;simp at hlt
  ·exact h
 have h1:q / sz<n:=Nat.div_lt_of_lt_mul (by rw[Nat.mul_comm];exact hlt);have h2:q % sz<sz:=Nat.mod_lt _ hsz;have h3:=hc _ _ h1 h2;have h4:q / sz*sz+q % sz=q:=by rw[Nat.mul_comm];exact Nat.div_add_mod q sz
 rw[h4]at h3
 have h5:=Qee (n:=n) (cs:=cs) h1 h2;rw[h4,hq]at h5
 rw[h3];exact h5.symm
def Flat (R:V->Value->Prop) (sz:Nat) (els:List (List V)) (vs:List Value):Prop :=
 vs.length=els.length*sz/\(∀(i:Nat) (el:List V),els[i]?=some el->el.length=sz) /\
  ∀(i:Nat) (el:List V) (j:Nat) (x:V),els[i]?=some el->el[j]?=some x->∃cv,vs[i*sz+j]?=some cv/\R x cv
theorem Flat.nil {R:V->Value->Prop} {sz:Nat}:Flat R sz [] []:=⟨by simp,by simp,by simp⟩
theorem Flat.append {R:V->Value->Prop} {sz:Nat} {els els':List (List V)} {vs vs':List Value} (h1:Flat R sz els vs) (h2:Flat R sz els' vs'):Flat R sz (els++els') (vs++vs'):=by
 refine⟨by simp[h1.1,h2.1,Nat.add_mul],λi el hi=>?_,λi el j x hi hj=>?_⟩
 ·by_cases hlt:i<els.length
  ·rw[qd hlt]at hi;exact h1.2.1 i el hi
  ·rw[qf (by omega)]at hi;exact h2.2.1 _ el hi
 ·by_cases hlt:i<els.length
  ·rw[qd hlt]at hi
   obtain⟨cv,h3,h4⟩:=h1.2.2 i el j x hi hj;refine⟨cv,?_,h4⟩;rw[qd (q8.1 h3).1,h3]
  ·rw[qf (by omega)]at hi
   obtain⟨cv,h3,h4⟩:=h2.2.2 _ el j x hi hj;refine⟨cv,?_,h4⟩;rw[qf (by rw[h1.1];have:=j9 sz (show els.length<=i by omega);omega),h1.1,<- h3];congr 1;have:i*sz=els.length*sz+(i-els.length)*sz:=by rw[<- Nat.add_mul];congr 1;omega
   omega
theorem Flat.replicate {R:V->Value->Prop} {sz:Nat} {el:List V} {vs:Array Value} (hp:Pw R el vs.toList) (hl:el.length=sz) (n:Nat) :
  Flat R sz (List.replicate n el) (madeCells vs (n*sz)).toList:=by
 have hvl:vs.size=sz:=by rw[<- hl];simpa using hp.1.symm
 refine⟨by simp[size_madeCells],λi e hi=>?_,λi e j x hi hj=>?_⟩
 ·rw[jk]at hi
  split at hi
  case isFalse=>simp at hi
  rw[<- Option.some.inj hi];exact hl
 ·rw[jk]at hi
  split at hi
  case isFalse=>simp at hi
  rename_i hin;obtain rfl:=Option.some.inj hi;obtain⟨cv,h1,h2⟩:=hp.get hj;refine⟨cv,?_,h2⟩;have hjl:=(q8.1 hj).1;rw[hl]at hjl
  have hlt:i*sz+j<n*sz:=by
   have:=j9 sz (show i+1<=n from hin);rw[Nat.add_mul,Nat.one_mul]at this;omega
  have hmod:(i*sz+j) % sz=j:=by rw[Nat.mul_comm,Nat.mul_add_mod,Nat.mod_eq_of_lt hjl]
  have h3:vs[j]?=some cv:=by simpa using h1
  have h4:vs[j]! = cv:=by rw[getElem!_def,h3]
  simp[madeCells,hlt,hvl,hmod,h4]
theorem J5 {X:V} {x:Value} {sz:Nat} {els:List (List V)} (hr:RS J h m w) (hx:RV J m w X x) (he:Zr sz h X=some els) :
  ∃a cap vs,x=.slice a els.length cap/\els.length<=cap/\(a=none->els.length=0/\cap=0)/\Flat (RC J m w) sz els vs/\(∀a',a=some a'->∀j v,vs[j]?=some v->w.cell? (a'.add j)=some v):=by
 obtain⟨a,cap,rfl,h1,h2,h3,h4⟩:=Jl hr hx he;cases a with
 | none =>
   obtain⟨h5,h6⟩:=h2 rfl;have:els=[]:=ql h5;subst this;exact⟨none,cap,[],rfl,h1,h2,Flat.nil,by simp⟩
 | some a =>
   obtain⟨cs,h5,h6⟩:=h4 a rfl;refine⟨some a,cap,Qef els.length sz cs,rfl,h1,by simp,⟨Qed _ _ _,h3,λi el j x hi hj=>?_⟩,λa' ha=>?_⟩
   ·have hil:=(q8.1 hi).1;have hjl:=(q8.1 hj).1;rw[h3 i el hi]at hjl
    exact⟨_,Qee hil hjl,h6 i el j x hi hj⟩
   ·obtain rfl:=Option.some.inj ha;exact Qn7 h5
theorem Zq {sz n:Nat} {a:Option Addr} {len cap:Nat} {vs:List Value} (hl:vs.length=n*sz) (ha:a=none->n=0) (hc:∀a',a=some a'->∀j v,vs[j]?=some v->w.cell? (a'.add j)=some v) :
  (Builtin.firstCells sz n (.slice a len cap)).run P w=.ok vs.toArray w:=by
 cases a with
 | none =>
   have:=ha rfl;subst this;have:vs=[]:=ql (by simpa using hl);subst this;exact run_firstCells_none w _ _ _ _
 | some a=>exact run_firstCells_some w sz n a len cap vs hl (hc a rfl)
theorem En {t t' ty e e':TypeId} {i:TypeInfo} {z:Value} (ht:P.underlying t=some (.slice e)) (ht':P.underlying t'=some (.slice e')) (hi:P.info? e=some i) (hz:i.zero=some z)
  {a b:Option Addr} {sLen sCap n c:Nat} {olds news:List Value} (hlo:olds.length=sLen*i.size) (hao:a=none->sLen=0) (hco:∀a',a=some a'->∀j v,olds[j]?=some v->w.cell? (a'.add j)=some v)
  (hln:news.length=n*i.size) (hbn:b=none->n=0) (hcn:∀a',b=some a'->∀j v,news[j]?=some v->w.cell? (a'.add j)=some v)
  (hg:sCap<sLen+n) (h63:((sLen+n:Nat):Int)<=9223372036854775807) (hfit:Builtin.nextslicecap (sLen+n) sCap*i.bytes<=281474976710656) :
  (Builtin.append_ #[t,t'] ty #[.slice a sLen sCap,.slice b n c]).run P w =
   .ok (.slice (some ⟨w.heap.size,0,none⟩) (sLen+n) (grownCap w (sLen+n) sCap e))
    (w.drew.alloc (.cells (olds.toArray++news.toArray++Builtin.zeroCells z.cells (grownCap w (sLen+n) sCap e-(sLen+n))) e)):=by
 have hno:¬ sLen+n<=sCap:=by omega
 have h63':¬ (9223372036854775807<(sLen:Int)+(n:Int)):=by omega
 have hfit':¬ (Builtin.nextslicecap (sLen+n) sCap*i.bytes > 281474976710656):=by omega
 have hf:=Zq (P:=P) (w:=w.drew) (len:=n) (cap:=c) hln hbn (λa' ha j v hj=>hcn a' ha j v hj);have hfo:=Zq (P:=P) (w:=w.drew) (len:=sLen) (cap:=sCap) hlo hao (λa' ha j v hj=>hco a' ha j v hj);simp[Builtin.append_,run_underlying ht,run_underlying ht',sizeOf,typeInfo,zeroValue,hi,hz,Builtin.lenOf,hno,h63',hfit',Question.forced,hf,hfo,newRow,grownCap];congr 2;apply Array.ext';simp
theorem Q8z {t t' ty e e':TypeId} {i:TypeInfo} (ht:P.underlying t=some (.slice e)) (ht':P.underlying t'=some (.slice e')) (hi:P.info? e=some i)
  {B o sLen sCap n c:Nat} {b:Option Addr} {news:List Value} {cur:Array Value} {fz:Nat × Nat} {ty':TypeId}
  (hln:news.length=n*i.size) (hbn:b=none->n=0) (hcn:∀a',b=some a'->∀j v,news[j]?=some v->w.cell? (a'.add j)=some v)
  (hg:sLen+n<=sCap) (hB:w.heap[B]?=some (.cells cur ty' fz)) (hfit:o+sLen*i.size+news.length<=cur.size) (h1:∀v∈news,v.oneCell'=true) (hz:∀k,k<cur.size->¬ (fz.1<=k/\k<fz.2)) :
  (Builtin.append_ #[t,t'] ty #[.slice (some ⟨B,o,none⟩) sLen sCap,.slice b n c]).run P w =
   .ok (.slice (some ⟨B,o,none⟩) (sLen+n) sCap) (w.setRow B (cur.toList.take (o+sLen*i.size)++news++cur.toList.drop (o+sLen*i.size+news.length)).toArray):=by
 have hf:=Zq (P:=P) (w:=w) (len:=n) (cap:=c) hln hbn hcn;have hst:=Zv (P:=P) B (o+sLen*i.size) ty' fz news 0 cur w hB (by omega) h1 hz;simp only[Nat.add_zero]at hst;simp[Builtin.append_,run_underlying ht,run_underlying ht',sizeOf,typeInfo,hi,Builtin.lenOf,hg,hf,Addr.add_lit,hst]
theorem E4 {t t' ty e e':TypeId} {i:TypeInfo} (ht:P.underlying t=some (.slice e)) (ht':P.underlying t'=some (.slice e')) (hi:P.info? e=some i) (a b:Option Addr) (sCap c:Nat) :
  (Builtin.append_ #[t,t'] ty #[.slice a 0 sCap,.slice b 0 c]).run P w=.ok (.slice a 0 sCap) w:=by
 have hf:∀w,(Builtin.firstCells i.size 0 (.slice b 0 c)).run P w=.ok #[] w:=λw=>by
  cases b with
  | none=>exact run_firstCells_none w _ _ _ _
  | some b=>exact run_firstCells_some w _ 0 b 0 c [] (by simp) (by simp)
 cases a<;>simp[Builtin.append_,run_underlying ht,run_underlying ht',sizeOf,typeInfo,hi,Builtin.lenOf,hf,storeCells]
end
end Go.Abs
