/- Part of the library on which the proof stands: an abstract machine, its values and its soundness against the model; or what functions of the program do to such values. -/
import Derived.Test.YtnaehggpjfdenaaGreatAbsKZ
import Derived.WalkSpells
import Derived.Lib.SliceRun
set_option linter.unusedVariables false
set_option linter.unusedSimpArgs false
namespace Go.Abs
open Go.RowKit
def Qg3:Operand->Operand->Bool
 | .tmp t,.tmp u=>t == u
 | .const (.int k n),.const (.int k' n')=>k == k' && n == n'
 | _,_=>false
def Qjz:Option TypeDesc->Bool
 | some (.int .u8)=>true
 | _=>false
def Qxk:Operand->Bool
 | .const _=>true
 | _=>false
def Qgx:Operand->Bool
 | .const (.slice none _ _)=>true
 | _=>false
def szT (P:Program) (T:TypeId):Option Nat:=(P.info? T).map (·.size)
def Qek (P:Program) (imm:Bool) (o:Oper):Option I :=
 match o.op with
 | .move x | .assign x=>some (.mv (cvA x))
 | .pick c a b=>some (.pick (cvA c) (cvA a) (cvA b))
 | .alloc T=>(zc P T).map .alloc
 | .box _ x=>some (.box (cvA x))
 | .build T parts=>match P.underlying T,zc P T with
   | some (.struct fs),some z=>if fs.toList.all (λf=>(P.info? f.type).isSome) then
     (parts.toList.mapM λ(p:Nat × Operand)=>(fs[p.1]?).bind λf=>(szT P f.type).map λs=>(f.offset,s,cvA p.2)).map (.build z) else none
   | some (.array _ e),some z=>(szT P e).map λs=>.build z (parts.toList.map λ(p:Nat × Operand)=>(p.1*s,s,cvA p.2))
   | _,_=>none
 | .buildSlice T len parts=>match P.underlying T with
   | some (.slice e)=>match P.info? e,zc P e with
     | some i,some z=>if len*i.size<=16777216/\len<=16777216/\z.length=i.size then
       some (if (imm && z.all V.flat)=true then .bsi i.size len z (parts.toList.map λ(p:Nat × Operand)=>(p.1,cvA p.2)) else .bso i.size len z (parts.toList.map λ(p:Nat × Operand)=>(p.1,cvA p.2))) else none
     | _,_=>none
   | _=>none
 | .load T x=>(Q4v P T).map λn=>.ld n (cvA x)
 | .store T x y=>(szT P T).map λn=>.st n (cvA x) (cvA y)
 | .fieldAddr S x f=>match P.underlying S with
   | some (.struct fs)=>match fs[f]? with
     | some fd=>match szT P fd.type with
       | some n=>if 0<n then some (.fa fd.offset (cvA x)) else none
       | none=>none
     | none=>none
   | _=>none
 | .field S x f=>match P.underlying S with
   | some (.struct fs)=>match fs[f]? with
     | some fd=>(Q4v P fd.type).map λn=>.fld fd.offset n (cvA x)
     | none=>none
   | _=>none
 | .indexAddr T x i=>match P.underlying T with
   | some (.slice e)=>(szT P e).map λs=>.ia s (cvA x) (cvA i)
   | some (.array n e)=>(szT P e).map λs=>.iaa n s (cvA x) (cvA i)
   | _=>none
 | .index T x i=>match P.underlying T with
   | some (.array n e)=>match szT P e,Q4v P e with
     | some s,some k=>some (.ix n s k (cvA x) (cvA i))
     | _,_=>none
   | some .string=>some (.ixs (cvA x) (cvA i))
   | _=>none
 | .binOp op T x y _=>match P.underlying T with
   | some (.int _) | some .string=>some (.bin op (cvA x) (cvA y))
   | some .bool=>if op=.eql∨op=.neq then some (.eqb (op=.neq) (cvA x) (cvA y)) else none
   | some (.struct _) | some (.array _ _)=>if (op=.eql∨op=.neq)/\P.eqGuardType P.depth T=false then (flatK P 20 T).map λks=>.eqa ks (op=.neq) (cvA x) (cvA y) else none
   | some (.slice _)=>if (op=.eql∨op=.neq)/\Qgx y=true then some (.isn (op=.neq) (cvA x)) else none
   | _=>none
 | .unOp op _ x=>some (.un op (cvA x))
 | .convert S D x=>match P.underlying S,P.underlying D with
   | some _,some (.int k)=>some (.cvi k (cvA x))
   | some .string,some (.slice e)=>if Qjz (P.underlying e) then some (.s2b (cvA x)) else none
   | some (.slice e),some .string=>if Qjz (P.underlying e) then some (.b2s (cvA x)) else none
   | _,_=>none
 | .makeSlice T l c=>if Qg3 l c then match P.underlying T with
   | some (.slice e)=>match P.info? e,zc P e with
     | some i,some z=>if z.length=i.size then some (if imm then .mki i.size i.bytes z (cvA l) else .mks i.size i.bytes z (cvA l)) else none
     | _,_=>none
   | _=>none else none
 | .slice T x lo hi mx=>match P.underlying T with
   | some (.slice e)=>match mx with
     | none=>(szT P e).map λs=>.slc s (cvA x) (lo.map cvA) (hi.map cvA)
     | some k=>if hi.isSome then (szT P e).map λs=>.slc3 s (cvA x) (lo.map cvA) (hi.map cvA) (cvA k) else none
   | some .string=>if mx.isSome then none else some (.slcs (cvA x) (lo.map cvA) (hi.map cvA))
   | some (.array n e)=>if lo.isSome∨hi.isSome∨mx.isSome then none else (szT P e).map λs=>.sla s n (cvA x)
   | _=>none
 | .extract t i=>some (.ext (cvA t) i)
 | .nilCheck x=>some (.nck (cvA x))
 | .makeFunc (.func f) first caps=>if first.isEmpty then some (.mkf f (caps.toList.map cvA)) else none
 | .call c=>match c.callee with
   | .builtin .len=>match c.args.toList,c.argTypes.toList with
     | [x],[t]=>match P.underlying t with
       | some (.slice _)=>some (.len 0 (cvA x))
       | some .string=>some (.len 1 (cvA x))
       | some (.map _ _)=>some (.len 2 (cvA x))
       | some (.array n _)=>some (.mv (.c (.i .i64 n)))
       | _=>none
     | _,_=>none
   | .builtin .append=>match c.args.toList,c.argTypes.toList with
     | [s,x],[t,t']=>match P.underlying t,P.underlying t' with
       | some (.slice e),some (.slice _)=>match P.info? e,zc P e with
         | some i,some z=>if z.length=i.size then some (.app i.size i.bytes (cvA s) (cvA x)) else none
         | _,_=>none
       | some (.slice e),some (.int _)=>match P.info? e,zc P e with
         | some i,some z=>if z.length=i.size then some (.apz i.size i.bytes z (cvA s) (cvA x)) else none
         | _,_=>none
       | _,_=>none
     | _,_=>none
   | .builtin .copy=>match c.args.toList,c.argTypes.toList with
     | [x,y],[t,_]=>match P.underlying t with
       | some (.slice e)=>(szT P e).map λs=>.copy s (cvA x) (cvA y)
       | _=>none
     | _,_=>none
   | .builtin .delete=>match c.args.toList,c.argTypes.toList with
     | [x,k],[t,_]=>match P.underlying t with
       | some (.map kt _)=>(J0 P kt).map λks=>.mdel ks (cvA x) (cvA k)
       | _=>none
     | _,_=>none
   | .builtin .max=>some (.mx (c.args.toList.map cvA))
   | .builtin .min=>some (.mn (c.args.toList.map cvA))
   | _=>none
 | .makeMap T r=>match P.underlying T with
   | some (.map _ _)=>some (.mkm (r.map cvA))
   | _=>none
 | .lookup T x k ok=>match P.underlying T with
   | some (.map kt et)=>match J0 P kt,zV P et with
     | some ks,some z=>some (.lk ks z ok (cvA x) (cvA k))
     | _,_=>none
   | _=>none
 | .mapUpdate T x k v=>match P.underlying T with
   | some (.map kt _)=>(J0 P kt).map λks=>.mup ks (cvA x) (cvA k) (cvA v)
   | _=>none
 | .insert T x k v=>match P.underlying T with
   | some (.map kt _)=>(J0 P kt).map λks=>.mup ks (cvA x) (cvA k) (cvA v)
   | _=>none
 | .mapEntry T x k=>match P.underlying T with
   | some (.map kt et)=>match J0 P kt,zV P et with
     | some ks,some z=>some (.ment ks z (cvA x) (cvA k))
     | _,_=>none
   | _=>none
 | .entryStore _ x s v=>some (.est (cvA x) (cvA s) (cvA v))
 | .range T x=>match P.underlying T with
   | some (.map _ _)=>some (.mrng (cvA x))
   | _=>none
 | .entry x=>some (.men (cvA x))
 | _=>none
section
variable {P:Program} {J:Nat->Prop} {m:List Ent} {w:World} {h:List O}
theorem Qyo {op:BinOp} {t:TypeId} {ox oy:Operand} {ks:List Nat} (hop:op=.eql∨op=.neq) (hg:P.eqGuardType P.depth t=false) (hk:flatK P 20 t=some ks) (hagg:(∃fs,P.underlying t=some (.struct fs))∨∃n e,P.underlying t=some (.array n e))
  (hr:RS J h m w) {p q:List V} {x y:Value} (hx:RV J m w (.a p) x) (hy:RV J m w (.a q) y) {r:Bool} (hv:Zi ks p q=some r) :
  Fine J m w h (.b (if op=.neq then !r else r)) ((do pure (.value (<- (do eqGuard op t ox oy x y;binOp op t x y))):Sem Next).run P w):=by
 obtain⟨xs,rfl,hp⟩:=hx;obtain⟨ys,rfl,hq⟩:=hy;have h1:=Q2p (P:=P) (J:=J) (m:=m) (w:=w) 20 t ks hk 10000 (by omega) p q xs.toList ys.toList r hp hq hv;have hm:∀cs:Array Value,mkT P t cs.toList=.agg cs:=by
  intro cs;rcases hagg with⟨fs,hu⟩ | ⟨n,e,hu⟩<;>simp[mkT,hu]
 rw[hm,hm]at h1
 have h2:∀op,(eqGuard op t ox oy (.agg xs) (.agg ys)).run P w=.ok () w:=λop=>run_eqGuard_agg w op t ox oy xs ys hg
 rcases hop with rfl | rfl
 ·simp only[Sem.run_bind,h2,Result.andThen_ok,run_eql_struct,h1,Sem.run_pure];exact Fine.pure hr (Qfk _)
 ·simp only[Sem.run_bind,h2,Result.andThen_ok,run_neq_struct,h1,Sem.run_pure];exact Fine.pure hr (Qfk _)
theorem Qp0 {a:Act} {y:Operand} (hy:Qgx y=true):∃n c,a.eval y=.slice none n c:=by
 unfold Qgx at hy;split at hy
 ·exact⟨_,_,rfl⟩
 ·simp at hy
theorem Qkd {op:BinOp} {t e:TypeId} {ox oy:Operand} (hop:op=.eql∨op=.neq) (hu:P.underlying t=some (.slice e)) {y:Value} (hy:∃n c,y=.slice none n c)
  (hr:RS J h m w) (ad:Option Addr) (n c:Nat) :
  Fine J m w h (.b (if op=.neq then !ad.isNone else ad.isNone)) ((do pure (.value (<- (do eqGuard op t ox oy (.slice ad n c) y;binOp op t (.slice ad n c) y))):Sem Next).run P w):=by
 obtain⟨n',c',rfl⟩:=hy;have h1:(eqGuard op t ox oy (.slice ad n c) (.slice none n' c')).run P w=.ok () w:=by
  rcases hop with rfl | rfl<;>simp[eqGuard,Program.eqGuardType,hu]
 rcases hop with rfl | rfl
 ·simp only[Sem.run_bind,h1,Result.andThen_ok,Lib.run_eql_slice_nil w t e ad n c n' c' hu,Sem.run_pure];exact Fine.pure hr (Qfk _)
 ·simp only[Sem.run_bind,h1,Result.andThen_ok,run_neq_slice_nil_any w t e ad n c n' c' hu,Sem.run_pure];exact Fine.pure hr (Qfk _)
theorem J6 {lo hi:Option Value} {LO HI:Option V} {len cap a b:Nat} {mx:Value} {k:IntKind} {c:Int} (hlo:LO.isSome=lo.isSome) (hlo2:∀V' v,LO=some V'->lo=some v->RV J m w V' v)
  (hhi:HI.isSome=hi.isSome) (hhi2:∀V' v,HI=some V'->hi=some v->RV J m w V' v) (hhis:HI.isSome=true) (ha:bnd LO 0=some a) (hb:bnd HI len=some b) (hab:a<=b) (hbc:b<=c.toNat) (hmx:mx=.int k c) (h0:0<=c) (hcc:c.toNat<=cap) :
  (Instr.sliceBounds true len cap lo hi (some mx)).run P w=.ok (a,b,c.toNat) w:=by
 have h1:=Qhs hlo hlo2 ha;have h2:=Qhs hhi hhi2 hb;cases hi with
 | none=>rw[hhi]at hhis;simp at hhis
 | some y =>
   simp only at h2;obtain⟨k',n',rfl,q2,rfl⟩:=h2;cases lo with
   | none =>
     simp only at h1;subst h1;simp[Instr.sliceBounds,Zd hmx h0 hcc,Zd rfl q2 hbc]
   | some x =>
     simp only at h1;obtain⟨k2,n2,rfl,q1,rfl⟩:=h1;simp[Instr.sliceBounds,Zd hmx h0 hcc,Zd rfl q2 hbc,Zd rfl q1 hab]
theorem Zp {T e:TypeId} {sz:Nat} (hT:P.underlying T=some (.slice e)) (he:(P.info? e).map (·.size)=some sz) {x:Option Addr} {len cap a b c:Nat} {lo hi:Option Value} {mx:Value}
  (hb:(Instr.sliceBounds true len cap lo hi (some mx)).run P w=.ok (a,b,c) w) :
  (do pure (.value (<- Instr.sliceAt T (.slice x len cap) lo hi (some mx))):Sem Next).run P w=.ok (.value (.slice (if c=a then x else x.map (·.add (a*sz))) (b-a) (c-a))) w:=by
 simp[Instr.sliceAt,Instr.slice,run_underlying hT,hb,Qr he]
theorem Qdb {T e:TypeId} {sz:Nat} (hT:P.underlying T=some (.slice e)) (he:(P.info? e).map (·.size)=some sz) (hr:RS J h m w) {x:Value} (hx:RV J m w .nil x)
  {lo hi:Option Value} {LO HI:Option V} (hlo:LO.isSome=lo.isSome) (hlo2:∀V' v,LO=some V'->lo=some v->RV J m w V' v)
  (hhi:HI.isSome=hi.isSome) (hhi2:∀V' v,HI=some V'->hi=some v->RV J m w V' v) (hhis:HI.isSome=true) (ha:bnd LO 0=some 0) (hb:bnd HI 0=some 0) {mx:Value} {k:IntKind} {c:Int} (hmx:RV J m w (.i k c) mx) (hc:c=0) :
  Fine J m w h .nil ((do pure (.value (<- Instr.sliceAt T x lo hi (some mx))):Sem Next).run P w):=by
 subst hc;have q:(Instr.sliceBounds true 0 0 lo hi (some mx)).run P w=.ok (0,0,0) w :=
  J6 (c:=0) hlo hlo2 hhi hhi2 hhis ha hb (Nat.le_refl _) (Nat.le_refl _) (Ze hmx) (Int.le_refl _) (Nat.le_refl _)
 have hx':RD J w .nil x:=hx;cases hx' with
 | nil0 =>
   rw[Zp hT he q];exact Fine.pure hr RD.nil0
 | nil1 ad =>
   rw[Zp hT he q];exact Fine.pure hr (RD.nil1 ad)
theorem Qda {T e:TypeId} {sz:Nat} (hT:P.underlying T=some (.slice e)) (he:(P.info? e).map (·.size)=some sz) (hr:RS J h m w) {id g off len:Nat} {x:Value} (hx:RV J m w (.own id g off len) x)
  {els:List (List V)} (ho:h[id]?=some (.arr g sz els)) {lo hi:Option Value} {LO HI:Option V} {a b:Nat} (hlo:LO.isSome=lo.isSome) (hlo2:∀V' v,LO=some V'->lo=some v->RV J m w V' v)
  (hhi:HI.isSome=hi.isSome) (hhi2:∀V' v,HI=some V'->hi=some v->RV J m w V' v) (hhis:HI.isSome=true) (ha:bnd LO 0=some a) (hb:bnd HI len=some b) (hab:a<=b) (hbl:b<=len)
  {mx:Value} {k:IntKind} {c:Int} (hmx:RV J m w (.i k c) mx) (hc:c=len) :
  Fine J m w h (.own id g (off+a) (b-a)) ((do pure (.value (<- Instr.sliceAt T x lo hi (some mx))):Sem Next).run P w):=by
 subst hc;have hg1:1<=g/\∀en,m[id]?=some en->g<=en.gen:=by
  obtain⟨_,en,h1,h3,_⟩:=hx;exact⟨h3.1,λen' h4=>by obtain rfl:=Option.some.inj (h1.symm.trans h4);exact h3.2⟩
 obtain⟨en,hen,hg,hsz,hsl,hobj⟩:=K2 hr hx ho;have hgg:=hg1.2 en hen;unfold Ent.sl at hsl;cases hbk:en.blk with
 | none =>
   rw[hbk]at hsl
   obtain⟨q1,q2,q3⟩:=hsl;have hb0:b=0:=by omega
   have ha0:a=0:=by omega
   subst hb0;subst ha0;subst q1;subst q2;have q:(Instr.sliceBounds true 0 0 lo hi (some mx)).run P w=.ok (0,0,0) w :=
    J6 (c:=0) hlo hlo2 hhi hhi2 hhis ha hb (Nat.le_refl _) (Nat.le_refl _) (Ze hmx) (Int.le_refl _) (Nat.le_refl _)
   rcases q3 with rfl | ⟨ad,rfl⟩
   ·rw[Zp hT he q];exact Fine.pure hr ⟨rfl,en,hen,⟨hg1.1,hgg⟩,λ_=>by unfold Ent.sl;rw[hbk];exact⟨rfl,rfl,.inl (by simp)⟩⟩
   ·rw[Zp hT he q];exact Fine.pure hr ⟨rfl,en,hen,⟨hg1.1,hgg⟩,λ_=>by unfold Ent.sl;rw[hbk];exact⟨rfl,rfl,.inr ⟨ad,by simp⟩⟩⟩
 | some B =>
   rw[hbk]at hsl
   obtain⟨o,cc,rfl,q1,q2⟩:=hsl;rw[Zp hT he (J6 hlo hlo2 hhi hhi2 hhis ha hb hab (by omega) (Ze hmx) (by omega) (by omega))];rw[show ((len:Int)).toNat=len by omega];by_cases hc:len=a
   ·rw[if_pos hc];refine Fine.pure hr ⟨rfl,en,hen,⟨hg1.1,hgg⟩,λ_=>?_⟩;unfold Ent.sl;rw[hbk];exact⟨o,len-a,rfl,by omega,λhlt=>by omega⟩
   ·rw[if_neg hc];refine Fine.pure hr ⟨rfl,en,hen,⟨hg1.1,hgg⟩,λ_=>?_⟩;unfold Ent.sl;rw[hbk];refine⟨o+a*sz,len-a,?_,by omega,λhlt=>?_⟩
    ·simp only[Option.map_some,Addr.add_lit]
    ·rw[q2 (by omega),<- hsz,<- Nat.add_mul,Nat.add_assoc]
theorem Qom {T:TypeId} {z:List V} {i:TypeInfo} (hi:P.info? T=some i) (hz:zc P T=some z) (hl:z.length=i.size) :
  ∃v,i.zero=some v/\v.cells.size=i.size/\∀(J:Nat->Prop) m w,Pw (RC J m w) z v.cells.toList:=by
 unfold zc at hz;simp only[qr]at hz;obtain⟨i',hi',v,hv,hm⟩:=hz;obtain rfl:=Option.some.inj (hi.symm.trans hi');have hp:∀(J:Nat->Prop) m w,Pw (RC J m w) z v.cells.toList:=λJ m w=>Q2f hm
 refine⟨v,hv,?_,hp⟩;have:=(hp (λ_=>False) [] default).1;simp at this;omega
theorem isU8 {e:TypeId} (hh:Qjz (P.underlying e)=true):P.underlying e=some (.int .u8):=by
 revert hh
 cases P.underlying e with
 | none=>simp[Qjz]
 | some d=>cases d<;>simp[Qjz];rename_i k;cases k<;>simp
theorem W6 {α β:Type} {f:α->Option β}:∀{l:List α} {r:List β},l.mapM f=some r->r.length=l.length/\∀(k:Nat) (b:β),r[k]?=some b->∃a,l[k]?=some a/\f a=some b
 | [],r,h=>by simp at h;subst h;simp
 | a::l,r,h=>by
   simp only[List.mapM_cons,Option.bind_eq_bind,qr,Option.pure_def,Option.some.injEq]at h;obtain⟨b,hb,r',hr',rfl⟩:=h;obtain⟨h1,h2⟩:=W6 hr';refine⟨by simp[h1],λk c hk=>?_⟩;cases k with
   | zero=>simp at hk;subst hk;exact⟨a,rfl,hb⟩
   | succ k=>simp at hk;obtain⟨a',h3,h4⟩:=h2 k c hk;exact⟨a',by simpa using h3,h4⟩
theorem Qum {imm:Bool} {o:Oper} {i:I} (hc:Qek P imm o=some i) {a:Act} {ev:A->V} (hcst:∀v,ev (.c v)=v) (hev:∀x,RV J m w (ev (cvA x)) (a.eval x)) (hrs:RS J h m w) {r:V} {h':List O} (hs:Q3 i ev h=some (r,h')) :
  Fine J m w h' r ((execOp a.eval o).run P w):=by
 unfold Qek at hc;split at hc<;>rename_i ho
 -- move
 ·obtain rfl:=Option.some.inj hc;simp only[Q3,Option.some.injEq,Prod.mk.injEq]at hs;obtain⟨rfl,rfl⟩:=hs;simp only[execOp,ho,Sem.run_pure];exact Fine.pure hrs (hev _)
 ·obtain rfl:=Option.some.inj hc;simp only[Q3,Option.some.injEq,Prod.mk.injEq]at hs;obtain⟨rfl,rfl⟩:=hs;simp only[execOp,ho,Sem.run_pure];exact Fine.pure hrs (hev _)
 -- pick
 ·rename_i c x y;obtain rfl:=Option.some.inj hc;simp only[Q3]at hs;split at hs
  case h_2=>simp at hs
  rename_i t ht;simp only[Option.some.injEq,Prod.mk.injEq]at hs;obtain⟨rfl,rfl⟩:=hs;have h1:=hev c;rw[ht]at h1
  have h2:=Ym h1;simp only[execOp,ho,h2,asBool,Sem.run_bind,Sem.run_pure,Result.andThen_ok];refine Fine.pure hrs ?_;cases t
  ·exact hev _
  ·exact hev _
 -- alloc
 ·rename_i T;simp only[qa]at hc;obtain⟨z,hz,rfl⟩:=hc;simp only[Q3,Option.some.injEq,Prod.mk.injEq]at hs;obtain⟨rfl,rfl⟩:=hs;simp only[execOp,ho];exact Qnb hrs hz
 -- box
 ·rename_i T x;obtain rfl:=Option.some.inj hc;simp only[execOp,ho];have h1:=hev x;have key:(ev (cvA x)).okA=true/\r=.p h.length 1 0 0/\h'=h++[.arr 1 (ev (cvA x)).cells.length [(ev (cvA x)).cells]]:=by
   simp only[Q3]at hs;generalize ev (cvA x)=X at *
   cases X<;>simp at hs<;>(obtain⟨rfl,rfl⟩:=hs;exact⟨rfl,rfl,rfl⟩)
  obtain⟨h2,rfl,rfl⟩:=key;exact Qys hrs h1 h2 T
 -- build
 ·rename_i T parts;simp only[execOp,ho];split at hc
  ·rename_i fs z hu hz;split at hc
   case isFalse=>simp at hc
   rename_i hall;simp only[qa]at hc;obtain⟨ps,hps,rfl⟩:=hc;simp only[Q3,qa,Prod.mk.injEq]at hs;obtain⟨cs,hcs,rfl,rfl⟩:=hs;obtain⟨hl,hget⟩:=W6 hps;refine Qhb hu hz (λf hf=>qj.1 hall f hf) hrs (ps:=ps.map λx=>(x.1,x.2.1,ev x.2.2)) (by simp[hl]) (λk o s X i v hk hv=>?_) hcs;simp only[qp,qa]at hk;obtain⟨q,hq,hqe⟩:=hk;obtain⟨p,hp,hpf⟩:=hget k q hq;simp only[qr,qa]at hpf
   obtain⟨f,hf,s',hs',rfl⟩:=hpf;simp only[Prod.mk.injEq]at hqe;obtain⟨rfl,rfl,rfl⟩:=hqe;simp[hp]at hv
   obtain⟨rfl,rfl⟩:=hv;exact⟨⟨f,hf,rfl,hs'⟩,hev _⟩
  ·rename_i n e z hu hz;simp only[qa]at hc;obtain⟨s,hsz,rfl⟩:=hc;simp only[Q3,qa,Prod.mk.injEq]at hs;obtain⟨cs,hcs,rfl,rfl⟩:=hs;refine Qhc hu hz hsz hrs (by simp) (λk o s' X i v hk hv=>?_) hcs;simp only[List.map_map,qp,qa]at hk;obtain⟨p,hp,hpe⟩:=hk;simp only[Function.comp,Prod.mk.injEq]at hpe;obtain⟨rfl,rfl,rfl⟩:=hpe;have hp':parts[k]?=some p:=by simpa using hp
   simp[hp']at hv
   obtain⟨rfl,rfl⟩:=hv;exact⟨⟨rfl,rfl⟩,hev _⟩
  ·simp at hc
 -- buildSlice
 ·rename_i T len parts;simp only[execOp,ho];split at hc
  case h_2=>simp at hc
  rename_i e hu;split at hc
  case h_2=>simp at hc
  rename_i inf z hi hz;split at hc
  case isFalse=>simp at hc
  rename_i hcond;obtain⟨hl1,hl2,hl3⟩:=hcond;obtain⟨v,hv1,hv2,hv3⟩:=Qom hi hz hl3;have hk:∀(k:Nat) i X i' v,((parts.toList.map λ(p:Nat × Operand)=>(p.1,cvA p.2)).map λ(x:Nat × A)=>(x.1,ev x.2))[k]?=some (i,X)->((parts.map λ(x:Nat × Operand)=>(x.1,a.eval x.2))).toList[k]?=some (i',v)->i=i'/\RV J m w X v:=by
   intro k i X i' v hk hv;simp only[List.map_map,qp,qa]at hk;obtain⟨p,hp,hpe⟩:=hk;simp only[Function.comp,Prod.mk.injEq]at hpe;obtain⟨rfl,rfl⟩:=hpe;have hp':parts[k]?=some p:=by simpa using hp
   simp[hp']at hv
   obtain⟨rfl,rfl⟩:=hv;exact⟨rfl,hev _⟩
  generalize (imm && z.all V.flat)=imm at hc;cases imm
  ·obtain rfl:=Option.some.inj hc;simp only[Bool.false_eq_true,if_false,Q3,qa]at hs;obtain⟨es,hes,hs⟩:=hs;have:=Qyq (P:=P) (qs:=parts.map λ(x:Nat × Operand)=>(x.1,a.eval x.2)) hu hi hv1 hv3 hl3 hl1 hl2 hrs (by simp) hk hes;by_cases h0:len=0
   ·simp only[h0,if_true,Prod.mk.injEq]at hs this;obtain⟨rfl,rfl⟩:=hs;rw[h0];exact this
   ·simp only[h0,if_false,Prod.mk.injEq]at hs this;obtain⟨rfl,rfl⟩:=hs;exact this
  ·obtain rfl:=Option.some.inj hc;simp only[if_true,Q3,qr,ja,Option.some.injEq,Prod.mk.injEq]at hs;obtain⟨es,hes,hd,rfl,rfl⟩:=hs;exact Qyr (P:=P) (qs:=parts.map λ(x:Nat × Operand)=>(x.1,a.eval x.2)) hu hi hv1 hv3 hl3 hl1 hrs (by simp) hk hes hd
 -- load
 ·rename_i T x;simp only[qa]at hc;obtain⟨n,hT,rfl⟩:=hc;simp only[Q3,qa,Prod.mk.injEq]at hs;obtain⟨v,hv,rfl,rfl⟩:=hs;simp only[execOp,ho];exact Qpe hT hrs (hev x) hv
 -- store
 ·rename_i T x y;simp only[qa]at hc;obtain⟨n,hT,rfl⟩:=hc;simp only[execOp,ho];have h1:=hev x;have h2:=hev y;simp only[Q3]at hs;split at hs
  case h_2=>simp at hs
  rename_i id g e j hX;rw[hX]at h1
  split at hs
  case h_2=>simp at hs
  rename_i g' sz els hO;split at hs
  case h_2=>simp at hs
  rename_i cs hE;split at hs
  case isFalse=>simp at hs
  rename_i hcond;obtain⟨rfl,hn,hj,hok⟩:=hcond;simp only[Option.some.injEq,Prod.mk.injEq]at hs;obtain⟨rfl,rfl⟩:=hs;exact fine_st hT hrs h1 h2 hO hE hn hj hok
 -- fieldAddr
 ·rename_i S x f;split at hc
  case h_2=>simp at hc
  rename_i fs hu;split at hc
  case h_2=>simp at hc
  rename_i fd hfd;split at hc
  case h_2=>simp at hc
  rename_i n hn;split at hc
  case isFalse=>simp at hc
  rename_i hpos;obtain rfl:=Option.some.inj hc;simp only[execOp,ho];have h1:=hev x;simp only[Q3]at hs;split at hs
  ·rename_i id g e j hX;rw[hX]at h1
   split at hs
   case h_2=>simp at hs
   rename_i g' sz els hO;split at hs
   case isFalse=>simp at hs
   rename_i hg;subst hg;simp only[Option.some.injEq,Prod.mk.injEq]at hs;obtain⟨rfl,rfl⟩:=hs;exact Qsj hu hfd hn hpos hrs h1 hO
  ·rename_i cs hX;rw[hX]at h1
   simp only[Option.some.injEq,Prod.mk.injEq]at hs;obtain⟨rfl,rfl⟩:=hs;exact Qna hu hfd hn hpos hrs h1
  ·simp at hs
 -- field
 ·rename_i S x f;split at hc
  case h_2=>simp at hc
  rename_i fs hu;split at hc
  case h_2=>simp at hc
  rename_i fd hfd;simp only[qa]at hc;obtain⟨n,hT,rfl⟩:=hc;simp only[execOp,ho];have h1:=hev x;simp only[Q3]at hs;split at hs
  case h_2=>simp at hs
  rename_i cs hX;rw[hX]at h1
  split at hs
  case isFalse=>simp at hs
  rename_i hle;simp only[qa,Prod.mk.injEq]at hs;obtain⟨v,hv,rfl,rfl⟩:=hs;exact Qyk hu hfd hT hrs h1 hle hv
 -- indexAddr
 ·rename_i T x ix;simp only[execOp,ho];have h1:=hev x;have h2:=hev ix;split at hc
  ·rename_i e hu;simp only[qa]at hc;obtain⟨s,hsz,rfl⟩:=hc;simp only[Q3]at hs;split at hs
   ·rename_i n sz els hI hX;rw[hX]at h1
    split at hs
    case isFalse=>simp at hs
    rename_i hcond;obtain⟨rfl,h0⟩:=hcond;simp only[qa,Prod.mk.injEq]at hs;obtain⟨el,hel,rfl,rfl⟩:=hs;exact Qsi hu hsz hrs h1 h2 hI h0 hel
   ·rename_i n id g off len hI hX;rw[hX]at h1
    split at hs
    case h_2=>simp at hs
    rename_i g' sz els hO;split at hs
    case isFalse=>simp at hs
    rename_i hcond;obtain⟨rfl,rfl,h0,hlt⟩:=hcond;simp only[Option.some.injEq,Prod.mk.injEq]at hs;obtain⟨rfl,rfl⟩:=hs;exact Qkf hu hsz hrs h1 hO h2 hI h0 hlt
   ·simp at hs
  ·rename_i n0 e hu;simp only[qa]at hc;obtain⟨s,hsz,rfl⟩:=hc;simp only[Q3]at hs;split at hs
   ·rename_i n id g e' j hI hX;rw[hX]at h1
    split at hs
    case h_2=>simp at hs
    rename_i g' sz els hO;split at hs
    case isFalse=>simp at hs
    rename_i hcond;obtain⟨rfl,h0,hlt⟩:=hcond;simp only[Option.some.injEq,Prod.mk.injEq]at hs;obtain⟨rfl,rfl⟩:=hs;exact Qn9 hu hsz hrs h1 hO h2 hI h0 hlt
   ·rename_i n cs hI hX;rw[hX]at h1
    split at hs
    case isFalse=>simp at hs
    rename_i hcond;simp only[Option.some.injEq,Prod.mk.injEq]at hs;obtain⟨rfl,rfl⟩:=hs;exact Qke hu hsz hrs h1 h2 hI hcond.1 hcond.2
   ·simp at hs
  ·simp at hc
 -- index
 ·rename_i T x ix;simp only[execOp,ho];have h1:=hev x;have h2:=hev ix;split at hc
  ·rename_i n0 e hu;split at hc
   case h_2=>simp at hc
   rename_i s k hsz hA;obtain rfl:=Option.some.inj hc;simp only[Q3]at hs;split at hs
   case h_2=>simp at hs
   rename_i n cs hI hX;rw[hX]at h1
   split at hs
   case isFalse=>simp at hs
   rename_i hcond;simp only[qa,Prod.mk.injEq]at hs;obtain⟨v,hv,rfl,rfl⟩:=hs;exact fine_ix hu hsz hA hrs h1 h2 hI hcond.1 hcond.2.1 hcond.2.2 hv
  ·rename_i hu;obtain rfl:=Option.some.inj hc;simp only[Q3]at hs;split at hs
   case h_2=>simp at hs
   rename_i n l hI hX;rw[hX]at h1
   split at hs
   case isFalse=>simp at hs
   rename_i h0;simp only[qa,Prod.mk.injEq]at hs;obtain⟨b,hb,rfl,rfl⟩:=hs;exact Qyj hu hrs h1 h2 hI h0 hb
  ·simp at hc
 -- binOp
 ·rename_i op T x y yT;simp only[execOp,ho];have h1:=hev x;have h2:=hev y;have hagg:∀(hA:(∃fs,P.underlying T=some (.struct fs))∨∃n e,P.underlying T=some (.array n e))
    (hc:(if (op=.eql∨op=.neq)/\P.eqGuardType P.depth T=false then (flatK P 20 T).map λks=>I.eqa ks (op=.neq) (cvA x) (cvA y) else none)=some i),
    Fine J m w h' r ((do pure (.value (<- (do eqGuard op T x y (a.eval x) (a.eval y);binOp op T (a.eval x) (a.eval y)))):Sem Next).run P w):=by
   intro hA hc;split at hc
   case isFalse=>simp at hc
   rename_i hcond;simp only[qa]at hc;obtain⟨ks,hks,rfl⟩:=hc;simp only[Q3]at hs;split at hs
   case h_2=>simp at hs
   rename_i p q hX hY;rw[hX]at h1
   rw[hY]at h2
   simp only[qa,Prod.mk.injEq]at hs;obtain⟨v,hv,rfl,rfl⟩:=hs;have:=Qyo (ox:=x) (oy:=y) hcond.1 hcond.2 hks hA hrs h1 h2 hv;simpa using this
  split at hc
  ·obtain rfl:=Option.some.inj hc;simp only[Q3,qa,Prod.mk.injEq]at hs;obtain⟨v,hv,rfl,rfl⟩:=hs;exact Qkh hrs h1 h2 hv
  ·obtain rfl:=Option.some.inj hc;simp only[Q3,qa,Prod.mk.injEq]at hs;obtain⟨v,hv,rfl,rfl⟩:=hs;exact Qkh hrs h1 h2 hv
  ·rename_i hu;split at hc
   case isFalse=>simp at hc
   rename_i hop;obtain rfl:=Option.some.inj hc;simp only[Q3]at hs;split at hs
   case h_2=>simp at hs
   rename_i p q hX hY;rw[hX]at h1
   rw[hY]at h2
   simp only[Option.some.injEq,Prod.mk.injEq]at hs;obtain⟨rfl,rfl⟩:=hs;have:=Qyn (P:=P) (t:=T) (ox:=x) (oy:=y) hu hop hrs h1 h2;simpa using this
  ·rename_i fs hu;exact hagg (.inl ⟨fs,hu⟩) hc
  ·rename_i n e hu;exact hagg (.inr ⟨n,e,hu⟩) hc
  ·rename_i e hu;split at hc
   case isFalse=>simp at hc
   rename_i hcond;obtain rfl:=Option.some.inj hc;have hny:=Qp0 (a:=a) hcond.2;have key:∃ad n c,a.eval x=.slice (some ad) n c/\r=.b (decide (op=.neq))/\h'=h:=by
    simp only[Q3]at hs;split at hs
    ·rename_i hX;rw[hX]at h1
     simp only[Option.some.injEq,Prod.mk.injEq]at hs;obtain⟨rfl,rfl⟩:=hs;have h1':RD J w _ _:=h1;generalize a.eval x=xv at *
     cases h1' with
     | l _ _ ad cap cs=>exact⟨ad,_,cap,rfl,rfl,rfl⟩
    ·rename_i id g off len hX;rw[hX]at h1
     split at hs
     case h_2=>simp at hs
     rename_i g' sz els hO;split at hs
     case isFalse=>simp at hs
     rename_i hcl;obtain⟨rfl,hl⟩:=hcl;simp only[Option.some.injEq,Prod.mk.injEq]at hs;obtain⟨rfl,rfl⟩:=hs;obtain⟨en,hen,_,_,hsl,_⟩:=K2 hrs h1 hO;unfold Ent.sl at hsl;cases hb:en.blk with
     | none=>rw[hb]at hsl;omega
     | some B=>rw[hb]at hsl;obtain⟨o,cc,h3,_⟩:=hsl;exact⟨_,_,_,h3,rfl,rfl⟩
    ·simp at hs
   obtain⟨ad,n,c,h3,rfl,rfl⟩:=key;rw[h3];have:=Qkd (P:=P) (J:=J) (m:=m) (w:=w) (h:=h') (ox:=x) (oy:=y) hcond.1 hu hny hrs (some ad) n c;simpa using this
  ·simp at hc
 -- unOp
 ·rename_i op T x;obtain rfl:=Option.some.inj hc;simp only[Q3,qa,Prod.mk.injEq]at hs;obtain⟨v,hv,rfl,rfl⟩:=hs;simp only[execOp,ho];exact fine_un hrs (hev x) hv
 -- convert
 ·rename_i S D x;simp only[execOp,ho];have h1:=hev x;split at hc
  ·rename_i d k hS hD;obtain rfl:=Option.some.inj hc;simp only[Q3]at hs;split at hs
   case h_2=>simp at hs
   rename_i k' n hX;rw[hX]at h1
   simp only[Option.some.injEq,Prod.mk.injEq]at hs;obtain⟨rfl,rfl⟩:=hs;exact Qyp hS hD hrs h1
  ·rename_i e hS hD;split at hc
   case isFalse=>simp at hc
   rename_i hu8;obtain rfl:=Option.some.inj hc;simp only[Q3]at hs;split at hs
   case h_2=>simp at hs
   rename_i l hX;rw[hX]at h1
   split at hs
   case isFalse=>simp at hs
   rename_i hl;simp only[Option.some.injEq,Prod.mk.injEq]at hs;obtain⟨rfl,rfl⟩:=hs;exact Qyf hS hD (isU8 hu8) hrs h1 hl
  ·rename_i e hS hD;split at hc
   case isFalse=>simp at hc
   rename_i hu8;obtain rfl:=Option.some.inj hc;simp only[Q3,qa,qr,Prod.mk.injEq]at hs;obtain⟨l,⟨els,hels,hb⟩,rfl,rfl⟩:=hs;exact Qyt hS hD (isU8 hu8) hrs h1 hels hb
  ·simp at hc
 -- makeSlice
 ·rename_i T l c;simp only[execOp,ho];split at hc
  case isFalse=>simp at hc
  rename_i hsame;split at hc
  case h_2=>simp at hc
  rename_i e hu;split at hc
  case h_2=>simp at hc
  rename_i inf z hi hz;split at hc
  case isFalse=>simp at hc
  rename_i hl;obtain rfl:=Option.some.inj hc;obtain⟨v,hv1,hv2,hv3⟩:=Qom hi hz hl;have h1:=hev l;have hcl:a.eval c=a.eval l:=by
   cases l<;>cases c<;>simp[Qg3]at hsame
   ·subst hsame;rfl
   ·rename_i u v;cases u<;>cases v<;>simp[Qg3]at hsame
    obtain⟨rfl,rfl⟩:=hsame;rfl
  rw[hcl];cases imm
  ·simp only[Bool.false_eq_true,if_false,Q3]at hs;split at hs
   case h_2=>simp at hs
   rename_i k hX;rw[hX]at h1
   split at hs
   case isFalse=>simp at hs
   rename_i hcond;simp only[Option.some.injEq,Prod.mk.injEq]at hs;obtain⟨rfl,rfl⟩:=hs;exact Qyg hu hi hv1 (hv3 J m w) hl hrs h1 hcond.1 hcond.2.1 hcond.2.2
  ·simp only[if_true,Q3]at hs;split at hs
   case h_2=>simp at hs
   rename_i k hX;rw[hX]at h1
   split at hs
   case isFalse=>simp at hs
   rename_i hcond;simp only[Option.some.injEq,Prod.mk.injEq]at hs;obtain⟨rfl,rfl⟩:=hs;exact Qyh hu hi hv1 hv3 hl hrs h1 hcond.1 hcond.2.1 hcond.2.2.1 hcond.2.2.2
 -- slice
 ·rename_i T x lo hi mx;simp only[execOp,ho];have h1:=hev x;have hlo:((lo.map cvA).map (ev)).isSome=(lo.map a.eval).isSome:=by cases lo<;>rfl
  have hlo2:∀V' v,(lo.map cvA).map (ev)=some V'->lo.map a.eval=some v->RV J m w V' v:=by
   intro V' v e1 e2;cases lo with
   | none=>simp at e2
   | some l=>simp at e1 e2;subst e1;subst e2;exact hev l
  have hhi:((hi.map cvA).map (ev)).isSome=(hi.map a.eval).isSome:=by cases hi<;>rfl
  have hhi2:∀V' v,(hi.map cvA).map (ev)=some V'->hi.map a.eval=some v->RV J m w V' v:=by
   intro V' v e1 e2;cases hi with
   | none=>simp at e2
   | some l=>simp at e1 e2;subst e1;subst e2;exact hev l
  split at hc
  ·rename_i e hu;cases mx with
   | some k =>
     simp only[ja,qa]at hc;obtain⟨hhis,s,hsz,rfl⟩:=hc;simp only[Option.map_some];have hk:=hev k;simp only[Q3]at hs;split at hs
     ·rename_i id g off len kk c hX hK;rw[hX]at h1
      rw[hK]at hk
      split at hs
      case h_2=>simp at hs
      rename_i p q g' sz els hp hq hO;split at hs
      case isFalse=>simp at hs
      rename_i hcond;obtain⟨rfl,rfl,hpq,hql,hcl⟩:=hcond;simp only[Option.some.injEq,Prod.mk.injEq]at hs;obtain⟨rfl,rfl⟩:=hs;exact Qda hu hsz hrs h1 hO hlo hlo2 hhi hhi2 (by simpa using hhis) hp hq hpq hql hk hcl
     ·rename_i kk c hX hK;rw[hX]at h1
      rw[hK]at hk
      split at hs
      case h_2=>simp at hs
      rename_i hp hq;split at hs
      case isFalse=>simp at hs
      rename_i hcl;simp only[Option.some.injEq,Prod.mk.injEq]at hs;obtain⟨rfl,rfl⟩:=hs;exact Qdb hu hsz hrs h1 hlo hlo2 hhi hhi2 (by simpa using hhis) hp hq hk hcl
     ·simp at hs
   | none =>
   simp only[Option.map_none];simp only[qa]at hc;obtain⟨s,hsz,rfl⟩:=hc;simp only[Q3]at hs;split at hs
   ·rename_i sz els hX;rw[hX]at h1
    split at hs
    case h_2=>simp at hs
    rename_i p q hp hq;split at hs
    case isFalse=>simp at hs
    rename_i hcond;obtain⟨rfl,hpq,hql⟩:=hcond;simp only[Option.some.injEq,Prod.mk.injEq]at hs;obtain⟨rfl,rfl⟩:=hs;exact Qn8 hu hsz hrs h1 hlo hlo2 hhi hhi2 hp hq hpq hql
   ·rename_i id g off len hX;rw[hX]at h1
    split at hs
    case h_2=>simp at hs
    rename_i p q g' sz els hp hq hO;split at hs
    case isFalse=>simp at hs
    rename_i hcond;obtain⟨rfl,rfl,hpq,hql⟩:=hcond;simp only[Option.some.injEq,Prod.mk.injEq]at hs;obtain⟨rfl,rfl⟩:=hs;exact Qh6 hu hsz hrs h1 hO hlo hlo2 hhi hhi2 hp hq hpq hql
   ·rename_i hX;rw[hX]at h1
    split at hs
    case h_2=>simp at hs
    rename_i hp hq;simp only[Option.some.injEq,Prod.mk.injEq]at hs;obtain⟨rfl,rfl⟩:=hs;exact Qh7 hu hsz hrs h1 hlo hlo2 hhi hhi2 hp hq
   ·simp at hs
  ·rename_i hu;split at hc
   case isTrue=>simp at hc
   rename_i hmx;obtain rfl:mx=none:=by cases mx<;>simp at hmx<;>rfl
   obtain rfl:=Option.some.inj hc;simp only[Q3]at hs;split at hs
   case h_2=>simp at hs
   rename_i l hX;rw[hX]at h1
   split at hs
   case h_2=>simp at hs
   rename_i p q hp hq;split at hs
   case isFalse=>simp at hs
   rename_i hcond;simp only[Option.some.injEq,Prod.mk.injEq]at hs;obtain⟨rfl,rfl⟩:=hs;exact Qse hu hrs h1 hlo hlo2 hhi hhi2 hp hq hcond.1 hcond.2
  ·rename_i n e hu;split at hc
   case isTrue=>simp at hc
   rename_i hnone;simp only[not_or,Bool.not_eq_true,Option.isSome_eq_false_iff,Option.isNone_iff_eq_none]at hnone;obtain⟨rfl,rfl,rfl⟩:=hnone;simp only[qa]at hc;obtain⟨sz,hsz,rfl⟩:=hc;simp only[Q3]at hs;split at hs
   case h_2=>simp at hs
   rename_i id g hX;rw[hX]at h1
   split at hs
   case h_2=>simp at hs
   rename_i g' sz' cells hO;split at hs
   case isFalse=>simp at hs
   rename_i hcond;obtain⟨rfl,rfl,q1,q2⟩:=hcond;simp only[Option.some.injEq,Prod.mk.injEq]at hs;obtain⟨rfl,rfl⟩:=hs;exact Qye hu hsz hrs h1 hO q1 q2
  ·simp at hc
 -- extract
 ·rename_i x ix;obtain rfl:=Option.some.inj hc;simp only[execOp,ho];have h1:=hev x;simp only[Q3]at hs;split at hs
  case h_2=>simp at hs
  rename_i vs hX;rw[hX]at h1
  simp only[qa,Prod.mk.injEq]at hs;obtain⟨v,hv,rfl,rfl⟩:=hs;exact Qyl hrs h1 hv
 -- nilCheck
 ·rename_i x;obtain rfl:=Option.some.inj hc;have h1:=hev x;simp only[Q3]at hs;split at hs
  ·rename_i id g e j hX;rw[hX]at h1
   split at hs
   case h_2=>simp at hs
   rename_i g' sz els hO;split at hs
   case isFalse=>simp at hs
   rename_i hg;subst hg;simp only[Option.some.injEq,Prod.mk.injEq]at hs;obtain⟨rfl,rfl⟩:=hs;have hlt:id<m.length:=by rw[hrs.len];exact(q8.1 hO).1
   have hobj:=hrs.obj id m[id] _ (q9 hlt) hO;have h2:=Qvk 0 (show RL J m w (.p id g e j) (a.eval x) from h1) ⟨m[id],q9 hlt,hobj.1⟩;obtain⟨ad,had,_⟩:=h2;rw[had]at h1
   have hrun:(execOp a.eval o).run P w=.ok (.value (.pointer (some ad))) w:=by simp[execOp,ho,had]
   rw[hrun];exact Fine.pure hrs h1
  ·rename_i cs hX;rw[hX]at h1
   simp only[Option.some.injEq,Prod.mk.injEq]at hs;obtain⟨rfl,rfl⟩:=hs;obtain⟨ad,had,h2,h3⟩:=h1;have hrun:(execOp a.eval o).run P w=.ok (.value (.pointer (some ad))) w:=by simp[execOp,ho,had]
   rw[hrun];exact Fine.pure hrs ⟨ad,rfl,h2,h3⟩
  ·rename_i f cs hX;rw[hX]at h1
   simp only[Option.some.injEq,Prod.mk.injEq]at hs;obtain⟨rfl,rfl⟩:=hs;obtain⟨caps,had,h2⟩:=h1;have hrun:(execOp a.eval o).run P w=.ok (.value (.func (.func f) #[] caps)) w:=by simp[execOp,ho,had]
   rw[hrun];exact Fine.pure hrs ⟨caps,rfl,h2⟩
  ·simp at hs
 -- makeFunc
 ·rename_i f first caps
  split at hc
  case isFalse=>simp at hc
  rename_i hf;obtain rfl:=Option.some.inj hc;simp only[Q3,ja,Option.some.injEq,Prod.mk.injEq]at hs;obtain⟨hall,rfl,rfl⟩:=hs;obtain rfl:first=#[]:=by simpa using hf
  have hrun:(execOp a.eval o).run P w=.ok (.value (.func (.func f) #[] (caps.map a.eval))) w:=by simp[execOp,ho,Instr.makeFunc]
  rw[hrun];refine Fine.pure hrs ⟨_,rfl,?_⟩;refine⟨by simp,λk v c hv hcc=>?_⟩;simp only[List.map_map,qp,qa]at hv;obtain⟨x,hx,rfl⟩:=hv;have hx':caps[k]?=some x:=by simpa using hx
  simp[hx']at hcc
  subst hcc;have hm:=qj.1 hall (ev (cvA x)) (by simp only[List.map_map,qo];exact⟨x,qb hx,rfl⟩);have h1:=hev x;show RL J m w (ev (cvA x)) (a.eval x);generalize ev (cvA x)=X at *
  cases X<;>simp[V.isCap]at hm<;>exact h1
 -- call
 ·rename_i c;have hbi:∀b,c.callee=.builtin b->∃cs,(execOp a.eval o).run P w=(builtin b c.argTypes o.type cs (c.args.map a.eval)).run P w:=by
   intro b hb;refine⟨c.args.map Qxk,?_⟩;simp only[execOp,ho,resolve,hb,invoke,Sem.run_bind,Sem.run_pure,Result.andThen_ok]
   rfl
  split at hc
  ·rename_i hb;obtain⟨consts,hcs⟩:=hbi _ hb;rw[hcs];split at hc
   case h_2=>simp at hc
   rename_i x t hargs htys;have ha:c.args.map a.eval=#[a.eval x]:=by
    apply Array.ext';simp[hargs]
   have ht:c.argTypes=#[t]:=by apply Array.ext';simp[htys]
   rw[ha,ht];have h1:=hev x;simp only[builtin];split at hc
   ·rename_i e hu;obtain rfl:=Option.some.inj hc;simp only[Q3]at hs;split at hs
    case h_1=>simp at hs
    case h_5=>simp at hs
    case h_6=>simp at hs
    case h_7=>simp at hs
    ·rename_i sz els hX;rw[hX]at h1
     simp only[if_true,Option.some.injEq,Prod.mk.injEq]at hs;obtain⟨rfl,rfl⟩:=hs;obtain⟨b,cap,hx,_⟩:=Jl (sz:=sz) (els:=els) hrs h1 (by simp[Zr]);exact W8 hu hrs (by rw[hx]at h1 ⊢;exact h1) ⟨b,cap,hx⟩
    ·rename_i id g off len hX;rw[hX]at h1
     simp only[if_true]at hs;split at hs
     case h_2=>simp at hs
     rename_i g' sz els hO;split at hs
     case isFalse=>simp at hs
     rename_i hg;subst hg;simp only[Option.some.injEq,Prod.mk.injEq]at hs;obtain⟨rfl,rfl⟩:=hs;obtain⟨en,hen,hgg,hsz,hsl,_⟩:=K2 hrs h1 hO;unfold Ent.sl at hsl;refine W8 hu hrs h1 ?_;cases hb:en.blk with
     | none =>
       rw[hb]at hsl
       obtain⟨_,rfl,q3⟩:=hsl;rcases q3 with q3 | ⟨ad,q3⟩
       ·exact⟨_,_,q3⟩
       ·exact⟨_,_,q3⟩
     | some B =>
       rw[hb]at hsl
       obtain⟨o',cc,q3,_⟩:=hsl;exact⟨_,_,q3⟩
    ·rename_i hX;rw[hX]at h1
     simp only[if_true,Option.some.injEq,Prod.mk.injEq]at hs;obtain⟨rfl,rfl⟩:=hs;have hx:RD J w .nil (a.eval x):=h1;refine W8 (n:=0) hu hrs h1 ?_;generalize a.eval x=X at hx;cases hx with
     | nil0=>exact⟨_,_,rfl⟩
     | nil1 ad=>exact⟨_,_,rfl⟩
   ·rename_i hu;obtain rfl:=Option.some.inj hc;simp only[Q3]at hs;split at hs<;>try (simp at hs;done)
    ·rename_i l hX;rw[hX]at h1
     simp only[if_true,Option.some.injEq,Prod.mk.injEq]at hs;obtain⟨rfl,rfl⟩:=hs;exact Qh8 hu hrs h1
   ·rename_i k e hu;obtain rfl:=Option.some.inj hc;simp only[Q3]at hs;split at hs<;>try (simp at hs;done)
    ·rename_i id hX;rw[hX]at h1
     simp only[if_true]at hs;split at hs
     case h_2=>simp at hs
     rename_i es hO;simp only[Option.some.injEq,Prod.mk.injEq]at hs;obtain⟨rfl,rfl⟩:=hs;exact Qh9 hu hrs h1 hO
    ·rename_i hX;rw[hX]at h1
     simp only[if_true,Option.some.injEq,Prod.mk.injEq]at hs;obtain⟨rfl,rfl⟩:=hs;exact Qdc hu hrs h1
   ·rename_i n e hu;obtain rfl:=Option.some.inj hc;simp only[Q3,hcst,Option.some.injEq,Prod.mk.injEq]at hs;obtain⟨rfl,rfl⟩:=hs;exact Qha hu hrs _
   ·simp at hc
  ·rename_i hb;obtain⟨consts,hcs⟩:=hbi _ hb;rw[hcs];split at hc
   case h_2=>simp at hc
   rename_i s x t t' hargs htys;have ha:c.args.map a.eval=#[a.eval s,a.eval x]:=by
    apply Array.ext';simp[hargs]
   have ht:c.argTypes=#[t,t']:=by apply Array.ext';simp[htys]
   rw[ha,ht];have h1:=hev s;have h2:=hev x;simp only[builtin];split at hc
   case h_3=>simp at hc
   case h_2 =>
    rename_i e kk hu hu';split at hc
    case h_2=>simp at hc
    rename_i inf z hi hz;split at hc
    case isFalse=>simp at hc
    rename_i hl;obtain rfl:=Option.some.inj hc;obtain⟨v,hv1,hv2,hv3⟩:=Qom hi hz hl;simp only[Q3]at hs;split at hs
    case h_2=>simp at hs
    rename_i id g off len kk k hX hk;rw[hX]at h1
    rw[hk]at h2
    split at hs
    case h_2=>simp at hs
    rename_i g' sz' els hO;split at hs
    case isFalse=>simp at hs
    rename_i hcond;obtain⟨rfl,rfl,q1,q2,q3,q4⟩:=hcond;simp only[Option.some.injEq,Prod.mk.injEq]at hs;obtain⟨rfl,rfl⟩:=hs;exact Qhd hu hu' hi hv1 hv2 (hv3 J m w) hrs h1 hO q1 h2 q2 q3 q4
   rename_i e e' hu hu';split at hc
   case h_2=>simp at hc
   rename_i inf z hi hz;split at hc
   case isFalse=>simp at hc
   rename_i hl;obtain rfl:=Option.some.inj hc;obtain⟨v,hv1,hv2,hv3⟩:=Qom hi hz hl;simp only[Q3]at hs;split at hs
   case h_2=>simp at hs
   rename_i news hnews;split at hs
   ·rename_i hX;rw[hX]at h1
    split at hs
    case isFalse=>simp at hs
    rename_i hcond;simp only[Option.some.injEq,Prod.mk.injEq]at hs;obtain⟨rfl,rfl⟩:=hs;exact Qhf hu hu' hi hv1 hv2 hrs h1 h2 hnews hcond.1 hcond.2
   ·rename_i id g off len hX;rw[hX]at h1
    split at hs
    case h_2=>simp at hs
    rename_i g' sz' els hO;split at hs
    case isFalse=>simp at hs
    rename_i hcond;obtain⟨rfl,rfl,q1,q2,q3⟩:=hcond;simp only[Option.some.injEq,Prod.mk.injEq]at hs;obtain⟨rfl,rfl⟩:=hs;exact Qhe hu hu' hi hv1 hv2 hrs h1 hO q1 h2 hnews q2 q3
   ·simp at hs
  ·rename_i hb;obtain⟨consts,hcs⟩:=hbi _ hb;rw[hcs];split at hc
   case h_2=>simp at hc
   rename_i x y t t' hargs htys;have ha:c.args.map a.eval=#[a.eval x,a.eval y]:=by
    apply Array.ext';simp[hargs]
   have ht:c.argTypes=#[t,t']:=by apply Array.ext';simp[htys]
   rw[ha,ht];have h1:=hev x;have h2:=hev y;simp only[builtin];split at hc
   case h_2=>simp at hc
   rename_i e hu;simp only[qa]at hc;obtain⟨s,hsz,rfl⟩:=hc;simp only[Q3]at hs;split at hs
   case h_2=>simp at hs
   rename_i id g off len src hX hsrc;rw[hX]at h1
   split at hs
   case h_2=>simp at hs
   rename_i g' sz' els hO;split at hs
   case isFalse=>simp at hs
   rename_i hcond;obtain⟨rfl,rfl,hle⟩:=hcond;simp only[Option.some.injEq,Prod.mk.injEq]at hs;obtain⟨rfl,rfl⟩:=hs;split at hsrc
   ·rename_i l hY;rw[hY]at h2
    split at hsrc
    case isFalse=>simp at hsrc
    rename_i hs1;obtain rfl:=Option.some.inj hsrc;subst hs1;exact Qkg hu hsz hrs h1 hO hle h2
   ·exact Qsk hu hsz hrs h1 hO hle h2 hsrc
  ·rename_i hb;obtain⟨consts,hcs⟩:=hbi _ hb;rw[hcs];split at hc
   case h_2=>simp at hc
   rename_i x k t t' hargs htys;have ha:c.args.map a.eval=#[a.eval x,a.eval k]:=by
    apply Array.ext';simp[hargs]
   have ht:c.argTypes=#[t,t']:=by apply Array.ext';simp[htys]
   rw[ha,ht];have h1:=hev x;have h2:=hev k;simp only[builtin];split at hc
   case h_2=>simp at hc
   rename_i kt et hu;obtain⟨ks,hks,rfl⟩:=qa.1 hc;simp only[Q3]at hs;split at hs
   case h_2=>simp at hs
   rename_i id hX;rw[hX]at h1
   split at hs
   case h_2=>simp at hs
   rename_i es hes;split at hs
   case h_2=>simp at hs
   rename_i q v' hf;simp only[Option.some.injEq,Prod.mk.injEq]at hs;obtain⟨rfl,rfl⟩:=hs;exact Qsh hu hks hrs h1 h2 hes hf
  ·rename_i hb;obtain⟨consts,hcs⟩:=hbi _ hb;rw[hcs];obtain rfl:=Option.some.inj hc;simp only[Q3,qa,Prod.mk.injEq]at hs;obtain⟨v,hv,rfl,rfl⟩:=hs;simp only[builtin];refine fine_mx hrs ?_ hv;refine⟨by simp,λk v c' hv hcc=>?_⟩;simp only[List.map_map,qp,qa]at hv;obtain⟨x,hx,rfl⟩:=hv;have hx':c.args[k]?=some x:=by simpa using hx
   simp[hx']at hcc
   subst hcc;exact hev x
  ·rename_i hb;obtain⟨consts,hcs⟩:=hbi _ hb;rw[hcs];obtain rfl:=Option.some.inj hc;simp only[Q3,qa,Prod.mk.injEq]at hs;obtain⟨v,hv,rfl,rfl⟩:=hs;simp only[builtin];refine fine_mn hrs ?_ hv;refine⟨by simp,λk v c' hv hcc=>?_⟩;simp only[List.map_map,qp,qa]at hv;obtain⟨x,hx,rfl⟩:=hv;have hx':c.args[k]?=some x:=by simpa using hx
   simp[hx']at hcc
   subst hcc;exact hev x
  ·simp at hc
 -- makeMap
 ·rename_i T r;simp only[execOp,ho];split at hc
  case h_2=>simp at hc
  rename_i kt et hu;obtain rfl:=Option.some.inj hc;simp only[Q3]at hs;cases r with
  | none =>
    simp only[Option.map_none,Option.some.injEq,Prod.mk.injEq]at hs;obtain⟨rfl,rfl⟩:=hs;exact Qkc hrs T none (by simp)
  | some x =>
    have h1:=hev x;simp only[Option.map_some]at hs;cases hX:ev (cvA x)<;>simp[hX]at hs
    obtain⟨rfl,rfl⟩:=hs;rw[hX]at h1
    exact Qkc hrs T (some (a.eval x)) (λy hy=>by
     obtain rfl:=Option.some.inj hy;exact⟨⟨kt,et,hu⟩,_,_,Ze h1⟩)
 -- lookup
 ·rename_i T x k ok;simp only[execOp,ho];split at hc
  case h_2=>simp at hc
  rename_i kt et hu;split at hc
  case h_2=>simp at hc
  rename_i ks z hks hz;obtain rfl:=Option.some.inj hc;have h1:=hev x;have h2:=hev k;simp only[Q3]at hs;split at hs
  case h_2=>simp at hs
  rename_i es hes;have key:=λres hf=>fine_lk hu hks hz hrs h1 h2 hes (res:=res) hf ok
  split at hs
  ·rename_i q v hf;simp only[Option.some.injEq,Prod.mk.injEq]at hs;obtain⟨rfl,rfl⟩:=hs;exact key _ hf
  ·rename_i hf;simp only[Option.some.injEq,Prod.mk.injEq]at hs;obtain⟨rfl,rfl⟩:=hs;exact key _ hf
  ·simp at hs
 -- mapUpdate
 ·rename_i T x k v;simp only[execOp,ho];split at hc
  case h_2=>simp at hc
  rename_i kt et hu;obtain⟨ks,hks,rfl⟩:=qa.1 hc;have h1:=hev x;have h2:=hev k;have h3:=hev v;simp only[Q3]at hs;split at hs
  case h_2=>simp at hs
  rename_i id hX;rw[hX]at h1
  split at hs
  ·rename_i es hO;split at hs
   case isFalse=>simp at hs
   rename_i hnt;have key:=λres hf=>Qkb hu hks hrs h1 h2 (Ig hnt h3) hO (res:=res) hf
   split at hs
   ·rename_i q v' hf;simp only[Option.some.injEq,Prod.mk.injEq]at hs;obtain⟨rfl,rfl⟩:=hs;exact key _ hf
   ·rename_i hf;simp only[Option.some.injEq,Prod.mk.injEq]at hs;obtain⟨rfl,rfl⟩:=hs;exact key _ hf
   ·simp at hs
  ·rename_i es hO;split at hs
   case isFalse=>simp at hs
   rename_i hnt;split at hs
   case h_2=>simp at hs
   rename_i q v' hf;simp only[Option.some.injEq,Prod.mk.injEq]at hs;obtain⟨rfl,rfl⟩:=hs;exact Qeg hu hks hrs h1 h2 (Ig hnt h3) hO hf
  ·simp at hs
 -- insert
 ·rename_i T x k v;simp only[execOp,ho];split at hc
  case h_2=>simp at hc
  rename_i kt et hu;obtain⟨ks,hks,rfl⟩:=qa.1 hc;have h1:=hev x;have h2:=hev k;have h3:=hev v;simp only[Q3]at hs;split at hs
  case h_2=>simp at hs
  rename_i id hX;rw[hX]at h1
  split at hs
  ·rename_i es hO;split at hs
   case isFalse=>simp at hs
   rename_i hnt;have key:=λres hf=>Qkb hu hks hrs h1 h2 (Ig hnt h3) hO (res:=res) hf
   split at hs
   ·rename_i q v' hf;simp only[Option.some.injEq,Prod.mk.injEq]at hs;obtain⟨rfl,rfl⟩:=hs;exact key _ hf
   ·rename_i hf;simp only[Option.some.injEq,Prod.mk.injEq]at hs;obtain⟨rfl,rfl⟩:=hs;exact key _ hf
   ·simp at hs
  ·rename_i es hO;split at hs
   case isFalse=>simp at hs
   rename_i hnt;split at hs
   case h_2=>simp at hs
   rename_i q v' hf;simp only[Option.some.injEq,Prod.mk.injEq]at hs;obtain⟨rfl,rfl⟩:=hs;exact Qeg hu hks hrs h1 h2 (Ig hnt h3) hO hf
  ·simp at hs
 -- mapEntry
 ·rename_i T x k;simp only[execOp,ho];split at hc
  case h_2=>simp at hc
  rename_i kt et hu;split at hc
  case h_2=>simp at hc
  rename_i ks z hks hz;obtain rfl:=Option.some.inj hc;have h1:=hev x;have h2:=hev k;simp only[Q3]at hs;split at hs
  case h_2=>simp at hs
  rename_i id hX;rw[hX]at h1
  split at hs
  case h_2=>simp at hs
  rename_i es hO;have key:=λres hf=>Qsg hu hks hz hrs h1 h2 hO (res:=res) hf
  split at hs
  ·rename_i q v hf;simp only[Option.some.injEq,Prod.mk.injEq]at hs;obtain⟨rfl,rfl⟩:=hs;exact key _ hf
  ·rename_i hf;simp only[Option.some.injEq,Prod.mk.injEq]at hs;obtain⟨rfl,rfl⟩:=hs;exact key _ hf
  ·simp at hs
 -- entryStore
 ·rename_i T x s v;simp only[execOp,ho];obtain rfl:=Option.some.inj hc;have h1:=hev x;have h2:=hev s;have h3:=hev v;simp only[Q3]at hs;split at hs
  case h_2=>simp at hs
  rename_i id kk n hX hS;rw[hX]at h1
  rw[hS]at h2
  split at hs
  case h_2=>simp at hs
  rename_i es hO;split at hs
  case isFalse=>simp at hs
  rename_i hn;split at hs
  case h_2=>simp at hs
  rename_i K V0 hk;split at hs
  case isFalse=>simp at hs
  rename_i hnt;simp only[Option.some.injEq,Prod.mk.injEq]at hs;obtain⟨rfl,rfl⟩:=hs;exact Qym T hrs h1 h2 hn (Ig hnt h3) hO hk
 -- range
 ·rename_i T x;simp only[execOp,ho];split at hc
  case h_2=>simp at hc
  rename_i kt et hu;obtain rfl:=Option.some.inj hc;have h1:=hev x;simp only[Q3]at hs;exact Qsf hu hrs hs h1
 -- entry
 ·rename_i x;simp only[execOp,ho];obtain rfl:=Option.some.inj hc;have h1:=hev x;simp only[Q3]at hs;split at hs
  case h_2=>simp at hs
  rename_i id g hX;rw[hX]at h1
  split at hs
  case h_2=>simp at hs
  rename_i mid since seen hO;split at hs
  case h_2=>simp at hs
  rename_i es hM;split at hs
  case isFalse=>simp at hs
  rename_i hg;obtain⟨rfl,hsn⟩:=hg;simp only[qa,qr,Prod.mk.injEq]at hs;obtain⟨⟨K,Vv⟩,⟨i,hl,hi⟩,rfl,rfl⟩:=hs;exact Qyi hrs h1 hO hM hsn hl hi
 ·simp at hc
end
end Go.Abs
