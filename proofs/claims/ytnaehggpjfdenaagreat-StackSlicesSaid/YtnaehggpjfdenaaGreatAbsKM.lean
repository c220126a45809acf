/- Part of the library on which the proof stands: an abstract machine, its values and its soundness against the model; or what functions of the program do to such values. -/
import Derived.Test.YtnaehggpjfdenaaGreatAbsJ
import Derived.Maps.RangeRun
set_option linter.unusedVariables false
set_option linter.unusedSimpArgs false
namespace Go.Abs
open Go.RowKit
def Q10 (P:Program) (g:TypeId->Option (List Nat)):List Field->Nat->Option (List Nat)
 | [],_=>some []
 | f::fs,acc=>if f.name = "_" ∨ f.offset≠acc then none else
   match g f.type with
   | some ks=>if (P.info? f.type).map (·.size)=some ks.length then (Q10 P g fs (acc+ks.length)).map (ks++·) else none
   | none=>none
def flatK (P:Program):Nat->TypeId->Option (List Nat)
 | 0,_=>none
 | d+1,T=>match P.underlying T with
   | some .bool=>some [0]
   | some (.int _)=>some [1]
   | some .string=>some [2]
   | some (.struct fs)=>if P.stoodInHeld T then none else Q10 P (flatK P d) fs.toList 0
   | some (.array n e)=>match flatK P d e with
     | some ks=>if (P.info? e).map (·.size)=some ks.length then some ((List.replicate n ks).flatten) else none
     | none=>none
   | _=>none
theorem Xn:∀{ks:List Nat} {xs ys:List V} {r:Bool},Zi ks xs ys=some r->xs.length=ks.length/\ys.length=ks.length
 | [],[],[],_,_=>⟨rfl,rfl⟩
 | [],[],_::_,_,h=>by simp[Zi]at h
 | [],_::_,_,_,h=>by simp[Zi]at h
 | _::_,[],_,_,h=>by simp[Zi]at h
 | _::_,_::_,[],_,h=>by simp[Zi]at h
 | k::ks,x::xs,y::ys,r,h=>by
   simp only[Zi]at h;split at h
   ·rename_i a b _ hb;have:=Xn hb;simp[this.1,this.2]
   ·simp at h
theorem Ee:∀{ks ls:List Nat} {xs ys:List V} {r:Bool},Zi (ks++ls) xs ys=some r ->
  ∃a b,Zi ks (xs.take ks.length) (ys.take ks.length)=some a/\Zi ls (xs.drop ks.length) (ys.drop ks.length)=some b/\r=(a && b)
 | [],ls,xs,ys,r,h=>⟨true,r,by simp[Zi],by simpa using h,by simp⟩
 | k::ks,ls,[],ys,r,h=>by simp[Zi]at h
 | k::ks,ls,x::xs,[],r,h=>by simp[Zi]at h
 | k::ks,ls,x::xs,y::ys,r,h=>by
   simp only[List.cons_append,Zi]at h;split at h
   case h_2=>simp at h
   rename_i a b ha hb;obtain⟨c,d,h1,h2,rfl⟩:=Ee hb;refine⟨a && c,d,?_,by simpa using h2,?_⟩
   ·simp only[List.length_cons,List.take_succ_cons,Zi,ha,h1]
   ·rw[<- Option.some.inj h,Bool.and_assoc]
section
variable {P:Program} {J:Nat->Prop} {m:List Ent} {w:World} {h:List O}
def mkT (P:Program) (T:TypeId) (cs:List Value):Value :=
 match P.underlying T with
 | some (.struct _) | some (.array _ _)=>.agg cs.toArray
 | _=>cs.headD undef
theorem Iy {d:Nat} {T:TypeId} {ks:List Nat} (hf:flatK P d T=some ks):(∃fs,P.underlying T=some (.struct fs))∨(∃n e,P.underlying T=some (.array n e)) ∨
  ((P.underlying T=some .bool/\ks=[0])∨(∃k,P.underlying T=some (.int k)/\ks=[1])∨(P.underlying T=some .string/\ks=[2])):=by
 cases d with
 | zero=>simp[flatK]at hf
 | succ d =>
   simp only[flatK]at hf;split at hf<;>rename_i hu
   ·exact .inr (.inr (.inl ⟨hu,(Option.some.inj hf).symm⟩))
   ·exact .inr (.inr (.inr (.inl ⟨_,hu,(Option.some.inj hf).symm⟩)))
   ·exact .inr (.inr (.inr (.inr ⟨hu,(Option.some.inj hf).symm⟩)))
   ·exact .inl ⟨_,hu⟩
   ·exact .inr (.inl ⟨_,_,hu⟩)
   ·simp at hf
theorem Xh {d:Nat} {T:TypeId} {ks:List Nat} (hf:flatK P d T=some ks) (hi:(P.info? T).map (·.size)=some ks.length) {cs:Array Value} {off:Nat} (hl:off+ks.length<=cs.size) :
  (part T cs off).run P w=.ok (mkT P T ((cs.toList.drop off).take ks.length)) w:=by
 have hagg:∀(hA:(isAgg T).run P w=.ok true w),(part T cs off).run P w=.ok (.agg ((cs.toList.drop off).take ks.length).toArray) w:=by
  intro hA;simp only[part,Sem.run_bind,hA,Result.andThen_ok,if_true,Qr hi,Sem.run_pure];congr 2;apply Array.ext';simp[Array.toList_extract,List.extract_eq_take_drop]
 have hsc:∀(hA:(isAgg T).run P w=.ok false w) (hk:ks.length=1),(part T cs off).run P w=.ok (((cs.toList.drop off).take ks.length).headD undef) w:=by
  intro hA hk;have hlt:off<cs.size:=by omega
  simp only[part,Sem.run_bind,hA,Result.andThen_ok,Bool.false_eq_true,if_false,Array.getElem?_eq_getElem hlt,Sem.run_pure,hk];congr 1;rw[<- List.getElem_cons_drop (by simpa using hlt)];simp
 rcases Iy hf with⟨fs,hu⟩ | ⟨n,e,hu⟩ | ⟨hu,rfl⟩ | ⟨k,hu,rfl⟩ | ⟨hu,rfl⟩
 ·rw[hagg (by simp[isAgg,run_underlying hu])];simp[mkT,hu]
 ·rw[hagg (by simp[isAgg,run_underlying hu])];simp[mkT,hu]
 ·rw[hsc (by simp[isAgg,run_underlying hu]) rfl];simp[mkT,hu]
 ·rw[hsc (by simp[isAgg,run_underlying hu]) rfl];simp[mkT,hu]
 ·rw[hsc (by simp[isAgg,run_underlying hu]) rfl];simp[mkT,hu]
def EqAt (P:Program) (J:Nat->Prop) (m:List Ent) (w:World) (d:Nat):Prop :=
 ∀T ks,flatK P d T=some ks->∀d',d<=d'->∀(vx vy:List V) (cx cy:List Value) (r:Bool),Pw (RC J m w) vx cx->Pw (RC J m w) vy cy->Zi ks vx vy=some r ->
  (Op.equalIn d' T (mkT P T cx) (mkT P T cy)).run P w=.ok r w
theorem Qpi {d:Nat} (ih:EqAt P J m w d):∀(fs:List Field) (acc:Nat) (ks:List Nat),Q10 P (flatK P d) fs acc=some ks->∀d',d<=d'->∀(vx vy:List V) (cx cy:Array Value) (r:Bool),
  Pw (RC J m w) vx (cx.toList.drop acc)->Pw (RC J m w) vy (cy.toList.drop acc)->Zi ks vx vy=some r->acc<=cx.size->acc<=cy.size->(Op.eqFields d' cx cy fs).run P w=.ok r w
 | [],acc,ks,hf,d',hd,vx,vy,cx,cy,r,hx,hy,hv,_,_=>by
   simp[Q10]at hf
   subst hf;cases vx<;>cases vy<;>simp[Zi]at hv
   subst hv;simp[Op.eqFields]
 | f::fs,acc,ks,hf,d',hd,vx,vy,cx,cy,r,hx,hy,hv,ha,hb=>by
   simp only[Q10]at hf;split at hf
   case isTrue=>simp at hf
   rename_i hno;simp only[not_or,Decidable.not_not]at hno;split at hf
   case h_2=>simp at hf
   rename_i k1 hk1;split at hf
   case isFalse=>simp at hf
   rename_i hsz;simp only[qa]at hf;obtain⟨k2,hk2,rfl⟩:=hf;obtain⟨a,b,h1,h2,rfl⟩:=Ee hv;have hl:=Xn hv;have hlx:vx.length=cx.size-acc:=by have:=hx.1;simpa using this
   have hly:vy.length=cy.size-acc:=by have:=hy.1;simpa using this
   have hlen:(k1++k2).length=k1.length+k2.length:=by simp
   have hp1:=Xh (w:=w) hk1 hsz (cs:=cx) (off:=f.offset) (by rw[hno.2];omega);have hp2:=Xh (w:=w) hk1 hsz (cs:=cy) (off:=f.offset) (by rw[hno.2];omega);rw[hno.2]at hp1 hp2
   have he:=ih f.type k1 hk1 d' hd (vx.take k1.length) (vy.take k1.length) ((cx.toList.drop acc).take k1.length) ((cy.toList.drop acc).take k1.length) a (hx.take _) (hy.take _) h1
   have hrest:=Qpi ih fs (acc+k1.length) k2 hk2 d' hd (vx.drop k1.length) (vy.drop k1.length) cx cy b (by simpa[List.drop_drop]using hx.drop k1.length) (by simpa[List.drop_drop]using hy.drop k1.length) h2 (by omega) (by omega);have hn:f.name ≠ "_" := hno.1;simp only[Op.eqFields,hn,ne_eq,not_false_eq_true,if_true,Sem.run_bind,hno.2,hp1,hp2,Result.andThen_ok,he];cases a
   ·simp
   ·simp[hrest]
theorem Qk9 {n:Nat} {e:TypeId} {ks:List Nat} {d d':Nat} (ih:EqAt P J m w d) (hk:flatK P d e=some ks) (hsz:(P.info? e).map (·.size)=some ks.length) (hd:d<=d') {cx cy:Array Value} :
  ∀(k:Nat) (i:Nat) (vx vy:List V) (r:Bool),i+k=n->Pw (RC J m w) vx (cx.toList.drop (i*ks.length))->Pw (RC J m w) vy (cy.toList.drop (i*ks.length))->Zi (List.replicate k ks).flatten vx vy=some r ->
   i*ks.length<=cx.size->i*ks.length<=cy.size ->
   (forIn (List.range' i k) ((none:Option Bool),()) (λi (_:Option Bool × Unit)=>(do
     let a <- part e cx (i*ks.length)
     let b <- part e cy (i*ks.length)
     let r <- Op.equalIn d' e a b
     if (!r)=true then pure (.done (some false,())) else pure (.yield (none,())):Sem (ForInStep (Option Bool × Unit))))).run P w =
    .ok ((if r then none else some false),()) w
 | 0,i,vx,vy,r,_,hx,hy,hv,_,_=>by
   simp[Zi]at hv
   cases vx<;>cases vy<;>simp[Zi]at hv
   subst hv;simp
 | k+1,i,vx,vy,r,hn,hx,hy,hv,ha,hb=>by
   rw[List.replicate_succ,List.flatten_cons]at hv
   obtain⟨a,b,h1,h2,rfl⟩:=Ee hv;have hl:=Xn hv;have hlx:vx.length=cx.size-i*ks.length:=by have:=hx.1;simpa using this
   have hly:vy.length=cy.size-i*ks.length:=by have:=hy.1;simpa using this
   have hlen:(ks++(List.replicate k ks).flatten).length=ks.length+((List.replicate k ks).flatten).length:=by simp
   have hp1:=Xh (w:=w) hk hsz (cs:=cx) (off:=i*ks.length) (by omega);have hp2:=Xh (w:=w) hk hsz (cs:=cy) (off:=i*ks.length) (by omega);have he:=ih e ks hk d' hd _ _ _ _ a (hx.take ks.length) (hy.take ks.length) h1;have hmul:(i+1)*ks.length=i*ks.length+ks.length:=by rw[Nat.add_mul,Nat.one_mul]
   have hrest:=Qk9 (n:=n) ih hk hsz hd (cx:=cx) (cy:=cy) k (i+1) (vx.drop ks.length) (vy.drop ks.length) b (by omega) (by rw[hmul];simpa[List.drop_drop]using hx.drop ks.length) (by rw[hmul];simpa[List.drop_drop]using hy.drop ks.length) h2 (by omega) (by omega);simp only[List.range'_succ,List.forIn_cons,Sem.run_bind,hp1,hp2,he,Result.andThen_ok];cases a
   ·simp
   ·simp only[Bool.not_true,Bool.false_eq_true,if_false,Sem.run_pure,Result.andThen_ok,hrest,Bool.true_and]
theorem Q2p:∀d,EqAt P J m w d
 | 0=>λT ks hf=>by simp[flatK]at hf
 | d+1=>by
   intro T ks hf d' hd vx vy cx cy r hx hy hv;obtain⟨d'',rfl⟩:∃d'',d'=d''+1:=⟨d'-1,by omega⟩
   simp only[flatK]at hf;have one:∀k,ks=[k]->∃x y a b,vx=[x]/\vy=[y]/\cx=[a]/\cy=[b]/\RC J m w x a/\RC J m w y b/\Q8v k x y=some r:=by
    intro k hk;subst hk;have hl:=Xn hv
    match vx,vy,cx,cy,hl,hx,hy,hv with
    | [x],[y],[a],[b],_,hx,hy,hv =>
      refine⟨x,y,a,b,rfl,rfl,rfl,rfl,hx.head,hy.head,?_⟩;simp only[Zi]at hv;split at hv
      ·rename_i p q hp hq;simp at hq;subst hq;rw[hp];simpa using hv
      ·simp at hv
    | [x],[y],[],_,_,hx,_,_=>have:=hx.1;simp at this
    | [x],[y],[a],[],_,_,hy,_=>have:=hy.1;simp at this
    | [x],[y],_::_::_,_,_,hx,_,_=>have:=hx.1;simp at this
    | [x],[y],_,_::_::_,_,_,hy,_=>have:=hy.1;simp at this
   split at hf<;>rename_i hu
   ·obtain⟨x,y,a,b,rfl,rfl,rfl,rfl,ha,hb,hs⟩:=one 0 (Option.some.inj hf).symm;cases x<;>cases y<;>simp[Q8v]at hs
    subst hs;have:=Ym (Qh ha);subst this;have:=Ym (Qh hb);subst this;simp[mkT,hu,run_equalIn_bool' w d'' T _ _ hu]
   ·obtain⟨x,y,a,b,rfl,rfl,rfl,rfl,ha,hb,hs⟩:=one 1 (Option.some.inj hf).symm;cases x<;>cases y<;>simp[Q8v]at hs
    obtain⟨rfl,rfl⟩:=hs;have:=Ze (Qh ha);subst this;have:=Ze (Qh hb);subst this;simp[mkT,hu,run_equalIn_int w d'' T _ _ _ _ hu]
   ·obtain⟨x,y,a,b,rfl,rfl,rfl,rfl,ha,hb,hs⟩:=one 2 (Option.some.inj hf).symm;cases x<;>cases y<;>simp[Q8v]at hs
    subst hs;have:=Xo (Qh ha);subst this;have:=Xo (Qh hb);subst this;simp[mkT,hu,run_equalIn_string w d'' T _ _ hu]
   ·rename_i fs;split at hf
    case isTrue=>simp at hf
    rename_i hst;have hfo:P.fieldsOf T=fs:=by simp[Program.fieldsOf,hu]
    have hT:P.underlying T=some (.struct (P.fieldsOf T)):=by rw[hfo];exact hu
    simp only[mkT,hu];rw[run_equalIn_struct w d'' T _ _ hT (by simpa using hst),hfo];exact Qpi (Q2p d) fs.toList 0 ks hf d'' (by omega) vx vy _ _ r (by simpa using hx) (by simpa using hy) hv (by simp) (by simp)
   ·rename_i n e;split at hf
    case h_2=>simp at hf
    rename_i k1 hk1;split at hf
    case isFalse=>simp at hf
    rename_i hsz;obtain rfl:=Option.some.inj hf;simp only[mkT,hu];have:=Qk9 (P:=P) (J:=J) (m:=m) (w:=w) (d':=d'') (Q2p d) hk1 hsz (by omega) (n:=n) (cx:=cx.toArray) (cy:=cy.toArray) n 0 vx vy r (by omega) (by simpa using hx) (by simpa using hy) hv (by simp) (by simp);simp only[Op.equalIn,Sem.run_bind,run_underlying hu,Result.andThen_ok,Qr hsz]
    simp only[Std.Legacy.Range.forIn_eq_forIn_range',Std.Legacy.Range.size];simp at this ⊢;rw[this];cases r<;>simp
   ·simp at hf
end
end Go.Abs
namespace Go.Abs
open Go.RowKit
def J0 (P:Program) (T:TypeId):Option (List Nat) :=
 match flatK P 20 T with
 | some ks=>match P.underlying T with
   | some (.struct _) | some (.array _ _)=>if ks.length=1 then none else some ks
   | _=>some ks
 | none=>none
def zV (P:Program) (T:TypeId):Option V:=(P.info? T).bind λi=>i.zero.bind λz=>match z with
 | .agg cs=>(cs.toList.mapM cvL).map .a
 | v=>cvL v
section
variable {P:Program} {J:Nat->Prop} {m:List Ent} {w:World} {h:List O}
theorem Qpp {d n:Nat} (em:Bool) (ih:∀T ks,flatK P d T=some ks->∀cx:List Value,cx.length=ks.length->(Instr.checkKey em n T (mkT P T cx)).run P w=.ok () w) {cs:Array Value} :
  ∀(fs:List Field) (acc:Nat) (ks:List Nat),Q10 P (flatK P d) fs acc=some ks->acc+ks.length<=cs.size ->
   (forIn fs PUnit.unit (λf (_:PUnit)=>if f.name ≠ "_" then do
     let a <- part f.type cs f.offset
     Instr.checkKey em n f.type a
     pure (ForInStep.yield PUnit.unit)
    else pure (ForInStep.yield PUnit.unit):Field->PUnit->Sem (ForInStep PUnit))).run P w=.ok PUnit.unit w
 | [],_,_,_,_=>by simp
 | f::fs,acc,ks,hf,hl=>by
   simp only[Q10]at hf;split at hf
   case isTrue=>simp at hf
   rename_i hno;simp only[not_or,Decidable.not_not]at hno;split at hf
   case h_2=>simp at hf
   rename_i k1 hk1;split at hf
   case isFalse=>simp at hf
   rename_i hsz;simp only[qa]at hf;obtain⟨k2,hk2,rfl⟩:=hf;have hlen:(k1++k2).length=k1.length+k2.length:=by simp
   have hp:=Xh (w:=w) hk1 hsz (cs:=cs) (off:=f.offset) (by rw[hno.2];omega);have hc:=ih f.type k1 hk1 ((cs.toList.drop f.offset).take k1.length) (by rw[hno.2];simp;omega);have hrest:=Qpp em ih (cs:=cs) fs (acc+k1.length) k2 hk2 (by omega);have hn:f.name ≠ "_" := hno.1;simp only[List.forIn_cons,hn,ne_eq,not_false_eq_true,if_true,Sem.run_bind,hp,Result.andThen_ok,hc,Sem.run_pure]
   simpa using hrest
theorem Qks {d n:Nat} (em:Bool) {e:TypeId} {ks:List Nat} (hk:flatK P d e=some ks) (hsz:(P.info? e).map (·.size)=some ks.length)
  (ih:∀T ks,flatK P d T=some ks->∀cx:List Value,cx.length=ks.length->(Instr.checkKey em n T (mkT P T cx)).run P w=.ok () w) {cs:Array Value} :
  ∀(k i:Nat),(i+k)*ks.length<=cs.size ->
   (forIn (List.range' i k) PUnit.unit (λi (_:PUnit)=>(do
     let s <- sizeOf e
     let a <- part e cs (i*s)
     Instr.checkKey em n e a
     pure (ForInStep.yield PUnit.unit):Sem (ForInStep PUnit)))).run P w=.ok PUnit.unit w
 | 0,_,_=>by simp
 | k+1,i,hl=>by
   have h1:(i+(k+1))*ks.length=i*ks.length+ks.length+k*ks.length:=by rw[Nat.add_mul,Nat.add_mul];omega
   have hp:=Xh (w:=w) hk hsz (cs:=cs) (off:=i*ks.length) (by omega);have hc:=ih e ks hk ((cs.toList.drop (i*ks.length)).take ks.length) (by simp;omega);have hrest:=Qks em hk hsz ih k (i+1) (by rw[show i+1+k=i+(k+1) by omega];exact hl);simp only[List.range'_succ,List.forIn_cons,Sem.run_bind,Qr hsz,Result.andThen_ok,hp,hc,Sem.run_pure,hrest]
theorem ck_ok:∀(d:Nat) (em:Bool) (n:Nat),d<n->∀T ks,flatK P d T=some ks->∀cx:List Value,cx.length=ks.length->(Instr.checkKey em n T (mkT P T cx)).run P w=.ok () w
 | 0,_,_,_,T,ks,hf,_,_=>by simp[flatK]at hf
 | d+1,em,n,hn,T,ks,hf,cx,hl=>by
   obtain⟨n,rfl⟩:∃n',n=n'+1:=⟨n-1,by omega⟩
   have ih:=ck_ok d em n (by omega);simp only[flatK]at hf;split at hf<;>rename_i hu
   ·generalize mkT P T cx=v;simp only[Instr.checkKey,Sem.run_bind,run_underlying hu,Result.andThen_ok];cases v<;>rfl
   ·generalize mkT P T cx=v;simp only[Instr.checkKey,Sem.run_bind,run_underlying hu,Result.andThen_ok];cases v<;>rfl
   ·generalize mkT P T cx=v;simp only[Instr.checkKey,Sem.run_bind,run_underlying hu,Result.andThen_ok];cases v<;>rfl
   ·rename_i fs;split at hf
    case isTrue=>simp at hf
    have h1:=Qpp (P:=P) (w:=w) (d:=d) (n:=n) em ih (cs:=cx.toArray) fs.toList 0 ks hf (by simpa using Nat.le_of_eq hl.symm);simp only[mkT,hu,Instr.checkKey,Sem.run_bind,run_underlying hu,Result.andThen_ok,<- Array.forIn_toList,h1,Sem.run_pure]
   ·rename_i k e;split at hf
    case h_2=>simp at hf
    rename_i k1 hk1;split at hf
    case isFalse=>simp at hf
    rename_i hsz;obtain rfl:=Option.some.inj hf;have h1:=Qks (P:=P) (w:=w) (d:=d) (n:=n) em hk1 hsz ih (cs:=cx.toArray) k 0 (by simp at hl;simp[hl]);simp only[mkT,hu,Instr.checkKey,Sem.run_bind,run_underlying hu,Result.andThen_ok,Std.Legacy.Range.forIn_eq_forIn_range',Std.Legacy.Range.size];simp only[Nat.sub_zero,Nat.add_sub_cancel,Nat.div_one,h1,Result.andThen_ok,Sem.run_pure]
   ·simp at hf
theorem Xd {T:TypeId} {ks:List Nat} (hk:J0 P T=some ks):flatK P 20 T=some ks /\
  ((((∃fs,P.underlying T=some (.struct fs))∨∃n e,P.underlying T=some (.array n e))/\ks.length≠1)∨((¬ ((∃fs,P.underlying T=some (.struct fs))∨∃n e,P.underlying T=some (.array n e)))/\ks.length=1)):=by
 unfold J0 at hk;split at hk
 case h_2=>simp at hk
 rename_i ks' hf;rcases Iy hf with⟨fs,hu⟩ | ⟨n,e,hu⟩ | ⟨hu,rfl⟩ | ⟨k,hu,rfl⟩ | ⟨hu,rfl⟩
 ·simp only[hu]at hk;split at hk
  case isTrue=>simp at hk
  rename_i h1;obtain rfl:=Option.some.inj hk;exact⟨hf,.inl ⟨.inl ⟨fs,hu⟩,h1⟩⟩
 ·simp only[hu]at hk;split at hk
  case isTrue=>simp at hk
  rename_i h1;obtain rfl:=Option.some.inj hk;exact⟨hf,.inl ⟨.inr ⟨n,e,hu⟩,h1⟩⟩
 all_goals
  simp only[hu]at hk;obtain rfl:=Option.some.inj hk;exact⟨hf,.inr ⟨by simp[hu],rfl⟩⟩
theorem Q0v {T:TypeId} {ks:List Nat} (hk:J0 P T=some ks) {X:V} {x:Value} (hx:RV J m w X x) (hs:Zl ks X=true) (hl:X.cells.length=ks.length) :
  ∃cx:List Value,x=mkT P T cx/\Pw (RC J m w) X.cells cx:=by
 obtain⟨_,h2⟩:=Xd hk;have hok:X.okA=true:=by cases X<;>simp[Zl]at hs<;>rfl
 have hcells:=I9 hx hok;cases X
 case a cs =>
  obtain⟨arr,rfl,hp⟩:=hx;simp only[Zl,Bool.not_eq_true',beq_eq_false_iff_ne]at hs;rcases h2 with⟨h3,_⟩ | ⟨_,h3⟩
  ·refine⟨arr.toList,?_,hp⟩;rcases h3 with⟨fs,hu⟩ | ⟨n,e,hu⟩<;>simp[mkT,hu]
  ·exact absurd h3 hs
 all_goals
  first
  | (simp[Zl]at hs;done)
  | (simp only[Zl,beq_iff_eq]at hs
     rcases h2 with⟨_,h3⟩ | ⟨h3,_⟩
     ·exact absurd hs h3
     ·refine⟨[x],?_,?_⟩
      ·unfold mkT;split
       ·rename_i hu;exact absurd (.inl ⟨_,hu⟩) h3
       ·rename_i hu;exact absurd (.inr ⟨_,_,hu⟩) h3
       ·rfl
      ·refine⟨rfl,λi v c h4 h5=>?_⟩;cases i with
       | zero =>
         simp[V.cells]at h4 h5
         subst h4;subst h5;exact hx
       | succ i=>simp at h5)
theorem Qu9:∀{ks:List Nat} {xs ys:List V} {cx cy:List Value},Zi ks xs ys=some true->Pw (RC J m w) xs cx->Pw (RC J m w) ys cy ->
  cx=cy/\∀c∈cx,∀n,Instr.sameBits (n+1) c c=true
 | [],[],[],cx,cy,_,hx,hy=>by
   have h1:=hx.1;have h2:=hy.1;simp at h1 h2;obtain rfl:=ql h1.symm;obtain rfl:=ql h2.symm;exact⟨rfl,by simp⟩
 | [],[],_::_,_,_,h,_,_=>by simp[Zi]at h
 | [],_::_,_,_,_,h,_,_=>by simp[Zi]at h
 | _::_,[],_,_,_,h,_,_=>by simp[Zi]at h
 | _::_,_::_,[],_,_,h,_,_=>by simp[Zi]at h
 | k::ks,x::xs,y::ys,cx,cy,h,hx,hy=>by
   simp only[Zi]at h;split at h
   case h_2=>simp at h
   rename_i a b ha hb;have hab:=Option.some.inj h;simp only[Bool.and_eq_true]at hab;obtain⟨rfl,rfl⟩:=hab
   match cx,cy,hx,hy with
   | [],_,hx,_=>have:=hx.1;simp at this
   | _::_,[],_,hy=>have:=hy.1;simp at this
   | c::cx,d::cy,hx,hy =>
     obtain⟨h1,h2⟩:=Qu9 hb hx.tail hy.tail;have h3:=hx.head;have h4:=hy.head;have h5:c=d/\∀n,Instr.sameBits (n+1) c c=true:=by
      cases x<;>cases y<;>simp[Q8v]at ha
      ·obtain⟨_,rfl⟩:=ha;obtain rfl:=Ym (Qh h3);obtain rfl:=Ym (Qh h4);exact⟨rfl,λn=>by simp[Instr.sameBits]⟩
      ·obtain⟨⟨_,rfl⟩,rfl⟩:=ha;obtain rfl:=Ze (Qh h3);obtain rfl:=Ze (Qh h4);exact⟨rfl,λn=>by simp[Instr.sameBits]⟩
      ·obtain⟨_,rfl⟩:=ha;obtain rfl:=Xo (Qh h3);obtain rfl:=Xo (Qh h4);exact⟨rfl,λn=>by simp[Instr.sameBits,MapKept.bytes_beq]⟩
     obtain⟨rfl,h6⟩:=h5;subst h1;refine⟨rfl,λc' hc'=>?_⟩;simp at hc';rcases hc' with rfl | hc'
     ·exact h6
     ·exact h2 c' hc'
theorem Qar {T:TypeId} {ks:List Nat} (hk:J0 P T=some ks) {X Y:V} {x y:Value} (hx:RV J m w X x) (hy:RV J m w Y y) (h1:Zl ks X=true) (h2:Zl ks Y=true) (he:Zi ks X.cells Y.cells=some true) :
  y=x/\(Instr.keyThatStays y x).run P w=.ok x w:=by
 obtain⟨l1,l2⟩:=Xn he;obtain⟨cx,rfl,hcx⟩:=Q0v hk hx h1 l1;obtain⟨cy,rfl,hcy⟩:=Q0v hk hy h2 l2;obtain⟨rfl,hsb⟩:=Qu9 he hcx hcy;refine⟨rfl,?_⟩;have:Instr.sameBits 10000 (mkT P T cx) (mkT P T cx)=true:=by
  have hall:Instr.sameBits 10000 (.agg cx.toArray) (.agg cx.toArray)=true:=by
   rw[show (10000:Nat)=9999+1 from rfl];simp only[Instr.sameBits,beq_self_eq_true,Bool.true_and,qj];rintro⟨a,b⟩ hab;have hz:∀(l:List Value) (p:Value × Value),p∈l.zip l->p.1=p.2/\p.1∈l:=by
    intro l
    induction l with
    | nil=>simp
    | cons z l ih =>
      intro p hp;simp at hp;rcases hp with rfl | hp
      ·exact⟨rfl,by simp⟩
      ·obtain⟨q1,q2⟩:=ih p hp;exact⟨q1,by simp[q2]⟩
   obtain⟨q1,q2⟩:=hz _ _ hab;simp only at q1 q2;subst q1;exact hsb a (by simpa using q2) 9998
  have hl:cx.length=ks.length:=by rw[<- hcx.1];exact l1
  rcases Xd hk with⟨_,⟨h3,_⟩ | ⟨h3,h4⟩⟩
  ·rcases h3 with⟨fs,hu⟩ | ⟨n,e,hu⟩<;>simp only[mkT,hu]<;>exact hall
  ·match cx,hl,hsb with
   | [c],_,hsb =>
     have:mkT P T [c]=c:=by
      unfold mkT;split
      ·rename_i hu;exact absurd (.inl ⟨_,hu⟩) h3
      ·rename_i hu;exact absurd (.inr ⟨_,_,hu⟩) h3
      ·rfl
     rw[this];exact hsb c (by simp) 9999
   | [],hl,_=>simp at hl;omega
   | _::_::_,hl,_=>simp at hl;omega
 simp[Instr.keyThatStays,this]
def EntsOk (J:Nat->Prop) (m:List Ent) (w:World) (ents:List (V × V)) (es:List MapEntry):Prop :=
 es.length=ents.length/\∀(i:Nat) (k v:V),ents[i]?=some (k,v)->∃en:MapEntry,es[i]?=some en/\RA J m w k en.key/\RA J m w v en.val
theorem EntsOk.tail {k v:V} {ents:List (V × V)} {e:MapEntry} {es:List MapEntry} (h:EntsOk J m w ((k,v)::ents) (e::es)):EntsOk J m w ents es :=
 ⟨by have:=h.1;simpa using this,λi k v hi=>by simpa using h.2 (i+1) k v (by simpa using hi)⟩
theorem fa_ok {T:TypeId} {ks:List Nat} (hk:J0 P T=some ks) {X:V} {x:Value} (hx:RV J m w X x):∀(ents:List (V × V)) (es:List MapEntry) (i:Nat) (res:Option (Nat × V)),EntsOk J m w ents es->Qo ks X ents=some res ->
  match res with
  | none=>(Instr.findAsking T x es i).run P w=.ok none w
  | some (j,v)=>∃en:MapEntry,es[j]?=some en/\RA J m w v en.val/\(Instr.findAsking T x es i).run P w=.ok (some (i+j,en.val)) w/\(∃k,ents[j]?=some (k,v)/\Zl ks k=true/\Zl ks X=true/\Zi ks X.cells k.cells=some true)
 | [],[],i,res,_,hf=>by
   simp only[Qo]at hf;split at hf
   case isFalse=>simp at hf
   obtain rfl:=Option.some.inj hf;simp[Instr.findAsking]
 | [],_::_,_,_,he,_=>by have:=he.1;simp at this
 | _::_,[],_,_,he,_=>by have:=he.1;simp at this
 | (k,v)::ents,e::es,i,res,he,hf=>by
   simp only[Qo]at hf;split at hf
   case isFalse=>simp at hf
   rename_i hsh;simp only[Bool.and_eq_true]at hsh;obtain⟨en,q1,q2,q3⟩:=he.2 0 k v rfl;simp only[List.getElem?_cons_zero,Option.some.injEq]at q1;subst q1;have heq:∀r,Zi ks X.cells k.cells=some r->(Op.equal T x e.key).run P w=.ok r w:=by
    intro r hr;obtain⟨l1,l2⟩:=Xn hr;obtain⟨cx,rfl,hcx⟩:=Q0v hk hx hsh.1 l1;obtain⟨cy,hy,hcy⟩:=Q0v hk (Z7 q2) hsh.2 l2;rw[hy];exact Q2p 20 T ks (Xd hk).1 10000 (by omega) _ _ _ _ r hcx hcy hr
   split at hf
   ·rename_i hv;obtain rfl:=Option.some.inj hf;refine⟨e,rfl,q3,?_,k,rfl,hsh.2,hsh.1,hv⟩;simp[Instr.findAsking,heq true hv]
   ·rename_i hv;obtain⟨r,hr,rfl⟩:=qa.1 hf;have ih:=fa_ok hk hx ents es (i+1) r he.tail hr;cases r with
    | none =>
      simp only[Option.map_none]at ih ⊢;simp[Instr.findAsking,heq false hv,ih]
    | some p =>
      obtain⟨j,v'⟩:=p;obtain⟨en,g1,g2,g3,k',g4,g5⟩:=ih;refine⟨en,by simpa using g1,g2,?_,k',by simpa using g4,g5⟩;simp only[Instr.findAsking,Sem.run_bind,heq false hv,Result.andThen_ok,Bool.false_eq_true,if_false,g3];rw[show i+1+j=i+(j+1) by omega]
   ·simp at hf
theorem fn_ok {T:TypeId} {ks:List Nat} {d:TypeDesc} (hk:J0 P T=some ks) (hd:P.underlying T=some d) (hsc:¬ ((∃fs,P.underlying T=some (.struct fs))∨∃n e,P.underlying T=some (.array n e))) {X:V} {x:Value} (hx:RV J m w X x) :
  ∀(ents:List (V × V)) (es:List MapEntry) (i:Nat) (res:Option (Nat × V)),EntsOk J m w ents es->Qo ks X ents=some res ->
  match res with
  | none=>Instr.findNow d x es i=some none
  | some (j,v)=>∃en:MapEntry,es[j]?=some en/\RA J m w v en.val/\Instr.findNow d x es i=some (some (i+j,en.val))/\(∃k,ents[j]?=some (k,v)/\Zl ks k=true/\Zl ks X=true/\Zi ks X.cells k.cells=some true)
 | [],[],i,res,_,hf=>by
   simp only[Qo]at hf;split at hf
   case isFalse=>simp at hf
   obtain rfl:=Option.some.inj hf;simp[Instr.findNow]
 | [],_::_,_,_,he,_=>by have:=he.1;simp at this
 | _::_,[],_,_,he,_=>by have:=he.1;simp at this
 | (k,v)::ents,e::es,i,res,he,hf=>by
   simp only[Qo]at hf;split at hf
   case isFalse=>simp at hf
   rename_i hsh;simp only[Bool.and_eq_true]at hsh;obtain⟨en,q1,q2,q3⟩:=he.2 0 k v rfl;simp only[List.getElem?_cons_zero,Option.some.injEq]at q1;subst q1;have heq:∀r,Zi ks X.cells k.cells=some r->Instr.sameNow d x e.key=some r:=by
    intro r hr;obtain⟨l1,l2⟩:=Xn hr;obtain⟨cx,rfl,hcx⟩:=Q0v hk hx hsh.1 l1;obtain⟨cy,hy,hcy⟩:=Q0v hk (Z7 q2) hsh.2 l2;rw[hy];have hmk:∀c,mkT P T [c]=c:=by
     intro c;unfold mkT;split
     ·rename_i hu;exact absurd (.inl ⟨_,hu⟩) hsc
     ·rename_i hu;exact absurd (.inr ⟨_,_,hu⟩) hsc
     ·rfl
    have hl:ks.length=1:=by
     rcases Xd hk with⟨_,⟨h3,_⟩ | ⟨_,h4⟩⟩
     ·exact absurd h3 hsc
     ·exact h4
    have hflat:=(Xd hk).1
    match hX:X.cells,hY:k.cells,cx,cy,l1,l2,hcx,hcy,hr with
    | [a],[b],[c],[c'],_,_,hcx,hcy,hr =>
      rw[hmk,hmk];rcases Iy hflat with h5 | h5 | ⟨hu,rfl⟩ | ⟨kk,hu,rfl⟩ | ⟨hu,rfl⟩
      ·exact absurd (.inl h5) hsc
      ·exact absurd (.inr h5) hsc
      all_goals
       obtain rfl:=Option.some.inj (hd.symm.trans hu);simp only[Zi]at hr;split at hr
       case h_2=>simp at hr
       rename_i p q hp hq;obtain rfl:=Option.some.inj hq;simp at hr;subst hr;cases a<;>cases b<;>simp[Q8v]at hp
      ·obtain rfl:=Ym (Qh hcx.head);obtain rfl:=Ym (Qh hcy.head);subst hp
       rfl
      ·obtain⟨rfl,rfl⟩:=hp;obtain rfl:=Ze (Qh hcx.head);obtain rfl:=Ze (Qh hcy.head);simp[Instr.sameNow]
      ·obtain rfl:=Xo (Qh hcx.head);obtain rfl:=Xo (Qh hcy.head);subst hp;simp only[Instr.sameNow,Option.some.injEq];rw[Bool.eq_iff_iff,MapKept.bytes_beq];simp
    | [],_,_,_,l1,_,_,_,_=>simp at l1;omega
    | _::_::_,_,_,_,l1,_,_,_,_=>simp at l1;omega
    | [_],[],_,_,_,l2,_,_,_=>simp at l2;omega
    | [_],_::_::_,_,_,_,l2,_,_,_=>simp at l2;omega
    | [_],[_],[],_,_,_,hcx,_,_=>have:=hcx.1;simp at this
    | [_],[_],_::_::_,_,_,_,hcx,_,_=>have:=hcx.1;simp at this
    | [_],[_],[_],[],_,_,_,hcy,_=>have:=hcy.1;simp at this
    | [_],[_],[_],_::_::_,_,_,_,hcy,_=>have:=hcy.1;simp at this
   split at hf
   ·rename_i hv;obtain rfl:=Option.some.inj hf;refine⟨e,rfl,q3,?_,k,rfl,hsh.2,hsh.1,hv⟩;simp[Instr.findNow,heq true hv]
   ·rename_i hv;obtain⟨r,hr,rfl⟩:=qa.1 hf;have ih:=fn_ok hk hd hsc hx ents es (i+1) r he.tail hr;cases r with
    | none =>
      simp only[Option.map_none]at ih ⊢;simp[Instr.findNow,heq false hv,ih]
    | some p =>
      obtain⟨j,v'⟩:=p;obtain⟨en,g1,g2,g3,k',g4,g5⟩:=ih;refine⟨en,by simpa using g1,g2,?_,k',by simpa using g4,g5⟩;simp only[Instr.findNow,heq false hv,g3];rw[show i+1+j=i+(j+1) by omega]
   ·simp at hf
theorem Qka {T:TypeId} {ks:List Nat} (hk:J0 P T=some ks) {X:V} {x:Value} (hx:RV J m w X x) {ents:List (V × V)} {es:List MapEntry} {res:Option (Nat × V)} (he:EntsOk J m w ents es) (hf:Qo ks X ents=some res) :
  match res with
  | none=>(Instr.findKey T x es).run P w=.ok none w
  | some (j,v)=>∃en:MapEntry,es[j]?=some en/\RA J m w v en.val/\(Instr.findKey T x es).run P w=.ok (some (j,en.val)) w/\(∃k,ents[j]?=some (k,v)/\Zl ks k=true/\Zl ks X=true/\Zi ks X.cells k.cells=some true):=by
 by_cases hagg:(∃fs,P.underlying T=some (.struct fs))∨∃n e,P.underlying T=some (.array n e)
 ·have h1:(Instr.findKey T x es).run P w=(Instr.findAsking T x es).run P w:=by
   apply run_findKey_eq;rcases hagg with⟨fs,hu⟩ | ⟨n,e,hu⟩<;>simp[hu]
  rw[h1];have:=fa_ok hk hx ents es 0 res he hf;cases res with
  | none=>exact this
  | some p=>obtain⟨j,v⟩:=p;simpa using this
 ·obtain⟨hfl,_⟩:=Xd hk;obtain⟨d,hd⟩:∃d,P.underlying T=some d:=by
   rcases Iy hfl with⟨fs,hu⟩ | ⟨n,e,hu⟩ | ⟨hu,_⟩ | ⟨k,hu,_⟩ | ⟨hu,_⟩<;>exact⟨_,hu⟩
  have:=fn_ok hk hd hagg hx ents es 0 res he hf;cases res with
  | none=>exact MapKept.run_findKey hd this
  | some p =>
    obtain⟨j,v⟩:=p;obtain⟨en,g1,g2,g3,g4⟩:=this;exact⟨en,g1,g2,MapKept.run_findKey hd (by simpa using g3),g4⟩
theorem Kp {ks:List Nat} {X:V}:∀{ents:List (V × V)} {res:Option (Nat × V)},Qo ks X ents=some res->Zl ks X=true/\X.cells.length=ks.length
 | [],res,h=>by
   simp only[Qo]at h;split at h
   ·rename_i hh;simpa using hh
   ·simp at h
 | (k,v)::ents,res,h=>by
   simp only[Qo]at h;split at h
   case isFalse=>simp at h
   rename_i hh;simp only[Bool.and_eq_true]at hh;split at h
   ·rename_i hv;exact⟨hh.1,(Xn hv).1⟩
   ·rename_i hv;exact⟨hh.1,(Xn hv).1⟩
   ·simp at h
theorem U3 {T:TypeId} {ks:List Nat} (hk:J0 P T=some ks) {X:V} {x:Value} (hx:RV J m w X x) {ents:List (V × V)} {res:Option (Nat × V)} (hf:Qo ks X ents=some res) (em:Bool):(Instr.checkKey em 10000 T x).run P w=.ok () w:=by
 obtain⟨h1,h2⟩:=Kp hf;obtain⟨cx,rfl,hcx⟩:=Q0v hk hx h1 h2;exact ck_ok 20 em 10000 (by omega) T ks (Xd hk).1 cx (by rw[<- hcx.1];exact h2)
theorem zV_ok {T:TypeId} {z:V} (hz:zV P T=some z):∃v,(∀w,(zeroValue T).run P w=.ok v w)/\∀(J:Nat->Prop) m w,RA J m w z v:=by
 unfold zV at hz;simp only[qr]at hz;obtain⟨i,hi,v,hv,hm⟩:=hz;refine⟨v,λw=>by simp[zeroValue,typeInfo,hi,hv],λJ m w=>?_⟩;split at hm
 ·rename_i cs;obtain⟨l,hl,rfl⟩:=qa.1 hm;exact⟨cs,rfl,Q2f hl⟩
 ·exact Qy (Qnf hm)
end
end Go.Abs
