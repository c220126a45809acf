/- Maps: what the operations on them come to. -/
import Derived.Test.YtcdjgldeiaiaoaaGreatAbsK
import Derived.Maps.RangeRun
set_option linter.unusedVariables false
set_option linter.unusedSimpArgs false
namespace Go.Abs
open Go.RowKit
def Xb (P:Program) (T:TypeId):Option (List Nat) :=
 match flatK P 20 T with
 | some ks=>match P.underlying T with
   | some (.struct _) | some (.array _ _)=>if ks.length=1 then none else some ks
   | _=>some ks
 | none=>none
def zV (P:Program) (T:TypeId):Option V:=(P.info? T).bind λi=>i.zero.bind λz=>match z with
 | .agg cs=>(cs.toList.mapM cvL).map .a
 | v=>cvL v
section
variable {P:Program} {J:Nat->Prop} {m:List Ent} {w:World} {h:List O}
theorem Qdg {d n:Nat} (em:Bool) (ih:∀T ks,flatK P d T=some ks->∀cx:List Value,cx.length=ks.length->(Instr.checkKey em n T (mkT P T cx)).run P w=.ok () w) {cs:Array Value} :
  ∀(fs:List Field) (acc:Nat) (ks:List Nat),Ed P (flatK P d) fs acc=some ks->acc+ks.length<=cs.size ->
   (forIn fs PUnit.unit (λf (_:PUnit)=>if f.name ≠ "_" then do
     let a <- part f.type cs f.offset
     Instr.checkKey em n f.type a
     pure (ForInStep.yield PUnit.unit)
    else pure (ForInStep.yield PUnit.unit):Field->PUnit->Sem (ForInStep PUnit))).run P w=.ok PUnit.unit w
 | [],_,_,_,_=>by simp
 | f::fs,acc,ks,hf,hl=>by
   simp only[Ed]at hf
   split at hf
   case isTrue=>simp at hf
   rename_i hno
   simp only[not_or,Decidable.not_not]at hno
   split at hf
   case h_2=>simp at hf
   rename_i k1 hk1
   split at hf
   case isFalse=>simp at hf
   rename_i hsz
   simp only[qa]at hf
   obtain⟨k2,hk2,rfl⟩:=hf
   have hlen:(k1++k2).length=k1.length+k2.length:=by simp
   have hp:=Yr (w:=w) hk1 hsz (cs:=cs) (off:=f.offset) (by rw[hno.2];omega)
   have hc:=ih f.type k1 hk1 ((cs.toList.drop f.offset).take k1.length) (by rw[hno.2];simp;omega)
   have hrest:=Qdg em ih (cs:=cs) fs (acc+k1.length) k2 hk2 (by omega)
   have hn:f.name ≠ "_" := hno.1
   simp only[List.forIn_cons,hn,ne_eq,not_false_eq_true,if_true,Sem.run_bind,hp,Result.andThen_ok,hc,Sem.run_pure]
   simpa using hrest
theorem Q9g {d n:Nat} (em:Bool) {e:TypeId} {ks:List Nat} (hk:flatK P d e=some ks) (hsz:(P.info? e).map (·.size)=some ks.length)
  (ih:∀T ks,flatK P d T=some ks->∀cx:List Value,cx.length=ks.length->(Instr.checkKey em n T (mkT P T cx)).run P w=.ok () w) {cs:Array Value} :
  ∀(k i:Nat),(i+k)*ks.length<=cs.size ->
   (forIn (List.range' i k) PUnit.unit (λi (_:PUnit)=>(do
     let s <- sizeOf e
     let a <- part e cs (i*s)
     Instr.checkKey em n e a
     pure (ForInStep.yield PUnit.unit):Sem (ForInStep PUnit)))).run P w=.ok PUnit.unit w
 | 0,_,_=>by simp
 | k+1,i,hl=>by
   have h1:(i+(k+1))*ks.length=i*ks.length+ks.length+k*ks.length:=by rw[Nat.add_mul,Nat.add_mul];omega
   have hp:=Yr (w:=w) hk hsz (cs:=cs) (off:=i*ks.length) (by omega)
   have hc:=ih e ks hk ((cs.toList.drop (i*ks.length)).take ks.length) (by simp;omega)
   have hrest:=Q9g em hk hsz ih k (i+1) (by rw[show i+1+k=i+(k+1) by omega];exact hl)
   simp only[List.range'_succ,List.forIn_cons,Sem.run_bind,Qm hsz,Result.andThen_ok,hp,hc,Sem.run_pure,hrest]
theorem ck_ok:∀(d:Nat) (em:Bool) (n:Nat),d<n->∀T ks,flatK P d T=some ks->∀cx:List Value,cx.length=ks.length->(Instr.checkKey em n T (mkT P T cx)).run P w=.ok () w
 | 0,_,_,_,T,ks,hf,_,_=>by simp[flatK]at hf
 | d+1,em,n,hn,T,ks,hf,cx,hl=>by
   obtain⟨n,rfl⟩:∃n',n=n'+1:=⟨n-1,by omega⟩
   have ih:=ck_ok d em n (by omega)
   simp only[flatK]at hf
   split at hf<;>rename_i hu
   ·generalize mkT P T cx=v
    simp only[Instr.checkKey,Sem.run_bind,run_underlying hu,Result.andThen_ok]
    cases v<;>rfl
   ·generalize mkT P T cx=v
    simp only[Instr.checkKey,Sem.run_bind,run_underlying hu,Result.andThen_ok]
    cases v<;>rfl
   ·generalize mkT P T cx=v
    simp only[Instr.checkKey,Sem.run_bind,run_underlying hu,Result.andThen_ok]
    cases v<;>rfl
   ·rename_i fs
    split at hf
    case isTrue=>simp at hf
    have h1:=Qdg (P:=P) (w:=w) (d:=d) (n:=n) em ih (cs:=cx.toArray) fs.toList 0 ks hf (by simpa using Nat.le_of_eq hl.symm)
    simp only[mkT,hu,Instr.checkKey,Sem.run_bind,run_underlying hu,Result.andThen_ok,<- Array.forIn_toList,h1,Sem.run_pure]
   ·rename_i k e
    split at hf
    case h_2=>simp at hf
    rename_i k1 hk1
    split at hf
    case isFalse=>simp at hf
    rename_i hsz
    obtain rfl:=Option.some.inj hf
    have h1:=Q9g (P:=P) (w:=w) (d:=d) (n:=n) em hk1 hsz ih (cs:=cx.toArray) k 0 (by simp at hl;simp[hl])
    simp only[mkT,hu,Instr.checkKey,Sem.run_bind,run_underlying hu,Result.andThen_ok,Std.Legacy.Range.forIn_eq_forIn_range',Std.Legacy.Range.size]
    simp only[Nat.sub_zero,Nat.add_sub_cancel,Nat.div_one,h1,Result.andThen_ok,Sem.run_pure]
   ·simp at hf
theorem Yp {T:TypeId} {ks:List Nat} (hk:Xb P T=some ks):flatK P 20 T=some ks /\
  ((((∃fs,P.underlying T=some (.struct fs))∨∃n e,P.underlying T=some (.array n e))/\ks.length≠1)∨((¬ ((∃fs,P.underlying T=some (.struct fs))∨∃n e,P.underlying T=some (.array n e)))/\ks.length=1)):=by
 unfold Xb at hk
 split at hk
 case h_2=>simp at hk
 rename_i ks' hf
 rcases Wz hf with⟨fs,hu⟩ | ⟨n,e,hu⟩ | ⟨hu,rfl⟩ | ⟨k,hu,rfl⟩ | ⟨hu,rfl⟩
 ·simp only[hu]at hk
  split at hk
  case isTrue=>simp at hk
  rename_i h1
  obtain rfl:=Option.some.inj hk
  exact⟨hf,.inl ⟨.inl ⟨fs,hu⟩,h1⟩⟩
 ·simp only[hu]at hk
  split at hk
  case isTrue=>simp at hk
  rename_i h1
  obtain rfl:=Option.some.inj hk
  exact⟨hf,.inl ⟨.inr ⟨n,e,hu⟩,h1⟩⟩
 all_goals
  simp only[hu]at hk
  obtain rfl:=Option.some.inj hk
  exact⟨hf,.inr ⟨by simp[hu],rfl⟩⟩
theorem E9 {T:TypeId} {ks:List Nat} (hk:Xb P T=some ks) {X:V} {x:Value} (hx:RV J m w X x) (hs:Za ks X=true) (hl:X.cells.length=ks.length) :
  ∃cx:List Value,x=mkT P T cx/\Pw (RC J m w) X.cells cx:=by
 obtain⟨_,h2⟩:=Yp hk
 have hok:X.okA=true:=by cases X<;>simp[Za]at hs<;>rfl
 have hcells:=Wl hx hok
 cases X
 case a cs =>
  obtain⟨arr,rfl,hp⟩:=hx
  simp only[Za,Bool.not_eq_true',beq_eq_false_iff_ne]at hs
  rcases h2 with⟨h3,_⟩ | ⟨_,h3⟩
  ·refine⟨arr.toList,?_,hp⟩
   rcases h3 with⟨fs,hu⟩ | ⟨n,e,hu⟩<;>simp[mkT,hu]
  ·exact absurd h3 hs
 all_goals
  first
  | (simp[Za]at hs;done)
  | (simp only[Za,beq_iff_eq]at hs
     rcases h2 with⟨_,h3⟩ | ⟨h3,_⟩
     ·exact absurd hs h3
     ·refine⟨[x],?_,?_⟩
      ·unfold mkT
       split
       ·rename_i hu;exact absurd (.inl ⟨_,hu⟩) h3
       ·rename_i hu;exact absurd (.inr ⟨_,_,hu⟩) h3
       ·rfl
      ·refine⟨rfl,λi v c h4 h5=>?_⟩
       cases i with
       | zero =>
         simp[V.cells]at h4 h5
         subst h4;subst h5
         exact hx
       | succ i=>simp at h5)
theorem Qgw:∀{ks:List Nat} {xs ys:List V} {cx cy:List Value},Z3 ks xs ys=some true->Pw (RC J m w) xs cx->Pw (RC J m w) ys cy ->
  cx=cy/\∀c∈cx,∀n,Instr.sameBits (n+1) c c=true
 | [],[],[],cx,cy,_,hx,hy=>by
   have h1:=hx.1;have h2:=hy.1
   simp at h1 h2
   obtain rfl:=qm h1.symm
   obtain rfl:=qm h2.symm
   exact⟨rfl,by simp⟩
 | [],[],_::_,_,_,h,_,_=>by simp[Z3]at h
 | [],_::_,_,_,_,h,_,_=>by simp[Z3]at h
 | _::_,[],_,_,_,h,_,_=>by simp[Z3]at h
 | _::_,_::_,[],_,_,h,_,_=>by simp[Z3]at h
 | k::ks,x::xs,y::ys,cx,cy,h,hx,hy=>by
   simp only[Z3]at h
   split at h
   case h_2=>simp at h
   rename_i a b ha hb
   have hab:=Option.some.inj h
   simp only[Bool.and_eq_true]at hab
   obtain⟨rfl,rfl⟩:=hab
   match cx,cy,hx,hy with
   | [],_,hx,_=>have:=hx.1;simp at this
   | _::_,[],_,hy=>have:=hy.1;simp at this
   | c::cx,d::cy,hx,hy =>
     obtain⟨h1,h2⟩:=Qgw hb hx.tail hy.tail
     have h3:=hx.head
     have h4:=hy.head
     have h5:c=d/\∀n,Instr.sameBits (n+1) c c=true:=by
      cases x<;>cases y<;>simp[Er]at ha
      ·obtain⟨_,rfl⟩:=ha
       obtain rfl:=Y4 (Qe h3)
       obtain rfl:=Y4 (Qe h4)
       exact⟨rfl,λn=>by simp[Instr.sameBits]⟩
      ·obtain⟨⟨_,rfl⟩,rfl⟩:=ha
       obtain rfl:=Z5 (Qe h3)
       obtain rfl:=Z5 (Qe h4)
       exact⟨rfl,λn=>by simp[Instr.sameBits]⟩
      ·obtain⟨_,rfl⟩:=ha
       obtain rfl:=X1 (Qe h3)
       obtain rfl:=X1 (Qe h4)
       exact⟨rfl,λn=>by simp[Instr.sameBits,MapKept.bytes_beq]⟩
     obtain⟨rfl,h6⟩:=h5
     subst h1
     refine⟨rfl,λc' hc'=>?_⟩
     simp at hc'
     rcases hc' with rfl | hc'
     ·exact h6
     ·exact h2 c' hc'
theorem Q2s {T:TypeId} {ks:List Nat} (hk:Xb P T=some ks) {X Y:V} {x y:Value} (hx:RV J m w X x) (hy:RV J m w Y y) (h1:Za ks X=true) (h2:Za ks Y=true) (he:Z3 ks X.cells Y.cells=some true) :
  y=x/\(Instr.keyThatStays y x).run P w=.ok x w:=by
 obtain⟨l1,l2⟩:=Yy he
 obtain⟨cx,rfl,hcx⟩:=E9 hk hx h1 l1
 obtain⟨cy,rfl,hcy⟩:=E9 hk hy h2 l2
 obtain⟨rfl,hsb⟩:=Qgw he hcx hcy
 refine⟨rfl,?_⟩
 have:Instr.sameBits 10000 (mkT P T cx) (mkT P T cx)=true:=by
  have hall:Instr.sameBits 10000 (.agg cx.toArray) (.agg cx.toArray)=true:=by
   rw[show (10000:Nat)=9999+1 from rfl]
   simp only[Instr.sameBits,beq_self_eq_true,Bool.true_and,qj]
   rintro⟨a,b⟩ hab
   have hz:∀(l:List Value) (p:Value × Value),p∈l.zip l->p.1=p.2/\p.1∈l:=by
    intro l
    induction l with
    | nil=>simp
    | cons z l ih =>
      intro p hp
      simp at hp
      rcases hp with rfl | hp
      ·exact⟨rfl,by simp⟩
      ·obtain⟨q1,q2⟩:=ih p hp
       exact⟨q1,by simp[q2]⟩
   obtain⟨q1,q2⟩:=hz _ _ hab
   simp only at q1 q2
   subst q1
   exact hsb a (by simpa using q2) 9998
  have hl:cx.length=ks.length:=by rw[<- hcx.1];exact l1
  rcases Yp hk with⟨_,⟨h3,_⟩ | ⟨h3,h4⟩⟩
  ·rcases h3 with⟨fs,hu⟩ | ⟨n,e,hu⟩<;>simp only[mkT,hu]<;>exact hall
  ·match cx,hl,hsb with
   | [c],_,hsb =>
     have:mkT P T [c]=c:=by
      unfold mkT
      split
      ·rename_i hu;exact absurd (.inl ⟨_,hu⟩) h3
      ·rename_i hu;exact absurd (.inr ⟨_,_,hu⟩) h3
      ·rfl
     rw[this]
     exact hsb c (by simp) 9999
   | [],hl,_=>simp at hl;omega
   | _::_::_,hl,_=>simp at hl;omega
 simp[Instr.keyThatStays,this]
def EntsOk (J:Nat->Prop) (m:List Ent) (w:World) (ents:List (V × V)) (es:List MapEntry):Prop :=
 es.length=ents.length/\∀(i:Nat) (k v:V),ents[i]?=some (k,v)->∃en:MapEntry,es[i]?=some en/\RA J m w k en.key/\RA J m w v en.val
theorem EntsOk.tail {k v:V} {ents:List (V × V)} {e:MapEntry} {es:List MapEntry} (h:EntsOk J m w ((k,v)::ents) (e::es)):EntsOk J m w ents es :=
 ⟨by have:=h.1;simpa using this,λi k v hi=>by simpa using h.2 (i+1) k v (by simpa using hi)⟩
theorem fa_ok {T:TypeId} {ks:List Nat} (hk:Xb P T=some ks) {X:V} {x:Value} (hx:RV J m w X x):∀(ents:List (V × V)) (es:List MapEntry) (i:Nat) (res:Option (Nat × V)),EntsOk J m w ents es->Qh ks X ents=some res ->
  match res with
  | none=>(Instr.findAsking T x es i).run P w=.ok none w
  | some (j,v)=>∃en:MapEntry,es[j]?=some en/\RA J m w v en.val/\(Instr.findAsking T x es i).run P w=.ok (some (i+j,en.val)) w/\(∃k,ents[j]?=some (k,v)/\Za ks k=true/\Za ks X=true/\Z3 ks X.cells k.cells=some true)
 | [],[],i,res,_,hf=>by
   simp only[Qh]at hf
   split at hf
   case isFalse=>simp at hf
   obtain rfl:=Option.some.inj hf
   simp[Instr.findAsking]
 | [],_::_,_,_,he,_=>by have:=he.1;simp at this
 | _::_,[],_,_,he,_=>by have:=he.1;simp at this
 | (k,v)::ents,e::es,i,res,he,hf=>by
   simp only[Qh]at hf
   split at hf
   case isFalse=>simp at hf
   rename_i hsh
   simp only[Bool.and_eq_true]at hsh
   obtain⟨en,q1,q2,q3⟩:=he.2 0 k v rfl
   simp only[List.getElem?_cons_zero,Option.some.injEq]at q1
   subst q1
   have heq:∀r,Z3 ks X.cells k.cells=some r->(Op.equal T x e.key).run P w=.ok r w:=by
    intro r hr
    obtain⟨l1,l2⟩:=Yy hr
    obtain⟨cx,rfl,hcx⟩:=E9 hk hx hsh.1 l1
    obtain⟨cy,hy,hcy⟩:=E9 hk (Qw q2) hsh.2 l2
    rw[hy]
    exact Ig 20 T ks (Yp hk).1 10000 (by omega) _ _ _ _ r hcx hcy hr
   split at hf
   ·rename_i hv
    obtain rfl:=Option.some.inj hf
    refine⟨e,rfl,q3,?_,k,rfl,hsh.2,hsh.1,hv⟩
    simp[Instr.findAsking,heq true hv]
   ·rename_i hv
    obtain⟨r,hr,rfl⟩:=qa.1 hf
    have ih:=fa_ok hk hx ents es (i+1) r he.tail hr
    cases r with
    | none =>
      simp only[Option.map_none]at ih ⊢
      simp[Instr.findAsking,heq false hv,ih]
    | some p =>
      obtain⟨j,v'⟩:=p
      obtain⟨en,g1,g2,g3,k',g4,g5⟩:=ih
      refine⟨en,by simpa using g1,g2,?_,k',by simpa using g4,g5⟩
      simp only[Instr.findAsking,Sem.run_bind,heq false hv,Result.andThen_ok,Bool.false_eq_true,if_false,g3]
      rw[show i+1+j=i+(j+1) by omega]
   ·simp at hf
theorem fn_ok {T:TypeId} {ks:List Nat} {d:TypeDesc} (hk:Xb P T=some ks) (hd:P.underlying T=some d) (hsc:¬ ((∃fs,P.underlying T=some (.struct fs))∨∃n e,P.underlying T=some (.array n e))) {X:V} {x:Value} (hx:RV J m w X x) :
  ∀(ents:List (V × V)) (es:List MapEntry) (i:Nat) (res:Option (Nat × V)),EntsOk J m w ents es->Qh ks X ents=some res ->
  match res with
  | none=>Instr.findNow d x es i=some none
  | some (j,v)=>∃en:MapEntry,es[j]?=some en/\RA J m w v en.val/\Instr.findNow d x es i=some (some (i+j,en.val))/\(∃k,ents[j]?=some (k,v)/\Za ks k=true/\Za ks X=true/\Z3 ks X.cells k.cells=some true)
 | [],[],i,res,_,hf=>by
   simp only[Qh]at hf
   split at hf
   case isFalse=>simp at hf
   obtain rfl:=Option.some.inj hf
   simp[Instr.findNow]
 | [],_::_,_,_,he,_=>by have:=he.1;simp at this
 | _::_,[],_,_,he,_=>by have:=he.1;simp at this
 | (k,v)::ents,e::es,i,res,he,hf=>by
   simp only[Qh]at hf
   split at hf
   case isFalse=>simp at hf
   rename_i hsh
   simp only[Bool.and_eq_true]at hsh
   obtain⟨en,q1,q2,q3⟩:=he.2 0 k v rfl
   simp only[List.getElem?_cons_zero,Option.some.injEq]at q1
   subst q1
   have heq:∀r,Z3 ks X.cells k.cells=some r->Instr.sameNow d x e.key=some r:=by
    intro r hr
    obtain⟨l1,l2⟩:=Yy hr
    obtain⟨cx,rfl,hcx⟩:=E9 hk hx hsh.1 l1
    obtain⟨cy,hy,hcy⟩:=E9 hk (Qw q2) hsh.2 l2
    rw[hy]
    have hmk:∀c,mkT P T [c]=c:=by
     intro c
     unfold mkT
     split
     ·rename_i hu;exact absurd (.inl ⟨_,hu⟩) hsc
     ·rename_i hu;exact absurd (.inr ⟨_,_,hu⟩) hsc
     ·rfl
    have hl:ks.length=1:=by
     rcases Yp hk with⟨_,⟨h3,_⟩ | ⟨_,h4⟩⟩
     ·exact absurd h3 hsc
     ·exact h4
    have hflat:=(Yp hk).1
    match hX:X.cells,hY:k.cells,cx,cy,l1,l2,hcx,hcy,hr with
    | [a],[b],[c],[c'],_,_,hcx,hcy,hr =>
      rw[hmk,hmk]
      rcases Wz hflat with h5 | h5 | ⟨hu,rfl⟩ | ⟨kk,hu,rfl⟩ | ⟨hu,rfl⟩
      ·exact absurd (.inl h5) hsc
      ·exact absurd (.inr h5) hsc
      all_goals
       obtain rfl:=Option.some.inj (hd.symm.trans hu)
       simp only[Z3]at hr
       split at hr
       case h_2=>simp at hr
       rename_i p q hp hq
       obtain rfl:=Option.some.inj hq
       simp at hr
       subst hr
       cases a<;>cases b<;>simp[Er]at hp
      ·obtain rfl:=Y4 (Qe hcx.head)
       obtain rfl:=Y4 (Qe hcy.head)
       subst hp
       rfl
      ·obtain⟨rfl,rfl⟩:=hp
       obtain rfl:=Z5 (Qe hcx.head)
       obtain rfl:=Z5 (Qe hcy.head)
       simp[Instr.sameNow]
      ·obtain rfl:=X1 (Qe hcx.head)
       obtain rfl:=X1 (Qe hcy.head)
       subst hp
       simp only[Instr.sameNow,Option.some.injEq]
       rw[Bool.eq_iff_iff,MapKept.bytes_beq]
       simp
    | [],_,_,_,l1,_,_,_,_=>simp at l1;omega
    | _::_::_,_,_,_,l1,_,_,_,_=>simp at l1;omega
    | [_],[],_,_,_,l2,_,_,_=>simp at l2;omega
    | [_],_::_::_,_,_,_,l2,_,_,_=>simp at l2;omega
    | [_],[_],[],_,_,_,hcx,_,_=>have:=hcx.1;simp at this
    | [_],[_],_::_::_,_,_,_,hcx,_,_=>have:=hcx.1;simp at this
    | [_],[_],[_],[],_,_,_,hcy,_=>have:=hcy.1;simp at this
    | [_],[_],[_],_::_::_,_,_,_,hcy,_=>have:=hcy.1;simp at this
   split at hf
   ·rename_i hv
    obtain rfl:=Option.some.inj hf
    refine⟨e,rfl,q3,?_,k,rfl,hsh.2,hsh.1,hv⟩
    simp[Instr.findNow,heq true hv]
   ·rename_i hv
    obtain⟨r,hr,rfl⟩:=qa.1 hf
    have ih:=fn_ok hk hd hsc hx ents es (i+1) r he.tail hr
    cases r with
    | none =>
      simp only[Option.map_none]at ih ⊢
      simp[Instr.findNow,heq false hv,ih]
    | some p =>
      obtain⟨j,v'⟩:=p
      obtain⟨en,g1,g2,g3,k',g4,g5⟩:=ih
      refine⟨en,by simpa using g1,g2,?_,k',by simpa using g4,g5⟩
      simp only[Instr.findNow,heq false hv,g3]
      rw[show i+1+j=i+(j+1) by omega]
   ·simp at hf
theorem Q8w {T:TypeId} {ks:List Nat} (hk:Xb P T=some ks) {X:V} {x:Value} (hx:RV J m w X x) {ents:List (V × V)} {es:List MapEntry} {res:Option (Nat × V)} (he:EntsOk J m w ents es) (hf:Qh ks X ents=some res) :
  match res with
  | none=>(Instr.findKey T x es).run P w=.ok none w
  | some (j,v)=>∃en:MapEntry,es[j]?=some en/\RA J m w v en.val/\(Instr.findKey T x es).run P w=.ok (some (j,en.val)) w/\(∃k,ents[j]?=some (k,v)/\Za ks k=true/\Za ks X=true/\Z3 ks X.cells k.cells=some true):=by
 by_cases hagg:(∃fs,P.underlying T=some (.struct fs))∨∃n e,P.underlying T=some (.array n e)
 ·have h1:(Instr.findKey T x es).run P w=(Instr.findAsking T x es).run P w:=by
   apply run_findKey_eq
   rcases hagg with⟨fs,hu⟩ | ⟨n,e,hu⟩<;>simp[hu]
  rw[h1]
  have:=fa_ok hk hx ents es 0 res he hf
  cases res with
  | none=>exact this
  | some p=>obtain⟨j,v⟩:=p;simpa using this
 ·obtain⟨hfl,_⟩:=Yp hk
  obtain⟨d,hd⟩:∃d,P.underlying T=some d:=by
   rcases Wz hfl with⟨fs,hu⟩ | ⟨n,e,hu⟩ | ⟨hu,_⟩ | ⟨k,hu,_⟩ | ⟨hu,_⟩<;>exact⟨_,hu⟩
  have:=fn_ok hk hd hagg hx ents es 0 res he hf
  cases res with
  | none=>exact MapKept.run_findKey hd this
  | some p =>
    obtain⟨j,v⟩:=p
    obtain⟨en,g1,g2,g3,g4⟩:=this
    exact⟨en,g1,g2,MapKept.run_findKey hd (by simpa using g3),g4⟩
theorem J3 {ks:List Nat} {X:V}:∀{ents:List (V × V)} {res:Option (Nat × V)},Qh ks X ents=some res->Za ks X=true/\X.cells.length=ks.length
 | [],res,h=>by
   simp only[Qh]at h
   split at h
   ·rename_i hh
    simpa using hh
   ·simp at h
 | (k,v)::ents,res,h=>by
   simp only[Qh]at h
   split at h
   case isFalse=>simp at h
   rename_i hh
   simp only[Bool.and_eq_true]at hh
   split at h
   ·rename_i hv;exact⟨hh.1,(Yy hv).1⟩
   ·rename_i hv;exact⟨hh.1,(Yy hv).1⟩
   ·simp at h
theorem Jw {T:TypeId} {ks:List Nat} (hk:Xb P T=some ks) {X:V} {x:Value} (hx:RV J m w X x) {ents:List (V × V)} {res:Option (Nat × V)} (hf:Qh ks X ents=some res) (em:Bool):(Instr.checkKey em 10000 T x).run P w=.ok () w:=by
 obtain⟨h1,h2⟩:=J3 hf
 obtain⟨cx,rfl,hcx⟩:=E9 hk hx h1 h2
 exact ck_ok 20 em 10000 (by omega) T ks (Yp hk).1 cx (by rw[<- hcx.1];exact h2)
theorem zV_ok {T:TypeId} {z:V} (hz:zV P T=some z):∃v,(∀w,(zeroValue T).run P w=.ok v w)/\∀(J:Nat->Prop) m w,RA J m w z v:=by
 unfold zV at hz
 simp only[qt]at hz
 obtain⟨i,hi,v,hv,hm⟩:=hz
 refine⟨v,λw=>by simp[zeroValue,typeInfo,hi,hv],λJ m w=>?_⟩
 split at hm
 ·rename_i cs
  obtain⟨l,hl,rfl⟩:=qa.1 hm
  exact⟨cs,rfl,I9 hl⟩
 ·exact Qq (Qbo hm)
end
end Go.Abs
