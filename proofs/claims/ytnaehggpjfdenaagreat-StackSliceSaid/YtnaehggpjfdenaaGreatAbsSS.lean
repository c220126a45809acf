/- Part of the library on which the proof stands: an abstract machine, its values and its soundness against the model; or what functions of the program do to such values. -/
import Derived.Test.YtnaehggpjfdenaaGreatAbsW
import Derived.ProofKit
import Derived.OpenShut
import Derived.Sort.Statements
set_option linter.unusedVariables false
set_option linter.unusedSimpArgs false
namespace Go.Abs
open Go.RowKit
inductive Sch where
 | b
 | i (k:IntKind)
 | s
 | sl (el:List Sch)
mutual
def Sch.ok:Sch->V->Prop
 | .b,v=>∃x,v=.b x
 | .i k,v=>∃n,v=.i k n/\k.min<=n/\n<=k.max
 | .s,v=>∃l,v=.s l/\l.length<=9223372036854775807
 | .sl el,v=>∃els,v=.l el.length els/\els.length<=9223372036854775807/\∀e∈els,okL el e
def okL:List Sch->List V->Prop
 | [],vs=>vs=[]
 | c::cs,vs=>∃v r,vs=v::r/\c.ok v/\okL cs r
end
theorem Qbd:∀{ss:List Sch} {vs:List V},okL ss vs->vs.length=ss.length
 | [],vs,h=>by rw[okL]at h;subst h;rfl
 | c::cs,vs,h=>by rw[okL]at h;obtain⟨v,r,rfl,_,h2⟩:=h;simp[Qbd h2]
theorem Qjj {c:Sch} {v:V} (h:c.ok v):okL [c] [v]:=by
 rw[okL];exact⟨v,[],rfl,h,by rw[okL]⟩
theorem Ik:∀{ss ts:List Sch} {vs us:List V},okL ss vs->okL ts us->okL (ss++ts) (vs++us)
 | [],ts,vs,us,h,k=>by rw[okL]at h;subst h;exact k
 | c::cs,ts,vs,us,h,k=>by
   rw[okL]at h
   obtain⟨v,r,rfl,h1,h2⟩:=h
   rw[List.cons_append,okL]
   exact⟨v,r++us,rfl,h1,Ik h2 k⟩
def Qe3 (P:Program) (g:TypeId->Option (List Sch)):List Field->Nat->Option (List Sch)
 | [],_=>some []
 | f::fs,acc=>match g f.type with
   | some ss=>if f.offset=acc/\P.cellsOf f.type=ss.length then (Qe3 P g fs (acc+ss.length)).map (ss++·) else none
   | none=>none
def Bd (P:Program):Nat->TypeId->Option (List Sch)
 | 0,_=>none
 | d+1,T=>match P.underlying T with
   | some .bool=>some [.b]
   | some (.int k)=>some [.i k]
   | some .string=>some [.s]
   | some (.slice e)=>match Bd P d e with
     | some el=>if P.cellsOf e=el.length/\0<el.length then some [.sl el] else none
     | none=>none
   | some (.struct fs)=>match Qe3 P (Bd P d) fs.toList 0 with
     | some ss=>if P.cellsOf T=ss.length then some ss else none
     | none=>none
   | some (.array n e)=>match Bd P d e with
     | some el=>if P.cellsOf e=el.length/\P.cellsOf T=n*el.length then some (List.replicate n el).flatten else none
     | none=>none
   | _=>none
section
variable {P:Program} {w:World} {H:Type} {enc:TypeId × Value->H} {sp:Nat->Bool} {held:Bool}
def Qcv (P:Program) (w:World) {H:Type} (enc:TypeId × Value->H) (sp:Nat->Bool) (held:Bool) (d:Nat):Prop :=
 ∀T ss,Bd P d T=some ss->∀fuel cs r,DataW.trod enc P w 0 sp held fuel T cs=some r->∃vs,Pw (RD (λk=>k<w.heap.size) w) vs cs/\okL ss vs
theorem Qe2 {d:Nat} (ih:Qcv P w enc sp held d) {fuel:Nat} {cs:List Value}:∀(fs:List Field) (acc:Nat) (ss:List Sch),Qe3 P (Bd P d) fs acc=some ss ->
  (∀f∈fs,∃y,DataW.trod enc P w 0 sp held fuel f.type ((cs.drop f.offset).take (P.cellsOf f.type))=some y)->∃vs,Pw (RD (λk=>k<w.heap.size) w) vs ((cs.drop acc).take ss.length)/\okL ss vs
 | [],acc,ss,h,_=>by
   simp only[Qe3,Option.some.injEq]at h
   subst h
   exact⟨[],by simpa using Pw.nil,by rw[okL]⟩
 | f::fs,acc,ss,h,hy=>by
   simp only[Qe3]at h
   split at h
   ·rename_i s1 hs1
    split at h
    ·rename_i hc
     obtain⟨rfl,hc⟩:=hc
     simp only[qa]at h
     obtain⟨s2,hs2,rfl⟩:=h
     obtain⟨y,hy1⟩:=hy f (by simp)
     rw[hc]at hy1
     obtain⟨v1,hp1,ho1⟩:=ih f.type s1 hs1 fuel _ y hy1
     obtain⟨v2,hp2,ho2⟩:=Qe2 ih fs _ s2 hs2 (λg hg=>hy g (by simp[hg]))
     refine⟨v1++v2,?_,Ik ho1 ho2⟩
     have:(cs.drop f.offset).take (s1++s2).length=(cs.drop f.offset).take s1.length++(cs.drop (f.offset+s1.length)).take s2.length:=by
      rw[j7,List.take_add,List.drop_drop]
     rw[this]
     exact hp1.append hp2
    ·simp at h
   ·simp at h
theorem Qtd {d:Nat} (ih:Qcv P w enc sp held d) {fuel:Nat} {cs:List Value} {e:TypeId} {el:List Sch} (he:Bd P d e=some el):∀k:Nat,
  (∀i,i<k->∃y,DataW.trod enc P w 0 sp held fuel e ((cs.drop (i*el.length)).take el.length)=some y)->∃vs,Pw (RD (λk=>k<w.heap.size) w) vs (cs.take (k*el.length))/\okL (List.replicate k el).flatten vs
 | 0,_=>⟨[],by simpa using Pw.nil,by simp[okL]⟩
 | k+1,hy=>by
   obtain⟨v1,hp1,ho1⟩:=Qtd ih he k (λi hi=>hy i (by omega))
   obtain⟨y,hy1⟩:=hy k (by omega)
   obtain⟨v2,hp2,ho2⟩:=ih e el he fuel _ y hy1
   refine⟨v1++v2,?_,?_⟩
   ·rw[Nat.add_mul,Nat.one_mul,List.take_add]
    exact hp1.append hp2
   ·rw[List.replicate_succ',List.flatten_append]
    simpa using Ik ho1 ho2
theorem Q99 {α β:Type} {R:Nat->α->Prop}:∀n:Nat,(∀i,i<n->∃x,R i x)->∃xs:List α,xs.length=n/\∀i x,xs[i]?=some x->R i x
 | 0,_=>⟨[],rfl,by simp⟩
 | n+1,h=>by
   obtain⟨xs,h1,h2⟩:=Q99 (β:=β) n (λi hi=>h i (by omega))
   obtain⟨x,hx⟩:=h n (by omega)
   refine⟨xs++[x],by simp[h1],λi y hy=>?_⟩
   by_cases hi:i<xs.length
   ·rw[qd hi]at hy;exact h2 i y hy
   ·rw[qf (by omega)]at hy
    have:i-xs.length=0:=by
     rcases Nat.eq_zero_or_pos (i-xs.length) with h0 | h0
     ·exact h0
     ·rw[show i-xs.length=(i-xs.length-1)+1 by omega]at hy;simp at hy
    rw[this]at hy
    simp at hy;subst hy
    have:i=n:=by omega
    subst this;exact hx
theorem Q5j:∀d,Qcv P w enc sp held d
 | 0=>λT ss h=>by simp[Bd]at h
 | d+1=>by
   intro T ss hs fuel cs r hr
   have ih:Qcv P w enc sp held d:=Q5j d
   simp only[Bd]at hs
   split at hs<;>rename_i hu
   ·obtain rfl:=Option.some.inj hs
    obtain⟨x,rfl,_⟩:=DataW.trod_bool hu hr
    exact⟨[.b x],Pw.cons (.b x) Pw.nil,Qjj (by rw[Sch.ok];exact⟨x,rfl⟩)⟩
   ·rename_i k
    obtain rfl:=Option.some.inj hs
    obtain⟨n,rfl,_,hw⟩:=DataW.trod_int hu hr
    simp only[Lit.wf,Bool.and_eq_true,decide_eq_true_eq]at hw
    exact⟨[.i k n],Pw.cons (.i k n) Pw.nil,Qjj (by rw[Sch.ok];exact⟨n,rfl,hw.1,hw.2⟩)⟩
   ·obtain rfl:=Option.some.inj hs
    obtain⟨x,rfl,_,hl⟩:=DataW.trod_string hu hr
    refine⟨[.s x.data.toList],Pw.cons ?_ Pw.nil,?_⟩
    ·have:=RD.s (J:=λk=>k<w.heap.size) (w:=w) x.data.toList
     simpa using this
    ·simp only[okL,Sch.ok]
     refine⟨_,_,rfl,⟨_,rfl,?_⟩,rfl⟩
     have:x.data.toList.length=x.size:=Array.length_toList
     rw[this];exact hl
   ·rename_i e
    split at hs
    ·rename_i el hel
     split at hs
     ·rename_i hc
      obtain⟨hc,hpos⟩:=hc
      obtain rfl:=Option.some.inj hs
      rcases DataW.trod_slice hu hr with⟨rfl,_⟩ | ⟨a,len,cap,elems,rest,n,_,rfl,_,_,hlc,hcm,hel2,hget,_,_⟩
      ·exact⟨[.l el.length []],Pw.cons (.l0 _) Pw.nil,by simp[okL,Sch.ok]⟩
      ·rw[hc]at hget
       have hex:∀i,i<len->∃(u:List V),∃csi,w.cells? 0 (a.add (i*el.length)) el.length=some csi/\Pw (RD (λk=>k<w.heap.size) w) u csi/\okL el u:=by
        intro i hi
        have h1:=hget i hi
        obtain⟨y,hy⟩:∃y,elems[i]?=some y:=⟨_,q9 (by omega)⟩
        rw[hy]at h1
        simp only[qr]at h1
        obtain⟨csi,hcsi,hyi⟩:=h1
        obtain⟨u,hu1,hu2⟩:=ih e el hel n csi y hyi
        exact⟨u,csi,hcsi,hu1,hu2⟩
       obtain⟨els,hlen,hels⟩:=Q99 (β:=Unit) len hex
       refine⟨[.l el.length els],Pw.cons ?_ Pw.nil,?_⟩
       ·by_cases h0:len=0
        ·have:els=[]:=ql (by omega)
         subst this
         subst h0
         exact .l1 _ _ _
        ·have hblk:a.block<w.heap.size:=by
          obtain⟨u,csi,hcsi,_⟩:=hex 0 (by omega)
          have:=World.cells?_block hcsi hpos
          rwa [Addr.add_block]at this
         have key:∀i u j,els[i]?=some u->j<el.length->∃c,w.cell? (a.add (i*el.length+j))=some c/\∀v,u[j]?=some v->RD (λk=>k<w.heap.size) w v c:=by
          intro i u j hi hj
          obtain⟨csi,hcsi,hp,_⟩:=hels i u hi
          obtain⟨_,hl1,hg⟩:=World.cells?_some hcsi
          have h2:=hg j hj
          rw[Addr.add_add]at h2
          obtain⟨c,hcj⟩:∃c,csi[j]?=some c:=⟨_,q9 (by omega)⟩
          exact⟨c,by rw[h2,hcj],λv hv=>hp.2 j v c hv hcj⟩
         have:=RD.l (J:=λk=>k<w.heap.size) (w:=w) el.length els a cap (λi j=>(w.cell? (a.add (i*el.length+j))).getD undef) hblk (by omega)
          (λi u hi=>by obtain⟨_,_,_,ho⟩:=hels i u hi;exact Qbd ho)
          (λi j hi hj=>by
           obtain⟨u,hu⟩:∃u,els[i]?=some u:=⟨_,q9 hi⟩
           obtain⟨c,hc1,_⟩:=key i u j hu hj
           rw[hc1];rfl)
          (λi u j v hi hv=>by
           have hj:j<el.length:=by
            obtain⟨_,_,_,ho⟩:=hels i u hi
            rw[<- Qbd ho]
            exact(q8.1 hv).1
           obtain⟨c,hc1,hc2⟩:=key i u j hi hj
           rw[hc1];exact hc2 v hv)
         rw[hlen]at this
         exact this
       ·simp only[okL,Sch.ok]
        refine⟨_,_,rfl,⟨els,rfl,?_,λu hu=>?_⟩,rfl⟩
        ·have:cap<=9223372036854775807:=by simpa[maxLen]using hcm
         omega
        ·obtain⟨i,hi,rfl⟩:=List.getElem_of_mem hu
         obtain⟨_,_,_,ho⟩:=hels i _ (q9 hi)
         exact ho
     ·simp at hs
    ·simp at hs
   ·rename_i fs
    split at hs
    ·rename_i s1 hs1
     split at hs
     ·rename_i hc
      obtain rfl:=Option.some.inj hs
      obtain⟨xs,n,_,_,hl,hxl,hget⟩:=DataW.trod_struct hu hr
      obtain⟨vs,hp,ho⟩:=Qe2 ih (fuel:=n) (cs:=cs) fs.toList 0 s1 hs1 (λf hf=>by
       obtain⟨i,hi,rfl⟩:=List.getElem_of_mem hf
       have hi':i<fs.size:=by simpa using hi
       have h1:=hget i fs[i] (Array.getElem?_eq_getElem hi')
       refine⟨xs[i]'(by omega),?_⟩
       rw[Array.getElem_toList,h1]
       exact q9 _)
      rw[List.drop_zero,<- hc,<- hl,qi]at hp
      exact⟨vs,hp,ho⟩
     ·simp at hs
    ·simp at hs
   ·rename_i n e
    split at hs
    ·rename_i el hel
     split at hs
     ·rename_i hc
      obtain⟨hc1,hc2⟩:=hc
      obtain rfl:=Option.some.inj hs
      obtain⟨xs,m,_,_,hl,hxl,hget⟩:=DataW.trod_array hu hr
      obtain⟨vs,hp,ho⟩:=Qtd ih (fuel:=m) (cs:=cs) hel n (λi hi=>by
       have h1:=hget i hi
       rw[hc1]at h1
       refine⟨xs[i]'(by omega),?_⟩
       rw[h1]
       exact q9 _)
      rw[<- hc2,<- hl,qi]at hp
      exact⟨vs,hp,ho⟩
     ·simp at hs
    ·simp at hs
   ·simp at hs
end
end Go.Abs
namespace Go.Abs
open Go.RowKit Go.ChangeShapes Go.WideShapes Go.ChangeAt
def Qjh (P:Program) (T:TypeId):Option (Bool × List Sch) :=
 (Bd P 20 T).map λss=>(match P.underlying T with | some (.struct _) | some (.array _ _)=>true | _=>false,ss)
def Qji:Bool × List Sch->V->Prop
 | (true,ss),v=>∃cs,v=.a cs/\okL ss cs
 | (false,ss),v=>okL ss [v]
def Ke:List (Bool × List Sch)->List V->Prop
 | [],vs=>vs=[]
 | p::ps,vs=>∃v r,vs=v::r/\Qji p v/\Ke ps r
section
variable {P:Program} {W:World} {H:Type} {enc:TypeId × Value->H}
theorem par_ok {T:TypeId} {p:Bool × List Sch} (hp:Qjh P T=some p) {v:Value} (hv:∃base,Value.okWide P W .any base T v) {sp:Nat->Bool} {held:Bool} {d:DataW H} {ps:List MemPlace} (ht:DataW.Trod enc P W 0 sp held T v d ps) :
  ∃u,RV (λk=>k<W.heap.size) [] W u v/\Qji p u:=by
 simp only[Qjh,qa]at hp
 obtain⟨ss,hss,rfl⟩:=hp
 obtain⟨base,hv⟩:=hv
 obtain⟨fuel,hf⟩:=ht
 obtain⟨vs,h1,h2⟩:=Q5j (w:=W) (enc:=enc) (sp:=sp) (held:=held) 20 T ss hss fuel _ _ hf
 by_cases hagg:(∃fs,P.underlying T=some (.struct fs))∨∃n e,P.underlying T=some (.array n e)
 ·have hcs:∃cs,v=.agg cs:=by
   unfold Value.okWide at hv
   rcases hagg with⟨fs,hu⟩ | ⟨n,e,hu⟩<;>rw[hu]at hv<;>obtain⟨cs,h,_⟩:=hv<;>exact⟨cs,h⟩
  obtain⟨cs,rfl⟩:=hcs
  have:(match P.underlying T with | some (.struct _) | some (.array _ _)=>true | _=>false)=true:=by
   rcases hagg with⟨fs,hu⟩ | ⟨n,e,hu⟩<;>rw[hu]
  rw[this]
  exact⟨.a vs,⟨cs,rfl,h1.imp λ_ _ h=>Qt h⟩,vs,rfl,h2⟩
 ·have h3:v.cells.toList=[v]:=by
   have hc:Cell.okWide P W .any base T v:=by
    unfold Value.okWide at hv
    split at hv
    ·rename_i fs h;exact absurd (.inl ⟨_,h⟩) hagg
    ·rename_i n e h;exact absurd (.inr ⟨_,_,h⟩) hagg
    ·exact hv
   cases v<;>first | rfl | skip
   rename_i cs
   exfalso
   unfold Cell.okWide at hc
   split at hc<;>first | (rename_i h;cases h;done) | skip
   unfold Cell.ok at hc
   split at hc<;>first | (rename_i h;cases h;done) | exact hc
  have:(match P.underlying T with | some (.struct _) | some (.array _ _)=>true | _=>false)=false:=by
   split
   ·rename_i h;exact absurd (.inl ⟨_,h⟩) hagg
   ·rename_i h;exact absurd (.inr ⟨_,_,h⟩) hagg
   ·rfl
  rw[this]
  have hl:=h1.1
  rw[h3]at hl h1
  match vs,hl,h1,h2 with
  | [u],_,h1,h2=>exact⟨u,Qh (Qt h1.head),h2⟩
theorem Qjg:∀{ts:List TypeId} {pars:List (Bool × List Sch)} {vs:List Value} {ds:List (DataW H)} {ps:List MemPlace} {sp:Nat->Bool} {held:Bool},ts.mapM (Qjh P)=some pars ->
  (∀(j:Nat) (t:TypeId) (v:Value),ts[j]?=some t->vs[j]?=some v->∃base,Value.okWide P W .any base t v)->DataW.TrodAll enc P W 0 sp held ts vs ds ps ->
  ∃us,Pw (RV (λk=>k<W.heap.size) [] W) us vs/\Ke pars us/\ds.length=ts.length
 | [],pars,vs,ds,ps,sp,held,hp,_,ht=>by
   obtain⟨rfl,rfl,rfl⟩:=trodAll_nil ht
   simp at hp;subst hp
   exact⟨[],Pw.nil,rfl,rfl⟩
 | t::ts,pars,vs,ds,ps,sp,held,hp,hv,ht=>by
   obtain⟨v,vs1,d,ds1,a,b,rfl,rfl,rfl,h1,h2⟩:=trodAll_cons ht
   simp only[List.mapM_cons,Option.bind_eq_bind,qr,Option.pure_def,Option.some.injEq]at hp
   obtain⟨p,hp1,ps',hp2,rfl⟩:=hp
   obtain⟨u,hu1,hu2⟩:=par_ok hp1 (hv 0 t v rfl rfl) h1
   obtain⟨us,hu3,hu4,hu5⟩:=Qjg hp2 (λj t v h3 h4=>hv (j+1) t v (by simpa using h3) (by simpa using h4)) h2
   exact⟨u::us,Pw.cons hu1 hu3,⟨u,us,rfl,hu2,hu4⟩,by simp[hu5]⟩
theorem Ey (hl:laidOutB P=true) {W':World} (hb:Below W.heap.size W W') {sp:Nat->Bool} (hsp:∀b,b<W.heap.size->sp b=true):∀{ts:List TypeId} {vs:List Value} {ds:List (DataW H)} {ps:List MemPlace},
  (ts.all λt=>P.readableRec t && decide (t<P.types.size))=true->DataW.TrodAll enc P W 0 (λ_=>true) true ts vs ds ps->DataW.TrodAll enc P W' 0 sp true ts vs ds ps
 | [],vs,ds,ps,_,ht=>by
   obtain⟨rfl,rfl,rfl⟩:=trodAll_nil ht
   exact trodAll_mk0
 | t::ts,vs,ds,ps,hr,ht=>by
   have hlt:=ht.lt
   obtain⟨v,vs1,d,ds1,a,b,rfl,rfl,rfl,h1,h2⟩:=trodAll_cons ht
   simp only[List.all_cons,Bool.and_eq_true,decide_eq_true_eq]at hr
   refine⟨a,b,?_,Ey hl hb hsp hr.2 h2,rfl⟩
   exact WideElems.Trod_stays hl hr.1.1 hr.1.2 h1 (λx hx=>hb.same (hlt x (by simp[hx]))) (λx hx=>hsp _ (hlt x (by simp[hx])))
theorem Qlp {f:Func} {s:ChangeSpec} {apart fresh handsOn again:Bool} {W':World} {args:Array Value} {ds gs:List (DataW H)} {before:List MemPlace} {tb:TypeId}
  (hl:laidOutB P=true) (hvars:s.vars=[]) (hres:f.resultTypes=#[tb]) (htb:P.underlying tb=some .bool)
  (hr:(f.params.toList.all λt=>P.readableRec t && decide (t<P.types.size))=true)
  (hW:DataW.Whole enc P f.params.toList s.vars apart W args.toList ds gs before) (hfn:s.fn H (ds++gs)={ results:=[.lit (.bool true)],args:=ds })
  (hb:Below W.heap.size W W'):s.post enc P f apart fresh handsOn again W args (.bool true) W':=by
 have hW':=hW
 obtain⟨p,q,hA,hV,rfl,hz,hn⟩:=hW
 have hlt:=hA.lt
 rw[hvars]at hV
 cases gs with
 | cons g gs=>exact hV.elim
 | nil =>
 have hq:q=[]:=hV
 subst hq
 simp only[List.append_nil]at *
 have hres':∀(b:Nat) (sp:Nat->Bool) (hd:Bool),DataW.TrodAll enc P W' b sp hd f.resultTypes.toList ((Value.bool true).resultList f.resultTypes.size) (s.fn H ds).results []:=by
  intro b sp hd
  rw[hfn,hres]
  exact trodAll_mk1 (shut_bool htb true)
 have hargs':∀sp:Nat->Bool,(∀b,b<W.heap.size->sp b=true)->DataW.TrodAll enc P W' 0 sp true f.params.toList args.toList (s.fn H ds).args p:=by
  intro sp hsp
  rw[hfn]
  exact Ey hl hb hsp hr hA
 refine⟨ds,[],p,[],p,[],by simpa using hW',by simpa using hres' _ _ _,by simpa using hargs' _ (λb hb=>by simpa using hb),?_,hb.frame _,λ_=>?_⟩
 ·rw[hvars];simp only[List.append_nil,hfn];rfl
 ·refine⟨ok_one hres rfl (okWide_bool_mk htb _),_,[],[]++p,⟨[]++p,[],trodAll_append (hargs' _ (λ_ _=>rfl)) (hres' _ _ _),by rw[hvars];exact(rfl:([]:List MemPlace)=[]),by simp,?_,?_⟩,?_⟩
  ·intro b off hp
   have hp':MemPlace.cell b off∈p:=by simpa using hp
   have:=hlt _ hp'
   rw[hb.frozen (p:=⟨b,off,none⟩) this]
   exact hz b off hp'
  ·intro ha
   simpa using hn ha
  ·intro x hx _
   simpa using hx
theorem law_contract {f:FuncId} {fn:Func} {s:ChangeSpec} {apart fresh handsOn again:Bool} {tb:TypeId} {pars:List (Bool × List Sch)}
  (hl:laidOutB P=true) (hvars:s.vars=[]) (hres:fn.resultTypes=#[tb]) (htb:P.underlying tb=some .bool)
  (hr:(fn.params.toList.all λt=>P.readableRec t && decide (t<P.types.size))=true)
  (hpars:fn.params.toList.mapM (Qjh P)=some pars)
  (hfn:∀ds:List (DataW H),ds.length=fn.params.toList.length->s.fn H ds={ results:=[.lit (.bool true)],args:=ds })
  (hlaw:∀us,Ke pars us->PureC P f us (·=.b true))
  (W:World) (base:Nat) (args:Array Value) (ds gs:List (DataW H)) (before:List MemPlace)
  (hval:∀(j:Nat) t v,fn.params[j]?=some t->args[j]?=some v->Value.okWide P W .any base t v)
  (hW:DataW.Whole enc P fn.params.toList s.vars apart W args.toList ds gs before) :
  Calls P f args W λe W'=>∃v,e=.returned v/\s.post enc P fn apart fresh handsOn again W args v W':=by
 have hW':=hW
 obtain⟨p,q,hA,hV,rfl,hz,hn⟩:=hW
 obtain⟨us,h1,h2,h3⟩:=Qjg hpars (vs:=args.toList) (λj t v hj hv=>⟨base,hval j t v (by simpa using hj) (by simpa using hv)⟩) hA
 have hgs:gs=[]:=by
  rw[hvars]at hV
  cases gs with
  | nil=>rfl
  | cons g gs=>exact hV.elim
 subst hgs
 have hcall:=hlaw us h2 (λk=>k<W.heap.size) [] W args.toList ⟨rfl,λk hk=>hk,by simp,by simp,by simp⟩ h1
 simp only[Array.toArray_toList]at hcall
 refine hcall.mono ?_
 rintro e W' ⟨v,r,h',J',m',rfl,⟨rfl,rfl⟩,hv,_,hev,_⟩
 have:=Ya hv
 subst this
 have hbl:Below W.heap.size W W':=⟨(hev 0).os,(hev 0).tape,(hev 0).output,(hev 0).size,λk hk=>(hev 0).keep k hk (by simp)⟩
 exact⟨_,rfl,Qlp hl hvars hres htb hr hW' (by rw[List.append_nil];exact hfn ds h3) hbl⟩
end
end Go.Abs
namespace Go.Abs
open Go.RowKit
def W1 (m:List Ent) (ids:List Nat) (k:Nat):Prop:=∃id,id∈ids/\∃e:Ent,m[id]?=some e/\e.blk=some k
def Q2f (h:List O) (ids:List Nat):List O:=ids.foldl (λh id=>h.set id .dead) h
section
variable {P:Program} {J:Nat->Prop} {m:List Ent} {w:World} {h:List O}
theorem Y6 (hr:RS J h m w) {v r:V} (hf:X1 h v=some r) {c:Value} (hv:RC J m w v c):RC (λk=>J k∨W1 m v.ids0 k) [] w r c:=by
 have hsub:∀k,J k->(λk=>J k∨W1 m v.ids0 k) k:=λk hk=>.inl hk
 cases v<;>simp only[X1]at hf<;>try (simp at hf;done)
 case own id g off len =>
  split at hf
  case h_2=>simp at hf
  rename_i g' sz els ho
  split at hf
  case isFalse=>simp at hf
  rename_i hcond
  obtain⟨rfl,hle,hd⟩:=hcond
  obtain rfl:=Option.some.inj hf
  have he:Zl sz h (.own id g off len)=some ((els.drop off).take len):=by simp[Zl,ho,hle]
  obtain⟨a,cap,hx,h1,h2,h3,h4⟩:=Xr hr (Qh hv) he
  have hv':=J5 hr (Qh hv) ho
  obtain⟨en,hen,_,_,hsl,_⟩:=hv'
  subst hx
  cases a with
  | none =>
    obtain⟨h5,h6⟩:=h2 rfl
    have:(els.drop off).take len=[]:=ql h5
    rw[this];subst h6
    exact RD.l0 sz
  | some a =>
    obtain⟨cs,h5,h6⟩:=h4 a rfl
    have hdd:∀(i:Nat) (el:List V) (j:Nat) (x:V),((els.drop off).take len)[i]?=some el->el[j]?=some x->x.isD=true:=by
     intro i el j x q1 q2
     have q3:=qj.1 hd el (qb q1)
     exact qj.1 q3 x (qb q2)
    by_cases h0:((els.drop off).take len).length=0
    ·have:(els.drop off).take len=[]:=ql h0
     rw[this]
     exact RD.l1 sz a cap
    ·have hb:W1 m [id] a.block:=by
      unfold Ent.sl at hsl
      cases hbk:en.blk with
      | none =>
        rw[hbk]at hsl
        obtain⟨_,_,q3⟩:=hsl
        exfalso
        rcases q3 with q3 | ⟨_,q3⟩<;>simp at q3
        rw[qv,List.length_drop]at h0
        omega
      | some B =>
        rw[hbk]at hsl
        obtain⟨o,cc,q3,_⟩:=hsl
        simp only[Value.slice.injEq,Option.some.injEq]at q3
        exact⟨id,by simp,en,hen,by rw[hbk,q3.1]⟩
     exact RD.l sz _ a cap cs (.inr hb) h1 h3 h5 (λi el j v q1 q2=>(Uj (hdd i el j v q1 q2) (h6 i el j v q1 q2)).mono (λk hk=>.inl hk) (λ_ _=>rfl))
 all_goals
  obtain rfl:=Option.some.inj hf
  first
  | exact hv
  | exact(show RD J w _ c from hv).mono (λk hk=>.inl hk) (λ_ _=>rfl)
theorem frz_okI (hr:RS J h m w) {v r:V} (hf:frz h v=some r) {c:Value} (hv:RV J m w v c):RA (λk=>J k∨W1 m v.ids2 k) [] w r c:=by
 cases v
 case a cs =>
  simp only[frz,qa]at hf
  obtain⟨rs,hrs,rfl⟩:=hf
  obtain⟨arr,rfl,hp⟩:=hv
  refine⟨arr,rfl,?_⟩
  have:∀(vs rs:List V) (cl:List Value),vs.mapM (X1 h)=some rs->Pw (RC J m w) vs cl->(∀x∈vs,x∈cs)->Pw (RC (λk=>J k∨W1 m (V.a cs).ids2 k) [] w) rs cl:=by
   intro vs
   induction vs with
   | nil =>
     intro rs cl h1 h2 _
     simp at h1;subst h1
     have:=h2.1
     simp at this
     obtain rfl:=ql this.symm
     exact Pw.nil
   | cons v vs ih =>
     intro rs cl h1 h2 h3
     simp only[List.mapM_cons,Option.bind_eq_bind,qr,Option.pure_def,Option.some.injEq]at h1
     obtain⟨u,hu,us,hus,rfl⟩:=h1
     cases cl with
     | nil=>have:=h2.1;simp at this
     | cons c cl =>
       refine Pw.cons ?_ (ih us cl hus h2.tail (λx hx=>h3 x (by simp[hx])))
       have h4:=Y6 hr hu h2.head
       refine RC.mono (m:=[]) (m':=[]) (w:=w) (w':=w) (λk hk=>?_) (λ_ _=>rfl) (Ml.refl _) h4
       rcases hk with hk | ⟨id,hid,e,he⟩
       ·exact .inl hk
       ·refine .inr ⟨id,?_,e,he⟩
        show id∈(cs.flatMap V.ids1)
        rw[jq]
        refine⟨v,h3 v (by simp),?_⟩
        cases v<;>first | exact hid | (simp[V.ids0]at hid;done)
  exact this cs rs arr.toList hrs hp (λx hx=>hx)
 case t=>simp[frz,X1]at hf
 case any =>
  have hf':X1 h .any=some r:=hf
  simp only[X1,Option.some.injEq]at hf'
  subst hf'
  trivial
 case f=>simp[frz,X1]at hf
 case b x=>exact Qw (Y6 (v:=.b x) hr hf hv)
 case i k n=>exact Qw (Y6 (v:=.i k n) hr hf hv)
 case s x=>exact Qw (Y6 (v:=.s x) hr hf hv)
 case nil=>exact Qw (Y6 (v:=.nil) hr hf hv)
 case l sz els=>exact Qw (Y6 (v:=.l sz els) hr hf hv)
 case own id g off len=>exact Qw (Y6 (v:=.own id g off len) hr hf hv)
 case p id g e j=>exact Qw (Y6 (v:=.p id g e j) hr hf hv)
 case ip cs=>exact Qw (Y6 (v:=.ip cs) hr hf hv)
 case np=>exact Qw (Y6 (v:=.np) hr hf hv)
 case mp id=>exact Qw (Y6 (v:=.mp id) hr hf hv)
 case mnil=>exact Qw (Y6 (v:=.mnil) hr hf hv)
theorem Ml.trans {m m1 m2:List Ent} (h1:Ml m m1) (h2:Ml m1 m2):Ml m m2:=by
 intro id e he
 obtain⟨e1,h3,h4,h5⟩:=h1 id e he
 obtain⟨e2,h6,h7,h8⟩:=h2 id e1 h3
 refine⟨e2,h6,Nat.le_trans h4 h7,λhh=>?_⟩
 have:e1=e:=h5 (by omega)
 subst this
 exact h8 hh
theorem kill1 (hr:RS J h m w) {id:Nat} {en:Ent} (hen:m[id]?=some en) (hg:1<=en.gen) :
  RS (λk=>J k∨en.blk=some k) (h.set id .dead) (m.set id ⟨en.gen+1,en.sz,none,0,0⟩) w/\(∀n,Ev n J m w (λk=>J k∨en.blk=some k) (m.set id ⟨en.gen+1,en.sz,none,0,0⟩) w)/\Ml m (m.set id ⟨en.gen+1,en.sz,none,0,0⟩):=by
 have hidm:id<m.length:=(q8.1 hen).1
 generalize he':(⟨en.gen+1,en.sz,none,0,0⟩:Ent)=e'
 have g1:en.gen<=e'.gen:=by rw[<- he'];simp
 have g2:en.gen=e'.gen∨en.gen=0->e'=en:=by
  intro hh
  have h1':e'.gen=en.gen+1:=by rw[<- he']
  omega
 have hb':e'.blk=none:=by rw[<- he']
 have hrs1:RS J (h.set id .dead) (m.set id e') w:=RS.upd hr e' .dead hen g1 g2 (λB' hB'=>by rw[hb']at hB';simp at hB') (λ_ _ _=>rfl) (Nat.le_refl _) trivial
 have hne:∀(i:Nat) (x:Ent) (B:Nat),(m.set id e')[i]?=some x->x.blk=some B->en.blk≠some B:=by
  intro i x B hx hxB hB
  by_cases hi:id=i
  ·subst hi
   rw[qm hidm]at hx
   obtain rfl:=Option.some.inj hx
   rw[hb']at hxB;simp at hxB
  ·rw[qt hi]at hx
   exact hi (hr.inj i id x en B hx hen hxB hB).symm
 refine⟨?_,λq=>?_,Ml.set hen g1 g2⟩
 ·refine⟨hrs1.len,λk hk=>?_,λi x B' hx hB'=>⟨?_,(hrs1.dis i x B' hx hB').2⟩,hrs1.inj,λi x o hx hO=>RO.mono (λ_ h=>.inl h) (λ_ _=>rfl) (Ml.refl _) (λ_ _=>rfl) (hrs1.obj i x o hx hO)⟩
  ·rcases hk with hk | hk
   ·exact hr.jlt k hk
   ·exact(hr.dis id en k hen hk).2
  ·rintro (hj | hj)
   ·exact(hrs1.dis i x B' hx hB').1 hj
   ·exact hne i x B' hx hB' hj
 ·refine⟨rfl,rfl,rfl,Nat.le_refl _,Nat.le_refl _,λ_ _ _=>rfl,λi x B' hx hB'=>?_,λ_ h=>.inl h,λk hk=>?_,λi x _ hx=>Ml.set hen g1 g2 i x hx⟩
  ·by_cases hi:id=i
   ·subst hi
    rw[qm hidm]at hx
    obtain rfl:=Option.some.inj hx
    rw[hb']at hB';simp at hB'
   ·rw[qt hi]at hx
    exact .inr ⟨i,x,hx,hB'⟩
  ·rcases hk with hk | hk
   ·exact .inl hk
   ·exact .inr (.inr ⟨id,en,hen,hk⟩)
theorem Qjr:∀(ids:List Nat) {J:Nat->Prop} {h:List O} {m:List Ent},RS J h m w->(∀id∈ids,∃e:Ent,m[id]?=some e/\1<=e.gen) ->
  ∃m',RS (λk=>J k∨W1 m ids k) (Q2f h ids) m' w/\(∀n,Ev n J m w (λk=>J k∨W1 m ids k) m' w)/\Ml m m'
 | [],J,h,m,hr,_=>by
   have e:(λk=>J k∨W1 m [] k)=J:=by
    funext k;simp[W1]
   rw[e]
   exact⟨m,hr,λn=>Ev.refl n J m w,Ml.refl m⟩
 | id::ids,J,h,m,hr,hids=>by
   obtain⟨en,hen,hg⟩:=hids id (by simp)
   have hidm:id<m.length:=(q8.1 hen).1
   obtain⟨k1,k2,k3⟩:=kill1 hr hen hg
   obtain⟨m',h1,h2,h3⟩:=Qjr ids k1 (λi hi=>by
    by_cases hii:id=i
    ·subst hii
     exact⟨_,qm hidm,by simp⟩
    ·obtain⟨e,he,hge⟩:=hids i (by simp[hi])
     exact⟨e,by rw[qt hii];exact he,hge⟩)
   have e:(λk=>(J k∨en.blk=some k)∨W1 (m.set id ⟨en.gen+1,en.sz,none,0,0⟩) ids k)=(λk=>J k∨W1 m (id::ids) k):=by
    funext k
    apply propext
    constructor
    ·rintro ((hk | hk) | ⟨i,hi,e,he,hb⟩)
     ·exact .inl hk
     ·exact .inr ⟨id,by simp,en,hen,hk⟩
     ·by_cases hii:id=i
      ·subst hii
       rw[qm hidm]at he
       obtain rfl:=Option.some.inj he
       simp at hb
      ·rw[qt hii]at he
       exact .inr ⟨i,by simp[hi],e,he,hb⟩
    ·rintro (hk | ⟨i,hi,e,he,hb⟩)
     ·exact .inl (.inl hk)
     ·by_cases hii:id=i
      ·subst hii
       obtain rfl:=Option.some.inj (hen.symm.trans he)
       exact .inl (.inr hb)
      ·simp at hi
       rcases hi with rfl | hi
       ·exact absurd rfl hii
       ·exact .inr ⟨i,hi,e,by rw[qt hii];exact he,hb⟩
   rw[e]at h1 h2
   exact⟨m',h1,λn=>(k2 n).trans (h2 n),k3.trans h3⟩
theorem Qda {f:FuncId} {us vs:List V} {h:List O} {R:V->List O->Prop} (hu:Y9 h us=some vs) (hk:ACall P f vs (Q2f h (us.flatMap V.ids2)) R):ACall P f us h R:=by
 intro J m w cargs hr hp
 have hids:∀id∈us.flatMap V.ids2,∃e:Ent,m[id]?=some e/\1<=e.gen:=by
  intro id hid
  rw[jq]at hid
  obtain⟨v,hv,hid⟩:=hid
  obtain⟨i,hi⟩:=qq hv
  obtain⟨c,_,hc⟩:=hp.get hi
  exact Qez hc hid
 obtain⟨m',h1,h2,h3⟩:=Qjr (us.flatMap V.ids2) hr hids
 have hvs:Pw (RV (λk=>J k∨W1 m (us.flatMap V.ids2) k) m' w) vs cargs:=by
  have:∀(us' vs':List V) (cl:List Value),us'.mapM (frz h)=some vs'->Pw (RV J m w) us' cl->(∀x∈us',x∈us)->Pw (RV (λk=>J k∨W1 m (us.flatMap V.ids2) k) m' w) vs' cl:=by
   intro us'
   induction us' with
   | nil =>
     intro vs' cl q1 q2 _
     simp at q1;subst q1
     have:=q2.1
     simp at this
     obtain rfl:=ql this.symm
     exact Pw.nil
   | cons v us' ih =>
     intro vs' cl q1 q2 q3
     simp only[List.mapM_cons,Option.bind_eq_bind,qr,Option.pure_def,Option.some.injEq]at q1
     obtain⟨u,hu,us'',hus,rfl⟩:=q1
     cases cl with
     | nil=>have:=q2.1;simp at this
     | cons c cl =>
       refine Pw.cons ?_ (ih us'' cl hus q2.tail (λx hx=>q3 x (by simp[hx])))
       have h4:=frz_okI hr hu q2.head
       refine Z2 (RA.mono (m:=[]) (m':=m') (w:=w) (w':=w) (λk hk=>?_) (λ_ _=>rfl) (Ml.nil _) h4)
       rcases hk with hk | ⟨id,hid,e,he⟩
       ·exact .inl hk
       ·exact .inr ⟨id,jq.2 ⟨v,q3 v (by simp),hid⟩,e,he⟩
  exact this us vs cargs hu hp (λx hx=>hx)
 refine (hk _ m' w cargs h1 hvs).mono λe w' hh=>?_
 obtain⟨v,r,h',J',m'',q1,q2,q3,q4,q5,q6⟩:=hh
 exact⟨v,r,h',J',m'',q1,q2,q3,q4,λn=>(h2 n).trans (q5 n),h3.trans q6⟩
theorem Y8 {f:FuncId} {us vs:List V} {h:List O} {r:V} {k:V->List O->Prop} (hu:Y9 h us=some vs) (hc:CallIs P f vs r) (hk:k r (Q2f h (us.flatMap V.ids2))):ACall P f us h k :=
 Qda hu ((hc _).mono λr' h' hh=>by rw[hh.1,hh.2];exact hk)
theorem Qga {f:FuncId} {vs:List V} {h:List O} (sz:Nat) {R:V->List O->Prop} (hc:ACall P f vs h (λr h'=>R r h'∨(r=.nil/\R (.own h'.length 1 0 0) (h'++[.arr 1 sz []])))):ACall P f vs h R:=by
 intro J m w cargs hr hp
 refine (hc J m w cargs hr hp).mono λe w' hh=>?_
 obtain⟨v,r,h',J',m',q1,q2,q3,q4,q5,q6⟩:=hh
 rcases q2 with q2 | ⟨rfl,q2⟩
 ·exact⟨v,r,h',J',m',q1,q2,q3,q4,q5,q6⟩
 ·obtain⟨g1,g2,g3⟩:=Wd q4 sz
  refine⟨v,_,_,J',_,q1,q2,?_,g1,λn=>(q5 n).trans (g2 n),q6.trans g3⟩
  have h5:RD J' w' .nil v:=q3
  refine⟨h5.one,⟨1,sz,none,0,0⟩,by rw[<- q4.len];exact Ye _ _,⟨Nat.le_refl _,Nat.le_refl _⟩,λ_=>⟨rfl,rfl,?_⟩⟩
  cases h5 with
  | nil0=>exact .inl rfl
  | nil1 a=>exact .inr ⟨a,rfl⟩
end
theorem Qm9 (h:List O):Q2f h []=h:=Rfl rfl
theorem Qhg (h:List O) (id:Nat) (ids:List Nat):Q2f h (id::ids)=Q2f (h.set id .dead) ids:=Rfl rfl
attribute [go_sem] Qm9 Qhg V.ids2 V.ids1 V.ids0
end Go.Abs
namespace Go.Abs
open Go.RowKit Go.Sort
def ltC {α:Type} (cf:α->α->Int) (x y:α):Bool:=decide (cf x y<0)
def Ui (P:Program) (f:FuncId) (k:Nat):Prop :=
 ∀{α:Type} [Inhabited α] (en:α->List Int),(∀x,(en x).length=k)->∀(cf:α->α->Int),SWO (ltC cf)->∀g:FuncId,Qv P g=true ->
  (∀x y,CallIs P g [.a ((en x).map (.i .i64)),.a ((en y).map (.i .i64))] (.i .i64 (cf x y)))->∀xs:List α,xs.length<4611686018427387904 ->
  ∃ys:List α,ys.Perm xs/\ys.Pairwise (λx y=>ltC cf y x=false) /\
   ∀(h:List O) (id gen:Nat),h[id]?=some (.arr gen k (xs.map λx=>(en x).map (.i .i64))) ->
    ACall P f [.own id gen 0 xs.length,.f g []] h (λr h'=>r=.t []/\h'=h.set id (.arr gen k (ys.map λx=>(en x).map (.i .i64))))
def Zt (xs:List Int):List Int:=xs.mergeSort λx y=>decide (x<=y)
def Qcq (P:Program) (f:FuncId):Prop:=∀(h:List O) (id gen:Nat) (xs:List Int),xs.length<4611686018427387904->h[id]?=some (.arr gen 1 (xs.map λx=>[.i .i64 x])) ->
 ACall P f [.own id gen 0 xs.length] h (λr h'=>r=.t []/\h'=h.set id (.arr gen 1 ((Zt xs).map λx=>[.i .i64 x])))
end Go.Abs
