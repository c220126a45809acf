/- Part of the library on which the proof stands: an abstract machine, its values and its soundness against the model; or what functions of the program do to such values. -/
import Derived.Test.YtcdjgldeiaiaoaaGreatAbsI
set_option linter.unusedVariables false
set_option linter.unusedSimpArgs false
namespace Go.Abs
open Go.RowKit
section
variable {P:Program} {J:Nat->Prop} {m:List Ent} {w:World} {h:List O}
theorem Qjg {t e:TypeId} {i:TypeInfo} {z:Value} (ht:P.underlying t=some (.slice e)) (hi:P.info? e=some i) (hz:i.zero=some z) {zs:List V} (hzs:∀(J:Nat->Prop) m w,Pw (RC J m w) zs z.cells.toList) (hsz:zs.length=i.size)
  (hr:RS J h m w) {k:Int} {x:Value} (hx:RV J m w (.i .i64 k) x) (h0:0<=k) (hb:k*i.bytes<=140737488355328) (h63:k<=9223372036854775807) (hd:zs.all V.isD=true) :
  Fine J m w h (.l i.size (List.replicate k.toNat zs)) ((do pure (.value (<- Instr.makeSlice t x x)):Sem Next).run P w):=by
 have:=Z5 hx;subst this
 have hrun:=run_make (P:=P) w t e i z ht hi hz .i64 .i64 k k h0 (Int.le_refl _) (by rw[Int.mul_comm];omega) h63
 have hrun':(do pure (.value (<- Instr.makeSlice t (.int .i64 k) (.int .i64 k))):Sem Next).run P w=.ok (.value (.slice (some ⟨w.heap.size,0,none⟩) k.toNat k.toNat)) (w.alloc (.cells (madeCells z.cells (k.toNat*i.size)) e)):=by
  simp only[Sem.run_bind,hrun,Result.andThen_ok,Sem.run_pure]
 rw[hrun']
 have h1:=Flat.replicate (hzs J m w) hsz k.toNat
 generalize hrow:madeCells z.cells (k.toNat*i.size)=row at *
 have hel:(List.replicate k.toNat zs).length=k.toNat:=by simp
 have hold:∀k,k<w.heap.size->(w.alloc (.cells row e)).heap[k]?=w.heap[k]?:=λk hk=>heap_alloc_old w _ hk
 have hJ:∀k,J k->(λk=>J k∨k=w.heap.size) k:=λk hk=>.inl hk
 have hJn:∀k,(λk=>J k∨k=w.heap.size) k->J k∨w.heap.size<=k:=λk hk=>hk.imp id (λh=>by omega)
 refine⟨_,_,λk=>J k∨k=w.heap.size,m,.inl rfl,?_,RS.same hr hJ hJn (λk hk=>hk.elim (λhk=>Nat.lt_of_lt_of_le (hr.jlt k hk) (by simp)) (λhk=>by simp;omega)) hold (by simp),λn=>Ev.same hJ hJn hold (by simp) rfl rfl rfl (by simp),Ml.refl m⟩
 have hdd:∀(a:Nat) (el:List V) (b:Nat) (x:V),(List.replicate k.toNat zs)[a]?=some el->el[b]?=some x->x.isD=true:=by
  intro a el b x q1 q2
  rw[je]at q1
  split at q1
  case isFalse=>simp at q1
  obtain rfl:=Option.some.inj q1
  exact qj.1 hd x (qb q2)
 have:=RD.l (J:=λk=>J k∨k=w.heap.size) (w:=w.alloc (.cells row e)) i.size (List.replicate k.toNat zs) ⟨w.heap.size,0,none⟩ k.toNat (λa b=>(row[a*i.size+b]?).getD undef) (.inr rfl) (by simp) h1.2.1
  (λa b ha hb=>by
   have hlt:a*i.size+b<row.size:=by
    have:=h1.1
    rw[hel]at this ha
    simp at this
    rw[this]
    have:=j5 i.size (show a+1<=k.toNat from ha)
    rw[Nat.add_mul,Nat.one_mul]at this;omega
   rw[Addr.add_lit,Nat.zero_add]
   have hnew:=heap_alloc_new w (.cells row e)
   simp only[World.cell?,hnew]
   simp[hlt])
  (λa el b x q1 q2=>by
   obtain⟨cv,q3,q4⟩:=h1.2.2 a el b x q1 q2
   have q5:row[a*i.size+b]?=some cv:=by simpa using q3
   simp only[q5,Option.getD_some]
   exact(Wp (hdd a el b x q1 q2) q4).mono hJ (λk hk=>hold k (hr.jlt k hk)))
 rw[hel]at this
 exact this
theorem Flat.take {R:V->Value->Prop} {sz:Nat} {els:List (List V)} {vs:List Value} (hf:Flat R sz els vs) (n:Nat):Flat R sz (els.take n) (vs.take (n*sz)):=by
 refine⟨?_,λi el hi=>?_,λi el j x hi hj=>?_⟩
 ·simp only[qw,hf.1]
  rcases Nat.le_total n els.length with hle | hle
  ·rw[Nat.min_eq_left hle,Nat.min_eq_left (j5 _ hle)]
  ·rw[Nat.min_eq_right hle,Nat.min_eq_right (j5 _ hle)]
 ·rw[jb]at hi
  split at hi
  case isFalse=>simp at hi
  exact hf.2.1 i el hi
 ·rw[jb]at hi
  split at hi
  case isFalse=>simp at hi
  rename_i hin
  obtain⟨cv,h1,h2⟩:=hf.2.2 i el j x hi hj
  have hjl:j<sz:=by rw[<- hf.2.1 i el hi];exact(q8.1 hj).1
  have:=j5 sz (show i+1<=n from hin)
  rw[Nat.add_mul,Nat.one_mul]at this
  exact⟨cv,by rw[jb,if_pos (by omega)];exact h1,h2⟩
theorem B5 {dT sT ty e:TypeId} {sz:Nat} (hd:P.underlying dT=some (.slice e)) (he:(P.info? e).map (·.size)=some sz) {base:Option Addr} {dLen dCap sLen:Nat} {src:Value} (hlen:(Builtin.lenOf src).run P w=.ok sLen w)
  {cells:List Value} (hc:(Builtin.firstCells sz (Nat.min sLen dLen) src).run P w=.ok cells.toArray w) {w':World} (hst:(match base with | some a=>storeCells a cells | none=>pure ()).run P w=.ok () w') :
  (do pure (.value (<- Builtin.copy_ #[dT,sT] ty #[.slice base dLen dCap,src])):Sem Next).run P w=.ok (.value (.int .i64 (Nat.min sLen dLen:Nat))) w':=by
 cases base with
 | none =>
   simp only[Sem.run_pure]at hst
   obtain⟨_,rfl⟩:True/\w=w':=⟨trivial,by simpa using hst⟩
   simp[Builtin.copy_,run_underlying hd,Qm he,hlen,hc,goInt]
 | some a =>
   simp only at hst
   simp[Builtin.copy_,run_underlying hd,Qm he,hlen,hc,hst,goInt]
theorem Wh {dT sT ty e:TypeId} {sz:Nat} (hd:P.underlying dT=some (.slice e)) (he:(P.info? e).map (·.size)=some sz) (hr:RS J h m w) {id g off len:Nat} {x:Value} (hx:RV J m w (.own id g off len) x)
  {els:List (List V)} (ho:h[id]?=some (.arr g sz els)) (hle:off+len<=els.length) {src:Value} {news:List (List V)} {vs:List Value} (hlen:(Builtin.lenOf src).run P w=.ok news.length w)
  (hfl:Flat (RC J m w) sz (news.take len) vs) (hc:(Builtin.firstCells sz (Nat.min news.length len) src).run P w=.ok vs.toArray w) :
  Fine J m w (h.set id (.arr g sz (els.take off++news.take len++els.drop (off+min news.length len)))) (.i .i64 (min news.length len:Nat)) ((do pure (.value (<- Builtin.copy_ #[dT,sT] ty #[x,src])):Sem Next).run P w):=by
 obtain⟨en,hen,hg,hsz,hsl,hobj⟩:=Xr hr hx ho
 obtain⟨_,_,o3,o4⟩:=hobj
 have hidm:id<m.length:=(q8.1 hen).1
 have hset:m.set id en=m:=by
  apply qy
  intro i
  by_cases hi:id=i
  ·subst hi;rw[qn hidm,hen]
  ·rw[qu hi]
 have hsetO:∀o,h[id]?=some o->h.set id o=h:=by
  intro o hoo
  apply qy
  intro i
  by_cases hi:id=i
  ·subst hi;rw[qn (q8.1 ho).1,hoo]
  ·rw[qu hi]
 unfold Ent.sl at hsl
 cases hbk:en.blk with
 | none =>
   rw[hbk]at hsl o4
   obtain⟨q1,q2,q3⟩:=hsl
   subst q1;subst q2
   have hels:els=[]:=o4.1
   have hm:Nat.min news.length 0=0:=Nat.min_zero _
   have hm2:min news.length 0=0:=Nat.min_zero _
   have hvs:vs=[]:=qm (by rw[hfl.1];simp)
   subst hvs
   have hobj2:h.set id (.arr g sz (els.take 0++news.take 0++els.drop (0+min news.length 0)))=h:=by
    rw[hels];simp only[List.take_zero,List.drop_nil,List.append_nil]
    exact hsetO _ (by rw[ho,hels])
   rw[hobj2,hm2]
   rw[hm]at hc
   rcases q3 with rfl | ⟨a,rfl⟩
   ·rw[B5 hd he hlen (by rw[hm];exact hc) (base:=none) (w':=w) rfl,hm]
    exact Fine.pure hr (U8 _ _)
   ·rw[B5 hd he hlen (by rw[hm];exact hc) (base:=some a) (w':=w) (by simp[storeCells]),hm]
    exact Fine.pure hr (U8 _ _)
 | some B =>
   rw[hbk]at hsl o4
   obtain⟨o,cc,rfl,q1,q2⟩:=hsl
   obtain⟨p1,p2,c,ty2,fz,p3,p4,p5,p6⟩:=o4
   have hvl:vs.length=min news.length len*sz:=by rw[hfl.1,qw,Nat.min_comm]
   have hfit:0<vs.length->o=(en.base+off)*sz:=by
    intro h0
    rw[q2 (by
     rcases Nat.lt_or_ge 0 cc with h | h
     ·exact h
     ·have h00:len=0:=by omega
      exfalso
      rw[h00,Nat.min_zero,Nat.zero_mul]at hvl
      omega),hsz]
   have hmx:min news.length len<=len:=Nat.min_le_right _ _
   have hone:∀v∈vs,v.oneCell'=true:=by
    intro v hv
    obtain⟨q,hq⟩:=qr hv
    have hql:=(q8.1 hq).1
    rw[hfl.1]at hql
    have hszp:0<sz:=by
     rcases Nat.eq_zero_or_pos sz with h | h
     ·rw[h]at hql;simp at hql
     ·exact h
    have r1:q / sz<(news.take len).length:=Nat.div_lt_of_lt_mul (by rw[Nat.mul_comm];exact hql)
    have r2:q % sz<sz:=Nat.mod_lt _ hszp
    have r3:q / sz*sz+q % sz=q:=by rw[Nat.mul_comm];exact Nat.div_add_mod q sz
    have r4:=hfl.2.1 _ _ (q9 r1)
    obtain⟨cv,r5,r6⟩:=hfl.2.2 _ _ (q % sz) _ (q9 r1) (q9 (by omega))
    rw[r3,hq]at r5
    rw[Option.some.inj r5]
    exact RC.one r6
   have hmulm:min news.length len*sz<=len*sz:=j5 _ hmx
   have hcap:(en.base+off)*sz+len*sz<=c.size:=by
    rw[p4,<- Nat.add_mul];exact j5 _ (by omega)
   -- the world behind it
   obtain⟨row,hrow,hrun⟩:∃row:List Value,row=c.toList.take ((en.base+off)*sz)++vs++c.toList.drop ((en.base+off)*sz+vs.length)/\(storeCells ⟨B,o,none⟩ vs).run P w=.ok () (w.setRow B row.toArray):=by
    refine⟨_,rfl,?_⟩
    rcases Nat.eq_zero_or_pos vs.length with h0 | h0
    ·have:vs=[]:=qm h0
     subst this
     simp only[storeCells,Sem.run_pure,List.append_nil,List.length_nil,Nat.add_zero,List.take_append_drop,Array.toArray_toList]
     rw[setRow_self w B c ty2 fz p3]
    ·have:=Zl (P:=P) B o ty2 fz vs 0 c w p3 (by rw[hfit h0];omega) hone p5
     rw[hfit h0]at this ⊢
     simpa using this
   rw[B5 hd he hlen hc (base:=some ⟨B,o,none⟩) (w':=w.setRow B row.toArray) hrun]
   have hoth:∀k,k<w.heap.size->en.blk≠some k->(w.setRow B row.toArray).heap[k]?=w.heap[k]?:=λk _ hk=>setRow_other w B k _ (λhkb=>hk (by rw[hbk,hkb]))
   have hJ:∀k,J k->(w.setRow B row.toArray).heap[k]?=w.heap[k]?:=λk hk=>hoth k (hr.jlt k hk) (λhkb=>(hr.dis id en k hen hkb).1 hk)
   have hs2:w.heap.size<=(w.setRow B row.toArray).heap.size:=by simp[World.setRow]
   have hrl:row.length=c.size:=by rw[hrow];simp;omega
   refine⟨_,_,J,m,.inl rfl,U8 _ _,?_,λn=>?_,Ml.refl m⟩
   ·have:=RS.upd hr (w':=w.setRow B row.toArray) en (.arr g sz (els.take off++news.take len++els.drop (off+min news.length len))) hen (Nat.le_refl _) (λ_=>rfl) (λB' hB'=>⟨.inl hB',by have:=(hr.dis id en B' hen hB').2;omega⟩) hoth hs2 ?_
    ·rw[hset]at this;exact this
    ·rw[hset]
     have hl1:(els.take off).length=off:=by simp;omega
     have hl2:(news.take len).length=min news.length len:=by rw[qw,Nat.min_comm]
     refine⟨hg,hsz,λi el hi=>?_,?_⟩
     ·rw[j2]at hi
      by_cases h1:i<off
      ·rw[qd (by omega),jb,if_pos h1]at hi
       exact o3 i el hi
      ·rw[qf (by omega),hl1]at hi
       by_cases h2:i-off<min news.length len
       ·rw[qd (by omega)]at hi
        exact hfl.2.1 _ el hi
       ·rw[qf (by omega),jc]at hi
        exact o3 _ el hi
     ·rw[hbk]
      refine⟨by simp only[j3,hl1,hl2,List.length_drop];omega,p2,_,ty2,fz,setRow_heap w B c _ ty2 fz p3,by simp[hrl,p4],by intro k hk;exact p5 k (by simpa[hrl]using hk),λi el j y hi hj=>?_⟩
      have hsp:=λq=>Y0 (cs:=c.toList) (ys:=vs) (j:=(en.base+off)*sz) (k:=q) (by simp;omega)
      rw[List.getElem?_toArray,hrow,hsp]
      have hmono:∀v cv,RC J m w v cv->RC J m (w.setRow B row.toArray) v cv:=λv cv hq=>RC.mono (λ_ h=>h) hJ (Ml.refl m) hq
      rw[hrow]at hmono
      have hpos:(en.base+i)*sz+j=en.base*sz+i*sz+j:=by rw[Nat.add_mul]
      have hbo:(en.base+off)*sz=en.base*sz+off*sz:=by rw[Nat.add_mul]
      rw[j2]at hi
      by_cases h1:i<off
      ·rw[qd (by omega),jb,if_pos h1]at hi
       have hjl:j<sz:=by rw[<- o3 i el hi];exact(q8.1 hj).1
       have:=j5 sz (show i+1<=off from h1)
       rw[Nat.add_mul,Nat.one_mul]at this
       obtain⟨cv,r1,r2⟩:=p6 i el j y hi hj
       rw[if_pos (by omega)]
       exact⟨cv,by rw[Array.getElem?_toList];exact r1,hmono _ _ r2⟩
      ·rw[qf (by omega),hl1]at hi
       have hio:i*sz=off*sz+(i-off)*sz:=by rw[<- Nat.add_mul];congr 1;omega
       by_cases h2:i-off<min news.length len
       ·rw[qd (by omega)]at hi
        obtain⟨cv,r1,r2⟩:=hfl.2.2 _ el j y hi hj
        have:=(q8.1 r1).1
        rw[if_neg (by omega),if_pos (by omega)]
        exact⟨cv,by rw[<- r1];congr 1;omega,hmono _ _ r2⟩
       ·rw[qf (by omega),jc,hl2]at hi
        rw[show off+min news.length len+(i-off-min news.length len)=i by omega]at hi
        obtain⟨cv,r1,r2⟩:=p6 i el j y hi hj
        have:=j5 sz (show min news.length len<=i-off by omega)
        rw[if_neg (by omega),if_neg (by omega)]
        exact⟨cv,by rw[Array.getElem?_toList];exact r1,hmono _ _ r2⟩
   ·have:=Ev.upd (n:=n) (J:=J) (w:=w) (w':=w.setRow B row.toArray) en hen (Nat.le_refl _) (λ_=>rfl) (λB' hB'=>.inl hB') hoth hs2 rfl rfl rfl (Nat.le_refl _)
    rw[hset]at this;exact this
theorem Qfk {dT sT ty e:TypeId} {sz:Nat} (hd:P.underlying dT=some (.slice e)) (he:(P.info? e).map (·.size)=some sz) (hr:RS J h m w) {id g off len:Nat} {x:Value} (hx:RV J m w (.own id g off len) x)
  {els:List (List V)} (ho:h[id]?=some (.arr g sz els)) (hle:off+len<=els.length) {Y:V} {y:Value} (hy:RV J m w Y y) {news:List (List V)} (hn:Zg sz h Y=some news) :
  Fine J m w (h.set id (.arr g sz (els.take off++news.take len++els.drop (off+min news.length len)))) (.i .i64 (min news.length len:Nat)) ((do pure (.value (<- Builtin.copy_ #[dT,sT] ty #[x,y])):Sem Next).run P w):=by
 obtain⟨b,cap,vs,rfl,h1,h2,h3,h4⟩:=Xc hr hy hn
 refine Wh (vs:=vs.take (len*sz)) hd he hr hx ho hle (by simp[Builtin.lenOf]) (h3.take len) ?_
 have hmin:(Nat.min news.length len)*sz=min (len*sz) vs.length:=by
  rw[h3.1]
  show min news.length len*sz=_
  rcases Nat.le_total news.length len with hh | hh
  ·rw[Nat.min_eq_left hh,Nat.min_eq_right (j5 _ hh)]
  ·rw[Nat.min_eq_right hh,Nat.min_eq_left (j5 _ hh)]
 refine Ze (by rw[qw,hmin]) (λhb=>?_) (λa' ha j v hj=>?_)
 ·have:=(h2 hb).1
  show min news.length len=0
  omega
 ·rw[jb]at hj
  split at hj
  case isFalse=>simp at hj
  exact h4 a' ha j v hj
theorem Q92 {dT sT ty e:TypeId} (hd:P.underlying dT=some (.slice e)) (he:(P.info? e).map (·.size)=some 1) (hr:RS J h m w) {id g off len:Nat} {x:Value} (hx:RV J m w (.own id g off len) x)
  {els:List (List V)} (ho:h[id]?=some (.arr g 1 els)) (hle:off+len<=els.length) {l:List UInt8} {y:Value} (hy:RV J m w (.s l) y) :
  Fine J m w (h.set id (.arr g 1 (els.take off++(l.map Yi).take len++els.drop (off+min (l.map Yi).length len)))) (.i .i64 (min (l.map Yi).length len:Nat)) ((do pure (.value (<- Builtin.copy_ #[dT,sT] ty #[x,y])):Sem Next).run P w):=by
 have:=X1 hy;subst this
 refine Wh (vs:=(l.take len).map λb=>.int .u8 b.toNat) hd he hr hx ho hle (by simp[Builtin.lenOf,En]) ?_ ?_
 ·refine⟨by simp,λi el hi=>?_,λi el j y hi hj=>?_⟩
  ·rw[jb]at hi
   split at hi
   case isFalse=>simp at hi
   simp only[qq,qa]at hi
   obtain⟨b,_,rfl⟩:=hi;rfl
  ·rw[jb]at hi
   split at hi
   case isFalse=>simp at hi
   rename_i hlt
   simp only[qq,qa]at hi
   obtain⟨b,hb,rfl⟩:=hi
   cases j with
   | succ j=>simp[Yi]at hj
   | zero =>
     simp[Yi]at hj
     subst hj
     refine⟨.int .u8 b.toNat,?_,Qn (.i _ _)⟩
     simp[jb,hlt,hb]
 ·have:((ByteArray.mk l.toArray).extract 0 (Nat.min (l.map Yi).length len)).data=(l.take len).toArray:=by
   apply Array.ext'
   simp[ByteArray.data_extract,List.extract_eq_take_drop]
   exact Nat.min_comm _ _
  simp[Builtin.firstCells,this]
  try (first | omega | exact Nat.min_comm _ _)
theorem Bf {mx:Bool}:∀(vs:List V) (xs:List Value) (r:V),Pw (RV J m w) vs xs->J9 mx vs=some r ->
  ∃k n,r=.i k n/\(match xs with | []=>(stuck "" : Sem Value) | x::rest=>rest.foldlM (if mx then Builtin.max2 else Builtin.min2) x).run P w=.ok (.int k n) w
 | [],_,_,_,h=>by simp[J9]at h
 | [X],xs,r,hp,h=>by
   cases X<;>simp[J9,Q8e]at h
   subst h
   cases xs with
   | nil=>have:=hp.1;simp at this
   | cons x xs =>
     have:=hp.1;simp at this;subst this
     have:=Z5 hp.head;subst this
     exact⟨_,_,rfl,by simp⟩
 | X::Y::rest,xs,r,hp,h=>by
   cases X<;>cases Y<;>simp only[J9,Q8e]at h<;>try (simp at h;done)
   rename_i k a k' b
   split at h
   case isFalse=>simp at h
   rename_i hk
   subst hk
   cases xs with
   | nil=>have:=hp.1;simp at this
   | cons x xs =>
     cases xs with
     | nil=>have:=hp.1;simp at this
     | cons y xs =>
       have:=Z5 hp.head;subst this
       have:=Z5 hp.tail.head;subst this
       obtain⟨k2,n2,rfl,h2⟩:=Bf (.i k (if mx then (if b > a then b else a) else (if b<a then b else a))::rest) (.int k (if mx then (if b > a then b else a) else (if b<a then b else a))::xs) r (Pw.cons (U8 _ _) hp.tail.tail) h
       refine⟨k2,n2,rfl,?_⟩
       simp only[List.foldlM_cons,Sem.run_bind]
       simp only at h2
       cases mx
       ·simp only[Bool.false_eq_true,if_false,Builtin.min2,Sem.run_pure,Result.andThen_ok]at h2 ⊢
        exact h2
       ·simp only[if_true,Builtin.max2,Sem.run_pure,Result.andThen_ok]at h2 ⊢
        exact h2
termination_by vs=>vs.length
theorem fine_mx {tys:Array TypeId} {ty:TypeId} (hr:RS J h m w) {vs:List V} {xs:Array Value} (hp:Pw (RV J m w) vs xs.toList) {r:V} (hs:J9 true vs=some r) :
  Fine J m w h r ((do pure (.value (<- Builtin.max_ tys ty xs)):Sem Next).run P w):=by
 obtain⟨k,n,rfl,h1⟩:=Bf (P:=P) vs xs.toList r hp hs
 have hrun:(Builtin.max_ tys ty xs).run P w=.ok (.int k n) w:=by
  unfold Builtin.max_
  cases hx:xs.toList with
  | nil=>rw[hx]at h1;simp at h1
  | cons x rest=>rw[hx]at h1;simpa using h1
 simp only[Sem.run_bind,hrun,Result.andThen_ok,Sem.run_pure]
 exact Fine.pure hr (U8 _ _)
theorem fine_mn {tys:Array TypeId} {ty:TypeId} (hr:RS J h m w) {vs:List V} {xs:Array Value} (hp:Pw (RV J m w) vs xs.toList) {r:V} (hs:J9 false vs=some r) :
  Fine J m w h r ((do pure (.value (<- Builtin.min_ tys ty xs)):Sem Next).run P w):=by
 obtain⟨k,n,rfl,h1⟩:=Bf (P:=P) vs xs.toList r hp hs
 have hrun:(Builtin.min_ tys ty xs).run P w=.ok (.int k n) w:=by
  unfold Builtin.min_
  cases hx:xs.toList with
  | nil=>rw[hx]at h1;simp at h1
  | cons x rest=>rw[hx]at h1;simpa using h1
 simp only[Sem.run_bind,hrun,Result.andThen_ok,Sem.run_pure]
 exact Fine.pure hr (U8 _ _)
end
end Go.Abs
namespace Go.Abs
open Go.RowKit
def Ed (P:Program) (g:TypeId->Option (List Nat)):List Field->Nat->Option (List Nat)
 | [],_=>some []
 | f::fs,acc=>if f.name = "_" ∨ f.offset≠acc then none else
   match g f.type with
   | some ks=>if (P.info? f.type).map (·.size)=some ks.length then (Ed P g fs (acc+ks.length)).map (ks++·) else none
   | none=>none
def flatK (P:Program):Nat->TypeId->Option (List Nat)
 | 0,_=>none
 | d+1,T=>match P.underlying T with
   | some .bool=>some [0]
   | some (.int _)=>some [1]
   | some .string=>some [2]
   | some (.struct fs)=>if P.stoodInHeld T then none else Ed P (flatK P d) fs.toList 0
   | some (.array n e)=>match flatK P d e with
     | some ks=>if (P.info? e).map (·.size)=some ks.length then some ((List.replicate n ks).flatten) else none
     | none=>none
   | _=>none
theorem Yy:∀{ks:List Nat} {xs ys:List V} {r:Bool},Z3 ks xs ys=some r->xs.length=ks.length/\ys.length=ks.length
 | [],[],[],_,_=>⟨rfl,rfl⟩
 | [],[],_::_,_,h=>by simp[Z3]at h
 | [],_::_,_,_,h=>by simp[Z3]at h
 | _::_,[],_,_,h=>by simp[Z3]at h
 | _::_,_::_,[],_,h=>by simp[Z3]at h
 | k::ks,x::xs,y::ys,r,h=>by
   simp only[Z3]at h
   split at h
   ·rename_i a b _ hb
    have:=Yy hb
    simp[this.1,this.2]
   ·simp at h
theorem W1:∀{ks ls:List Nat} {xs ys:List V} {r:Bool},Z3 (ks++ls) xs ys=some r ->
  ∃a b,Z3 ks (xs.take ks.length) (ys.take ks.length)=some a/\Z3 ls (xs.drop ks.length) (ys.drop ks.length)=some b/\r=(a && b)
 | [],ls,xs,ys,r,h=>⟨true,r,by simp[Z3],by simpa using h,by simp⟩
 | k::ks,ls,[],ys,r,h=>by simp[Z3]at h
 | k::ks,ls,x::xs,[],r,h=>by simp[Z3]at h
 | k::ks,ls,x::xs,y::ys,r,h=>by
   simp only[List.cons_append,Z3]at h
   split at h
   case h_2=>simp at h
   rename_i a b ha hb
   obtain⟨c,d,h1,h2,rfl⟩:=W1 hb
   refine⟨a && c,d,?_,by simpa using h2,?_⟩
   ·simp only[List.length_cons,List.take_succ_cons,Z3,ha,h1]
   ·rw[<- Option.some.inj h,Bool.and_assoc]
section
variable {P:Program} {J:Nat->Prop} {m:List Ent} {w:World} {h:List O}
def mkT (P:Program) (T:TypeId) (cs:List Value):Value :=
 match P.underlying T with
 | some (.struct _) | some (.array _ _)=>.agg cs.toArray
 | _=>cs.headD undef
theorem Wz {d:Nat} {T:TypeId} {ks:List Nat} (hf:flatK P d T=some ks):(∃fs,P.underlying T=some (.struct fs))∨(∃n e,P.underlying T=some (.array n e)) ∨
  ((P.underlying T=some .bool/\ks=[0])∨(∃k,P.underlying T=some (.int k)/\ks=[1])∨(P.underlying T=some .string/\ks=[2])):=by
 cases d with
 | zero=>simp[flatK]at hf
 | succ d =>
   simp only[flatK]at hf
   split at hf<;>rename_i hu
   ·exact .inr (.inr (.inl ⟨hu,(Option.some.inj hf).symm⟩))
   ·exact .inr (.inr (.inr (.inl ⟨_,hu,(Option.some.inj hf).symm⟩)))
   ·exact .inr (.inr (.inr (.inr ⟨hu,(Option.some.inj hf).symm⟩)))
   ·exact .inl ⟨_,hu⟩
   ·exact .inr (.inl ⟨_,_,hu⟩)
   ·simp at hf
theorem Yr {d:Nat} {T:TypeId} {ks:List Nat} (hf:flatK P d T=some ks) (hi:(P.info? T).map (·.size)=some ks.length) {cs:Array Value} {off:Nat} (hl:off+ks.length<=cs.size) :
  (part T cs off).run P w=.ok (mkT P T ((cs.toList.drop off).take ks.length)) w:=by
 have hagg:∀(hA:(isAgg T).run P w=.ok true w),(part T cs off).run P w=.ok (.agg ((cs.toList.drop off).take ks.length).toArray) w:=by
  intro hA
  simp only[part,Sem.run_bind,hA,Result.andThen_ok,if_true,Qm hi,Sem.run_pure]
  congr 2
  apply Array.ext'
  simp[Array.toList_extract,List.extract_eq_take_drop]
 have hsc:∀(hA:(isAgg T).run P w=.ok false w) (hk:ks.length=1),(part T cs off).run P w=.ok (((cs.toList.drop off).take ks.length).headD undef) w:=by
  intro hA hk
  have hlt:off<cs.size:=by omega
  simp only[part,Sem.run_bind,hA,Result.andThen_ok,Bool.false_eq_true,if_false,Array.getElem?_eq_getElem hlt,Sem.run_pure,hk]
  congr 1
  rw[<- List.getElem_cons_drop (by simpa using hlt)]
  simp
 rcases Wz hf with⟨fs,hu⟩ | ⟨n,e,hu⟩ | ⟨hu,rfl⟩ | ⟨k,hu,rfl⟩ | ⟨hu,rfl⟩
 ·rw[hagg (by simp[isAgg,run_underlying hu])];simp[mkT,hu]
 ·rw[hagg (by simp[isAgg,run_underlying hu])];simp[mkT,hu]
 ·rw[hsc (by simp[isAgg,run_underlying hu]) rfl];simp[mkT,hu]
 ·rw[hsc (by simp[isAgg,run_underlying hu]) rfl];simp[mkT,hu]
 ·rw[hsc (by simp[isAgg,run_underlying hu]) rfl];simp[mkT,hu]
def EqAt (P:Program) (J:Nat->Prop) (m:List Ent) (w:World) (d:Nat):Prop :=
 ∀T ks,flatK P d T=some ks->∀d',d<=d'->∀(vx vy:List V) (cx cy:List Value) (r:Bool),Pw (RC J m w) vx cx->Pw (RC J m w) vy cy->Z3 ks vx vy=some r ->
  (Op.equalIn d' T (mkT P T cx) (mkT P T cy)).run P w=.ok r w
theorem Qdc {d:Nat} (ih:EqAt P J m w d):∀(fs:List Field) (acc:Nat) (ks:List Nat),Ed P (flatK P d) fs acc=some ks->∀d',d<=d'->∀(vx vy:List V) (cx cy:Array Value) (r:Bool),
  Pw (RC J m w) vx (cx.toList.drop acc)->Pw (RC J m w) vy (cy.toList.drop acc)->Z3 ks vx vy=some r->acc<=cx.size->acc<=cy.size->(Op.eqFields d' cx cy fs).run P w=.ok r w
 | [],acc,ks,hf,d',hd,vx,vy,cx,cy,r,hx,hy,hv,_,_=>by
   simp[Ed]at hf
   subst hf
   cases vx<;>cases vy<;>simp[Z3]at hv
   subst hv
   simp[Op.eqFields]
 | f::fs,acc,ks,hf,d',hd,vx,vy,cx,cy,r,hx,hy,hv,ha,hb=>by
   simp only[Ed]at hf
   split at hf
   case isTrue=>simp at hf
   rename_i hno
   simp only[not_or,Decidable.not_not]at hno
   split at hf
   case h_2=>simp at hf
   rename_i k1 hk1
   split at hf
   case isFalse=>simp at hf
   rename_i hsz
   simp only[qa]at hf
   obtain⟨k2,hk2,rfl⟩:=hf
   obtain⟨a,b,h1,h2,rfl⟩:=W1 hv
   have hl:=Yy hv
   have hlx:vx.length=cx.size-acc:=by have:=hx.1;simpa using this
   have hly:vy.length=cy.size-acc:=by have:=hy.1;simpa using this
   have hlen:(k1++k2).length=k1.length+k2.length:=by simp
   have hp1:=Yr (w:=w) hk1 hsz (cs:=cx) (off:=f.offset) (by rw[hno.2];omega)
   have hp2:=Yr (w:=w) hk1 hsz (cs:=cy) (off:=f.offset) (by rw[hno.2];omega)
   rw[hno.2]at hp1 hp2
   have he:=ih f.type k1 hk1 d' hd (vx.take k1.length) (vy.take k1.length) ((cx.toList.drop acc).take k1.length) ((cy.toList.drop acc).take k1.length) a (hx.take _) (hy.take _) h1
   have hrest:=Qdc ih fs (acc+k1.length) k2 hk2 d' hd (vx.drop k1.length) (vy.drop k1.length) cx cy b (by simpa[List.drop_drop]using hx.drop k1.length) (by simpa[List.drop_drop]using hy.drop k1.length) h2 (by omega) (by omega)
   have hn:f.name ≠ "_" := hno.1
   simp only[Op.eqFields,hn,ne_eq,not_false_eq_true,if_true,Sem.run_bind,hno.2,hp1,hp2,Result.andThen_ok,he]
   cases a
   ·simp
   ·simp[hrest]
theorem Q8v {n:Nat} {e:TypeId} {ks:List Nat} {d d':Nat} (ih:EqAt P J m w d) (hk:flatK P d e=some ks) (hsz:(P.info? e).map (·.size)=some ks.length) (hd:d<=d') {cx cy:Array Value} :
  ∀(k:Nat) (i:Nat) (vx vy:List V) (r:Bool),i+k=n->Pw (RC J m w) vx (cx.toList.drop (i*ks.length))->Pw (RC J m w) vy (cy.toList.drop (i*ks.length))->Z3 (List.replicate k ks).flatten vx vy=some r ->
   i*ks.length<=cx.size->i*ks.length<=cy.size ->
   (forIn (List.range' i k) ((none:Option Bool),()) (λi (_:Option Bool × Unit)=>(do
     let a <- part e cx (i*ks.length)
     let b <- part e cy (i*ks.length)
     let r <- Op.equalIn d' e a b
     if (!r)=true then pure (.done (some false,())) else pure (.yield (none,())):Sem (ForInStep (Option Bool × Unit))))).run P w =
    .ok ((if r then none else some false),()) w
 | 0,i,vx,vy,r,_,hx,hy,hv,_,_=>by
   simp[Z3]at hv
   cases vx<;>cases vy<;>simp[Z3]at hv
   subst hv
   simp
 | k+1,i,vx,vy,r,hn,hx,hy,hv,ha,hb=>by
   rw[List.replicate_succ,List.flatten_cons]at hv
   obtain⟨a,b,h1,h2,rfl⟩:=W1 hv
   have hl:=Yy hv
   have hlx:vx.length=cx.size-i*ks.length:=by have:=hx.1;simpa using this
   have hly:vy.length=cy.size-i*ks.length:=by have:=hy.1;simpa using this
   have hlen:(ks++(List.replicate k ks).flatten).length=ks.length+((List.replicate k ks).flatten).length:=by simp
   have hp1:=Yr (w:=w) hk hsz (cs:=cx) (off:=i*ks.length) (by omega)
   have hp2:=Yr (w:=w) hk hsz (cs:=cy) (off:=i*ks.length) (by omega)
   have he:=ih e ks hk d' hd _ _ _ _ a (hx.take ks.length) (hy.take ks.length) h1
   have hmul:(i+1)*ks.length=i*ks.length+ks.length:=by rw[Nat.add_mul,Nat.one_mul]
   have hrest:=Q8v (n:=n) ih hk hsz hd (cx:=cx) (cy:=cy) k (i+1) (vx.drop ks.length) (vy.drop ks.length) b (by omega) (by rw[hmul];simpa[List.drop_drop]using hx.drop ks.length) (by rw[hmul];simpa[List.drop_drop]using hy.drop ks.length) h2 (by omega) (by omega)
   simp only[List.range'_succ,List.forIn_cons,Sem.run_bind,hp1,hp2,he,Result.andThen_ok]
   cases a
   ·simp
   ·simp only[Bool.not_true,Bool.false_eq_true,if_false,Sem.run_pure,Result.andThen_ok,hrest,Bool.true_and]
theorem Ig:∀d,EqAt P J m w d
 | 0=>λT ks hf=>by simp[flatK]at hf
 | d+1=>by
   intro T ks hf d' hd vx vy cx cy r hx hy hv
   obtain⟨d'',rfl⟩:∃d'',d'=d''+1:=⟨d'-1,by omega⟩
   simp only[flatK]at hf
   have one:∀k,ks=[k]->∃x y a b,vx=[x]/\vy=[y]/\cx=[a]/\cy=[b]/\RC J m w x a/\RC J m w y b/\Er k x y=some r:=by
    intro k hk
    subst hk
    have hl:=Yy hv
    match vx,vy,cx,cy,hl,hx,hy,hv with
    | [x],[y],[a],[b],_,hx,hy,hv =>
      refine⟨x,y,a,b,rfl,rfl,rfl,rfl,hx.head,hy.head,?_⟩
      simp only[Z3]at hv
      split at hv
      ·rename_i p q hp hq
       simp at hq;subst hq
       rw[hp];simpa using hv
      ·simp at hv
    | [x],[y],[],_,_,hx,_,_=>have:=hx.1;simp at this
    | [x],[y],[a],[],_,_,hy,_=>have:=hy.1;simp at this
    | [x],[y],_::_::_,_,_,hx,_,_=>have:=hx.1;simp at this
    | [x],[y],_,_::_::_,_,_,hy,_=>have:=hy.1;simp at this
   split at hf<;>rename_i hu
   ·obtain⟨x,y,a,b,rfl,rfl,rfl,rfl,ha,hb,hs⟩:=one 0 (Option.some.inj hf).symm
    cases x<;>cases y<;>simp[Er]at hs
    subst hs
    have:=Y4 (Qe ha);subst this
    have:=Y4 (Qe hb);subst this
    simp[mkT,hu,run_equalIn_bool' w d'' T _ _ hu]
   ·obtain⟨x,y,a,b,rfl,rfl,rfl,rfl,ha,hb,hs⟩:=one 1 (Option.some.inj hf).symm
    cases x<;>cases y<;>simp[Er]at hs
    obtain⟨rfl,rfl⟩:=hs
    have:=Z5 (Qe ha);subst this
    have:=Z5 (Qe hb);subst this
    simp[mkT,hu,run_equalIn_int w d'' T _ _ _ _ hu]
   ·obtain⟨x,y,a,b,rfl,rfl,rfl,rfl,ha,hb,hs⟩:=one 2 (Option.some.inj hf).symm
    cases x<;>cases y<;>simp[Er]at hs
    subst hs
    have:=X1 (Qe ha);subst this
    have:=X1 (Qe hb);subst this
    simp[mkT,hu,run_equalIn_string w d'' T _ _ hu]
   ·rename_i fs
    split at hf
    case isTrue=>simp at hf
    rename_i hst
    have hfo:P.fieldsOf T=fs:=by simp[Program.fieldsOf,hu]
    have hT:P.underlying T=some (.struct (P.fieldsOf T)):=by rw[hfo];exact hu
    simp only[mkT,hu]
    rw[run_equalIn_struct w d'' T _ _ hT (by simpa using hst),hfo]
    exact Qdc (Ig d) fs.toList 0 ks hf d'' (by omega) vx vy _ _ r (by simpa using hx) (by simpa using hy) hv (by simp) (by simp)
   ·rename_i n e
    split at hf
    case h_2=>simp at hf
    rename_i k1 hk1
    split at hf
    case isFalse=>simp at hf
    rename_i hsz
    obtain rfl:=Option.some.inj hf
    simp only[mkT,hu]
    have:=Q8v (P:=P) (J:=J) (m:=m) (w:=w) (d':=d'') (Ig d) hk1 hsz (by omega) (n:=n) (cx:=cx.toArray) (cy:=cy.toArray) n 0 vx vy r (by omega) (by simpa using hx) (by simpa using hy) hv (by simp) (by simp)
    simp only[Op.equalIn,Sem.run_bind,run_underlying hu,Result.andThen_ok,Qm hsz]
    simp only[Std.Legacy.Range.forIn_eq_forIn_range',Std.Legacy.Range.size]
    simp at this ⊢
    rw[this]
    cases r<;>simp
   ·simp at hf
end
end Go.Abs
