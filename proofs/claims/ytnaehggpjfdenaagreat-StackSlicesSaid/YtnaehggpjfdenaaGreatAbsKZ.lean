/- append of so many zero values. -/
import Derived.Test.YtnaehggpjfdenaaGreatAbsKN
set_option linter.unusedVariables false
set_option linter.unusedSimpArgs false
namespace Go.Abs
open Go.RowKit
section
variable {P:Program} {J:Nat->Prop} {m:List Ent} {w:World} {h:List O}
theorem Qdd {t t' ty e:TypeId} {i:TypeInfo} {z:Value} (hi:P.info? e=some i) (hz:i.zero=some z) (hzs:z.cells.size=i.size)
  (hr:RS J h m w) {id g off len:Nat} {s:Value} (hs:RV J m w (.own id g off len) s) {els:List (List V)} (ho:h[id]?=some (.arr g i.size els)) (hle:off+len<=els.length)
  {x:Value} {news:List (List V)} {vs:List Value} (h3:Flat (RC J m w) i.size news vs)
  (hN:news.length=0->∀a sCap,(Builtin.append_ #[t,t'] ty #[.slice a 0 sCap,x]).run P w=.ok (.slice a 0 sCap) w)
  (hF:∀(B o sLen sCap:Nat) (cur:Array Value) (fz:Nat × Nat) (ty':TypeId),sLen+news.length<=sCap->w.heap[B]?=some (.cells cur ty' fz)->o+sLen*i.size+vs.length<=cur.size->(∀v∈vs,v.oneCell'=true)->(∀k,k<cur.size->¬ (fz.1<=k/\k<fz.2)) ->
   (Builtin.append_ #[t,t'] ty #[.slice (some ⟨B,o,none⟩) sLen sCap,x]).run P w =
    .ok (.slice (some ⟨B,o,none⟩) (sLen+news.length) sCap) (w.setRow B (cur.toList.take (o+sLen*i.size)++vs++cur.toList.drop (o+sLen*i.size+vs.length)).toArray))
  (hG:∀(a:Option Addr) (sLen sCap:Nat) (olds:List Value),olds.length=sLen*i.size->(a=none->sLen=0)->(∀a',a=some a'->∀j v,olds[j]?=some v->w.cell? (a'.add j)=some v)->sCap<sLen+news.length->((sLen+news.length:Nat):Int)<=9223372036854775807->Builtin.nextslicecap (sLen+news.length) sCap*i.bytes<=281474976710656 ->
   (Builtin.append_ #[t,t'] ty #[.slice a sLen sCap,x]).run P w =
    .ok (.slice (some ⟨w.heap.size,0,none⟩) (sLen+news.length) (grownCap w (sLen+news.length) sCap e))
     (w.drew.alloc (.cells (olds.toArray++vs.toArray++Builtin.zeroCells z.cells (grownCap w (sLen+news.length) sCap e-(sLen+news.length))) e)))
  (hb:(len+news.length)*i.bytes<=140737488355328) (h63:len+news.length<=9223372036854775807) :
  Fine J m w (h.set id (.arr (g+1) i.size ((els.drop off).take len++news))) (.own id (g+1) 0 (len+news.length)) ((do pure (.value (<- Builtin.append_ #[t,t'] ty #[s,x])):Sem Next).run P w):=by
 have he0:Zr i.size h (.own id g off len)=some ((els.drop off).take len):=by simp[Zr,ho,hle]
 have hlen:((els.drop off).take len).length=len:=by simp;omega
 obtain⟨a,scap,us,hsv,g1,g2,g3,g4⟩:=J5 hr hs he0;rw[hlen]at hsv g1 g2
 obtain⟨en,hen,hg,hsz,hsl,hobj⟩:=K2 hr hs ho;have hfl:=Flat.append g3 h3;have hidm:id<m.length:=(q8.1 hen).1;have hidh:id<h.length:=(q8.1 ho).1;have hgetn:∀x:Ent,(m.set id x)[id]?=some x:=λx=>qm hidm
 have hg1:1<=g:=by obtain⟨_,_,_,h3,_⟩:=hs;exact h3.1
 by_cases hroom:len+news.length<=scap
 ·by_cases h0:len+news.length=0
  ·-- nothing at all
   have hl0:len=0:=by omega
   have hn0:news=[]:=ql (by omega);subst hn0;subst hl0;subst hsv;simp only[List.length_nil,Nat.add_zero];rw[Jw (hN rfl a scap)]
   -- the block,if there is one,stays with the new object
   refine⟨_,w,J,m.set id ⟨g+1,i.size,en.blk,en.base+off,en.cap-off⟩,.inl rfl,⟨rfl,_,hgetn _,by simp,λ_=>?_⟩,?_,λn=>?_,?_⟩
   ·unfold Ent.sl at hsl ⊢;cases hb:en.blk with
    | none =>
      rw[hb]at hsl
      exact⟨rfl,rfl,by simpa using hsl.2.2⟩
    | some B =>
      rw[hb]at hsl
      obtain⟨o,cc,h5,h6,h7⟩:=hsl;refine⟨o,cc,?_,by simp;omega,λhlt=>?_⟩
      ·simpa using h5
      ·simp only[Nat.add_zero]at hlt ⊢;rw[h7 (by omega),hsz]
   ·refine RS.upd hr _ _ hen (by simp;omega) (by simp;omega) (λB hB=>⟨.inl hB,(hr.dis id en B hen hB).2⟩) (λ_ _ _=>rfl) (Nat.le_refl _) ?_;obtain⟨_,_,o3,o4⟩:=hobj;refine⟨rfl,rfl,by simp,?_⟩;simp only;cases hb:en.blk with
    | none=>rw[hb]at o4;exact⟨by simp,by have:=o4.2;omega⟩
    | some B =>
      rw[hb]at o4
      obtain⟨h5,h5',c,ty2,fz,h6,h7,h8,h9⟩:=o4;have hoc:off<=en.cap:=by
       unfold Ent.sl at hsl;rw[hb]at hsl
       obtain⟨_,_,_,h9,_⟩:=hsl;omega
      exact⟨by simp,by omega,c,ty2,fz,h6,by rw[h7];congr 1;omega,h8,by simp⟩
   ·exact Ev.upd _ hen (by simp;omega) (by simp;omega) (λB hB=>.inl hB) (λ_ _ _=>rfl) (Nat.le_refl _) rfl rfl rfl (Nat.le_refl _)
   ·exact Ml.set hen (by simp;omega) (by simp;omega)
  ·-- room in the block
   unfold Ent.sl at hsl;cases hb:en.blk with
   | none =>
     rw[hb]at hsl
     obtain⟨h5,h6,h7⟩:=hsl;exfalso;subst hsv;rcases h7 with h7 | ⟨_,h7⟩<;>simp at h7<;>omega
   | some B =>
     rw[hb]at hsl
     obtain⟨o,cc,h5,h6,h7⟩:=hsl;subst hsv;simp only[Value.slice.injEq]at h5;obtain⟨rfl,_,rfl⟩:=h5;obtain⟨_,_,o3,o4⟩:=hobj;rw[hb]at o4
     obtain⟨p1,p2,c,ty2,fz,p3,p4,p5,p6⟩:=o4;have ho':o=(en.base+off)*i.size:=by rw[h7 (by omega),hsz]
     subst ho';have hvl:vs.length=news.length*i.size:=h3.1;have hfit:(en.base+off)*i.size+len*i.size+vs.length<=c.size:=by
      rw[hvl,p4,<- Nat.add_mul,<- Nat.add_mul];exact j9 _ (by omega)
     have hone:∀v∈vs,v.oneCell'=true:=by
      intro v hv;obtain⟨q,hq⟩:=qq hv;have hql:=(q8.1 hq).1;rw[hvl]at hql
      have hszp:0<i.size:=by
       rcases Nat.eq_zero_or_pos i.size with h | h
       ·rw[h]at hql;simp at hql
       ·exact h
      have q1:q / i.size<news.length:=Nat.div_lt_of_lt_mul (by rw[Nat.mul_comm];exact hql);have q2:q % i.size<i.size:=Nat.mod_lt _ hszp;have q3:q / i.size*i.size+q % i.size=q:=by rw[Nat.mul_comm];exact Nat.div_add_mod q i.size
      have q4:=h3.2.1 _ _ (q9 q1);obtain⟨cv,q5,q6⟩:=h3.2.2 _ _ (q % i.size) _ (q9 q1) (q9 (by omega));rw[q3,hq]at q5
      rw[Option.some.inj q5];exact RC.one q6
     have hrun:=hF B _ len scap c fz ty2 hroom p3 hfit hone p5;rw[Jw hrun];have hwB:B<w.heap.size:=(hr.dis id en B hen hb).2;have hoth:∀k,k<w.heap.size->en.blk≠some k->(w.setRow B (c.toList.take ((en.base+off)*i.size+len*i.size)++vs++c.toList.drop ((en.base+off)*i.size+len*i.size+vs.length)).toArray).heap[k]?=w.heap[k]?:=λk _ hk=>setRow_other w B k _ (λhkb=>hk (by rw[hb,hkb]))
     have hJ:∀k,J k->(w.setRow B (c.toList.take ((en.base+off)*i.size+len*i.size)++vs++c.toList.drop ((en.base+off)*i.size+len*i.size+vs.length)).toArray).heap[k]?=w.heap[k]?:=λk hk=>hoth k (hr.jlt k hk) (λhkb=>(hr.dis id en k hen hkb).1 hk)
     have hsz2:w.heap.size<=(w.setRow B (c.toList.take ((en.base+off)*i.size+len*i.size)++vs++c.toList.drop ((en.base+off)*i.size+len*i.size+vs.length)).toArray).heap.size:=by simp[World.setRow]
     refine⟨_,_,J,m.set id ⟨g+1,i.size,some B,en.base+off,en.cap-off⟩,.inl rfl,⟨rfl,_,hgetn _,⟨by simp,Nat.le_refl _⟩,λ_=>⟨_,_,rfl,⟨by simpa using hroom,by simp;omega⟩,λ_=>by simp⟩⟩,?_,λn=>?_,?_⟩
     ·refine RS.upd hr _ _ hen (by simp;omega) (by simp;omega) (λB' hB'=>⟨.inl (by simpa using hb.trans hB'),?_⟩) hoth hsz2 ?_
      ·simp at hB';omega
      ·refine⟨rfl,rfl,hfl.2.1,?_⟩;simp only;refine⟨by rw[j7,hlen];omega,by omega,_,ty2,fz,setRow_heap w B c _ ty2 fz p3,?_,?_,?_⟩
       ·simp only[List.size_toArray,j7,qv,List.length_drop,Array.length_toList];rw[show en.base+off+(en.cap-off)=en.base+en.cap by omega,<- p4];omega
       ·intro k hk;apply p5;simp only[List.size_toArray,j7,qv,List.length_drop,Array.length_toList]at hk;omega
       ·intro k el j y hk hj;have hml:Ml m (m.set id ⟨g+1,i.size,some B,en.base+off,en.cap-off⟩):=Ml.set hen (by simp;omega) (by simp;omega);have hsp:=λq=>Yj (cs:=c.toList) (ys:=vs) (j:=(en.base+off)*i.size+len*i.size) (k:=q) (by simpa using hfit)
        have hel:=hfl.2.1 k el hk;have hjl:j<i.size:=by rw[<- hel];exact(q8.1 hj).1
        have hpos:(en.base+off+k)*i.size+j=(en.base+off)*i.size+(k*i.size+j):=by rw[Nat.add_mul];omega
        rw[List.getElem?_toArray,hsp];by_cases hkl:k<len
        ·have hkm:=j9 i.size (show k+1<=len from hkl);rw[Nat.add_mul,Nat.one_mul]at hkm
         rw[if_pos (by omega)];rw[qd (by omega),jf,if_pos hkl,jh]at hk
         obtain⟨cv,q1,q2⟩:=p6 _ el j y hk hj;refine⟨cv,?_,RC.mono (λ_ h=>h) hJ hml q2⟩;rw[Array.getElem?_toList,<- q1];congr 1;rw[<- Nat.add_assoc]
        ·have hk2:k<len+news.length:=by
          have:=(q8.1 hk).1;rw[j7,hlen]at this;exact this
         rw[qf (by omega),hlen]at hk
         obtain⟨cv,q1,q2⟩:=h3.2.2 _ el j y hk hj;have hkk:k*i.size=len*i.size+(k-len)*i.size:=by rw[<- Nat.add_mul];congr 1;omega
         have hql:=(q8.1 q1).1;rw[if_neg (by omega),if_pos (by omega)];refine⟨cv,?_,RC.mono (λ_ h=>h) hJ hml q2⟩;rw[<- q1];congr 1;omega
     ·exact Ev.upd _ hen (by simp;omega) (by simp;omega) (λB' hB'=>.inl (by simpa using hb.trans hB')) hoth hsz2 rfl rfl rfl (Nat.le_refl _)
     ·exact Ml.set hen (by simp;omega) (by simp;omega)
 ·-- a new block
  subst hsv;have hrun:=hG a len scap us (by rw[g3.1,hlen]) (λha=>(g2 ha).1) g4 (by omega) (by omega) (growslice_fits (by omega) hb);rw[Jw hrun];obtain⟨hgc1,hg2⟩:=Kd w (len+news.length) scap e (by omega);generalize hgc:grownCap w (len+news.length) scap e=gc at *
  generalize hrow:us.toArray++vs.toArray++Builtin.zeroCells z.cells (gc-(len+news.length))=row at *
  have hrs:row.size=gc*i.size:=by
   rw[<- hrow];simp only[Array.size_append,Xm,hzs,List.size_toArray,g3.1,h3.1,hlen];rw[<- Nat.add_mul,<- Nat.add_mul];congr 1;omega
  have hold:∀k,k<w.heap.size->(w.drew.alloc (.cells row e)).heap[k]?=w.heap[k]?:=λk hk=>heap_alloc_old w.drew _ hk
  refine⟨_,_,J,m.set id ⟨g+1,i.size,some w.heap.size,0,gc⟩,.inl rfl,⟨rfl,_,hgetn _,⟨by simp,Nat.le_refl _⟩,λ_=>⟨0,_,rfl,⟨by simpa using hgc1,by simp⟩,by simp⟩⟩,?_,λn=>?_,?_⟩
  ·refine RS.upd hr _ _ hen (by simp;omega) (by simp;omega) (λB' hB'=>?_) (λk hk _=>hold k hk) (by simp) ?_
   ·simp at hB';simp;omega
   ·refine⟨rfl,rfl,hfl.2.1,?_⟩;simp only;refine⟨by rw[j7,hlen];exact hgc1,by omega,row,e,(0,0),heap_alloc_new w.drew _,by simpa using hrs,by intro k _;simp,λk el j y hk hj=>?_⟩;obtain⟨cv,q1,q2⟩:=Q0z hfl (Builtin.zeroCells z.cells (gc-(len+news.length))) k el j y hk hj;refine⟨cv,?_,RC.mono (λ_ h=>h) (λk hk=>hold k (hr.jlt k hk)) (Ml.set hen (by simp;omega) (by simp;omega)) q2⟩
    rw[<- hrow];simpa using q1
  ·exact Ev.upd _ hen (by simp;omega) (by simp;omega) (λB' hB'=>.inr (by simp at hB';omega)) (λk hk _=>hold k hk) (by simp) rfl rfl rfl (by simp)
  ·exact Ml.set hen (by simp;omega) (by simp;omega)
theorem Q89 (z:Array Value) (n:Nat):Builtin.zeroCells z n=madeCells z (n*z.size):=Rfl rfl
theorem Qhd {t t' ty e:TypeId} {i:TypeInfo} {z:Value} {kk:IntKind} (ht:P.underlying t=some (.slice e)) (ht':P.underlying t'=some (.int kk)) (hi:P.info? e=some i) (hz:i.zero=some z) (hzs:z.cells.size=i.size)
  {zs:List V} (hzp:Pw (RC J m w) zs z.cells.toList) (hr:RS J h m w) {id g off len:Nat} {s:Value} (hs:RV J m w (.own id g off len) s) {els:List (List V)} (ho:h[id]?=some (.arr g i.size els)) (hle:off+len<=els.length)
  {k:IntKind} {n:Int} {x:Value} (hx:RV J m w (.i k n) x) (h0:0<=n) (hb:(len+n.toNat)*i.bytes<=140737488355328) (h63:len+n.toNat<=9223372036854775807) :
  Fine J m w (h.set id (.arr (g+1) i.size ((els.drop off).take len++List.replicate n.toNat zs))) (.own id (g+1) 0 (len+n.toNat)) ((do pure (.value (<- Builtin.append_ #[t,t'] ty #[s,x])):Sem Next).run P w):=by
 obtain rfl:=Ze hx;have hzl:zs.length=i.size:=by rw[hzp.1];simpa using hzs
 have hfl:Flat (RC J m w) i.size (List.replicate n.toNat zs) (Builtin.zeroCells z.cells n.toNat).toList:=by
  rw[Q89,hzs];exact Flat.replicate hzp hzl n.toNat
 have hw:IntKind.i64.wrap n=n:=by
  simp only[IntKind.wrap,IntKind.bits,IntKind.signed];have:n<=9223372036854775807:=by omega
  simp;omega
 have hbn:¬ (n*(i.bytes:Int) > 281474976710656):=by
  have h1:n.toNat*i.bytes<=(len+n.toNat)*i.bytes:=j9 _ (by omega);have h2:((n.toNat*i.bytes:Nat):Int)=n*i.bytes:=by
   rw[Int.natCast_mul];congr 1;omega
  omega
 have hn0:¬ n<0:=by omega
 have hlen:(List.replicate n.toNat zs).length=n.toNat:=by simp
 have hvl:(Builtin.zeroCells z.cells n.toNat).size=n.toNat*i.size:=by rw[Xm,hzs]
 have happ:∀w:World,(if n.toNat*i.size=0 then pure #[] else (do pure (Builtin.zeroCells (<- zeroValue e).cells n.toNat)):Sem (Array Value)).run P w=.ok (Builtin.zeroCells z.cells n.toNat) w:=by
  intro w;split
  ·rename_i h1;rw[Sem.run_pure];congr 1;exact(Array.eq_empty_of_size_eq_zero (by rw[hvl];exact h1)).symm
  ·simp[zeroValue,typeInfo,hi,hz]
 have key:=Qdd (P:=P) (t:=t) (t':=t') (ty:=ty) (e:=e) (x:=.int k n) hi hz hzs hr hs ho hle (news:=List.replicate n.toNat zs) hfl ?_ ?_ ?_ (by rw[hlen];exact hb) (by rw[hlen];exact h63)
 ·rw[hlen]at key;exact key
 ·rw[hlen];intro hn a sCap;have hemp:Builtin.zeroCells z.cells n.toNat=#[]:=Array.eq_empty_of_size_eq_zero (by rw[hvl,hn,Nat.zero_mul]);have hn':n=0:=by omega
  subst hn';cases a<;>simp[Builtin.append_,run_underlying ht,run_underlying ht',sizeOf,typeInfo,hi,asInt,asIntOf,hw,storeCells]
 ·rw[hlen];intro B o sLen sCap cur fz ty' hg hB hfit h1 hzz;have hst:=Zv (P:=P) B (o+sLen*i.size) ty' fz (Builtin.zeroCells z.cells n.toNat).toList 0 cur w hB (by omega) h1 hzz;simp only[Nat.add_zero]at hst;by_cases h0':n.toNat*i.size=0
  ·have hemp:Builtin.zeroCells z.cells n.toNat=#[]:=Array.eq_empty_of_size_eq_zero (by rw[hvl,h0']);rw[hemp]at hst ⊢
   simp[Builtin.append_,run_underlying ht,run_underlying ht',sizeOf,typeInfo,zeroValue,hi,hz,asInt,asIntOf,hw,hn0,hbn,hg,h0',Addr.add_lit,storeCells]at hst ⊢
   exact hst
  ·simp[Builtin.append_,run_underlying ht,run_underlying ht',sizeOf,typeInfo,zeroValue,hi,hz,asInt,asIntOf,hw,hn0,hbn,hg,h0',Addr.add_lit,hst]
 ·rw[hlen];intro a sLen sCap olds hlo hao hco hg h63' hfit;have hno:¬ sLen+n.toNat<=sCap:=by omega
  have hq1:¬ (9223372036854775807<(sLen:Int)+(n.toNat:Int)):=by omega
  have hq2:¬ (9223372036854775807<(sLen:Int)+max n 0):=by omega
  have hfit':¬ (Builtin.nextslicecap (sLen+n.toNat) sCap*i.bytes > 281474976710656):=by omega
  have hfo:=Zq (P:=P) (w:=w.drew) (len:=sLen) (cap:=sCap) hlo hao (λa' ha j v hj=>hco a' ha j v hj);by_cases h0':n.toNat*i.size=0
  ·have hemp:Builtin.zeroCells z.cells n.toNat=#[]:=Array.eq_empty_of_size_eq_zero (by rw[hvl,h0']);rw[hemp];simp[Builtin.append_,run_underlying ht,run_underlying ht',sizeOf,typeInfo,zeroValue,hi,hz,asInt,asIntOf,hw,hn0,hbn,hno,hq1,hq2,hfit',h0',Question.forced,hfo,newRow,grownCap]
  ·simp[Builtin.append_,run_underlying ht,run_underlying ht',sizeOf,typeInfo,zeroValue,hi,hz,asInt,asIntOf,hw,hn0,hbn,hno,hq1,hq2,hfit',h0',Question.forced,hfo,newRow,grownCap]
theorem Qer (sz:Nat):∀(n:Nat) (cs:List V),(Wa sz n cs).length=n
 | 0,_=>rfl
 | n+1,cs=>by simp[Wa,Qer sz n]
theorem Q4q {sz:Nat}:∀{n:Nat} {cs:List V} {i:Nat} {el:List V},(Wa sz n cs)[i]?=some el->el=(cs.drop (i*sz)).take sz/\i<n
 | 0,_,_,_,h=>by simp[Wa]at h
 | n+1,cs,0,el,h=>by simp[Wa]at h;subst h;simp
 | n+1,cs,i+1,el,h=>by
   simp only[Wa,List.getElem?_cons_succ]at h;obtain⟨h1,h2⟩:=Q4q h;refine⟨?_,by omega⟩;rw[h1,List.drop_drop];congr 2;rw[Nat.add_mul];omega
theorem Qye {T e:TypeId} {sz n:Nat} (hT:P.underlying T=some (.array n e)) (he:(P.info? e).map (·.size)=some sz) (hr:RS J h m w) {id g:Nat} {x:Value} (hx:RV J m w (.p id g 0 0) x)
  {cells:List V} (ho:h[id]?=some (.arr g (n*sz) [cells])) (hn:0<n) (hd:cells.all V.isD=true) :
  Fine J m w (h.set id .dead) (.l sz (Wa sz n cells)) ((do pure (.value (<- Instr.sliceAt T x none none none)):Sem Next).run P w):=by
 obtain⟨_,en,hen,_,hp⟩:=hx;have hobj:=hr.obj id en _ hen ho;simp only[RO]at hobj;obtain⟨h1,h2,h3,h4⟩:=hobj;obtain⟨B,hB,rfl⟩:=hp h1.symm;rw[hB]at h4
 obtain⟨h5,h5',c,ty,fz,h6,h7,h8,h9⟩:=h4;have hcl:cells.length=n*sz:=h3 0 cells rfl;have hrun:(do pure (.value (<- Instr.sliceAt T (.pointer (some ⟨B,(en.base+0)*en.sz+0,none⟩)) none none none)):Sem Next).run P w=.ok (.value (.slice (some ⟨B,(en.base+0)*en.sz+0,none⟩) n n)) w:=by
  have hn0:¬ n=0:=by omega
  simp[Instr.sliceAt,run_underlying hT,Instr.sureAddr,Instr.sliceBounds,Qr he,hn0,Addr.add_lit]
 rw[hrun];have hidm:id<m.length:=(q8.1 hen).1;generalize he':(⟨en.gen+1,en.sz,none,0,0⟩:Ent)=e';have g1:en.gen<=e'.gen:=by rw[<- he'];simp
 have g2:en.gen=e'.gen∨en.gen=0->e'=en:=by
  intro hh;have h1':e'.gen=en.gen+1:=by rw[<- he']
  have:1<=en.gen:=by omega
  omega
 have hb':e'.blk=none:=by rw[<- he']
 have hrs1:RS J (h.set id .dead) (m.set id e') w:=RS.upd hr e' .dead hen g1 g2 (λB' hB'=>by rw[hb']at hB';simp at hB') (λ_ _ _=>rfl) (Nat.le_refl _) trivial;have hBlt:=(hr.dis id en B hen hB)
 have hne:∀(i:Nat) (x:Ent),(m.set id e')[i]?=some x->x.blk≠some B:=by
  intro i x hx hxB;by_cases hi:id=i
  ·subst hi;rw[qm hidm]at hx
   obtain rfl:=Option.some.inj hx;rw[hb']at hxB;simp at hxB
  ·rw[qt hi]at hx
   exact hi (hr.inj i id x en B hx hen hxB hB).symm
 have hrs:RS (λk=>J k∨k=B) (h.set id .dead) (m.set id e') w:=by
  refine⟨hrs1.len,λk hk=>?_,λi x B' hx hB'=>⟨?_,(hrs1.dis i x B' hx hB').2⟩,hrs1.inj,λi x o hx hO=>RO.mono (λ_ h=>.inl h) (λ_ _=>rfl) (Ml.refl _) (λ_ _=>rfl) (hrs1.obj i x o hx hO)⟩
  ·rcases hk with hk | rfl
   ·exact hr.jlt k hk
   ·exact hBlt.2
  ·rintro (hj | rfl)
   ·exact(hrs1.dis i x B' hx hB').1 hj
   ·exact hne i x hx hB'
 refine⟨_,w,(λk=>J k∨k=B),m.set id e',.inl rfl,?_,hrs,λq=>?_,Ml.set hen g1 g2⟩
 ·have hlen:=Qer sz n cells;show RD (λk=>J k∨k=B) w (.l sz (Wa sz n cells)) (.slice (some ⟨B,(en.base+0)*en.sz+0,none⟩) n n);have key:=RD.l (J:=λk=>J k∨k=B) (w:=w) sz (Wa sz n cells) ⟨B,(en.base+0)*en.sz+0,none⟩ n (λi j=>(c[en.base*(n*sz)+(i*sz+j)]?).getD undef) (.inr rfl) (by rw[hlen];exact Nat.le_refl _) ?_ ?_ ?_
  ·rw[hlen]at key;exact key
  ·intro i el hel;obtain⟨q1,q2⟩:=Q4q hel;rw[q1,qv,List.length_drop,hcl];have:=j9 sz (show i+1<=n from q2);rw[Nat.add_mul]at this
   omega
  ·intro i j hi hj;rw[hlen]at hi
   have:=j9 sz (show i+1<=n from hi);rw[Nat.add_mul]at this
   have hlt:en.base*(n*sz)+(i*sz+j)<c.size:=by
    have e1:c.size=en.base*(n*sz)+en.cap*(n*sz):=by rw[h7,Nat.add_mul]
    have e2:n*sz<=en.cap*(n*sz):=Nat.le_mul_of_pos_left _ (by have:=h5;simp at this;omega);rw[e1];generalize en.cap*(n*sz)=q at *
    generalize en.base*(n*sz)=q' at *
    generalize n*sz=q'' at *
    omega
   rw[Addr.add_lit];simp only[World.cell?,h6,Nat.add_zero,h2];rw[Array.getElem?_eq_getElem hlt];simp
  ·intro i el j v hel hv;obtain⟨q1,q2⟩:=Q4q hel;have hj:j<sz:=by
    have:=(q8.1 hv).1;rw[q1,qv]at this
    omega
   rw[q1,jf,if_pos hj,jh]at hv
   obtain⟨cv,r1,r2⟩:=h9 0 cells (i*sz+j) v rfl hv;rw[Nat.add_zero]at r1
   rw[r1];exact(Ie (qj.1 hd v (qb hv)) r2).mono (λ_ h=>.inl h) (λ_ _=>rfl)
 ·refine⟨rfl,rfl,rfl,Nat.le_refl _,Nat.le_refl _,λ_ _ _=>rfl,λi x B' hx hB'=>?_,λ_ h=>.inl h,λk hk=>?_,λi x _ hx=>Ml.set hen g1 g2 i x hx⟩
  ·by_cases hi:id=i
   ·subst hi;rw[qm hidm]at hx
    obtain rfl:=Option.some.inj hx;rw[hb']at hB';simp at hB'
   ·rw[qt hi]at hx
    exact .inr ⟨i,x,hx,hB'⟩
  ·rcases hk with hk | rfl
   ·exact .inl hk
   ·exact .inr (.inr ⟨id,en,hen,hB⟩)
end
end Go.Abs
