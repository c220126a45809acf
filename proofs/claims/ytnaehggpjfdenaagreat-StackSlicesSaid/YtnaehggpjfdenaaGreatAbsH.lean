/- Part of the library on which the proof stands: an abstract machine, its values and its soundness against the model; or what functions of the program do to such values. -/
import Derived.Test.YtnaehggpjfdenaaGreatAbsF
set_option linter.unusedVariables false
set_option linter.unusedSimpArgs false
namespace Go.Abs
open Go.RowKit
section
variable {P:Program} {J:Nat->Prop} {m:List Ent} {w:World} {h:List O}
theorem Us (hr:RS J h m w) (sz:Nat):RS J (h++[.arr 1 sz []]) (m++[⟨1,sz,none,0,0⟩]) w/\(∀n,Ev n J m w J (m++[⟨1,sz,none,0,0⟩]) w)/\Ml m (m++[⟨1,sz,none,0,0⟩]) :=
 ⟨RS.push hr _ _ (by simp) (λ_ _=>rfl) (Nat.le_refl _) ⟨rfl,rfl,by simp,rfl,rfl⟩,λn=>Ev.push _ (by simp) (λ_ _=>rfl) (Nat.le_refl _) rfl rfl rfl (Nat.le_refl _),Ml.app _ _⟩
theorem Xm (z:Array Value) (n:Nat):(Builtin.zeroCells z n).size=n*z.size:=by simp[Builtin.zeroCells]
theorem Kd (w:World) (need old:Nat) (e:TypeId) (h:need<=9223372036854775807):need<=grownCap w need old e/\grownCap w need old e<=maxLen :=
 ⟨grownCap_ge w need old e,grownCap_le_maxLen w need old e (by simp only[maxLen];omega)⟩
theorem Q0z {R:V->Value->Prop} {sz:Nat} {els:List (List V)} {vs:List Value} (hf:Flat R sz els vs) (z:Array Value) :
  ∀(i:Nat) (el:List V) (j:Nat) (x:V),els[i]?=some el->el[j]?=some x->∃cv,(vs.toArray++z)[i*sz+j]?=some cv/\R x cv:=by
 intro i el j x hi hj;obtain⟨cv,h1,h2⟩:=hf.2.2 i el j x hi hj;refine⟨cv,?_,h2⟩;have hlt:=(q8.1 h1).1;rw[jw (by simpa using hlt)];simpa using h1
theorem Jw {X:Value} {t t' ty:TypeId} {r:Result Value} {X2:Value} (h:(Builtin.append_ #[t,t'] ty #[X,X2]).run P w=r) :
  (do pure (.value (<- Builtin.append_ #[t,t'] ty #[X,X2])):Sem Next).run P w=r.andThen λv w'=>.ok (.value v) w':=by
 simp only[Sem.run_bind,h,Sem.run_pure]
theorem Qhf {t t' ty e e':TypeId} {i:TypeInfo} {z:Value} (ht:P.underlying t=some (.slice e)) (ht':P.underlying t'=some (.slice e')) (hi:P.info? e=some i) (hz:i.zero=some z) (hzs:z.cells.size=i.size)
  (hr:RS J h m w) {s:Value} (hs:RV J m w .nil s) {X:V} {x:Value} (hx:RV J m w X x) {els:List (List V)} (he:Zr i.size h X=some els)
  (hb:els.length*i.bytes<=140737488355328) (h63:els.length<=9223372036854775807) :
  Fine J m w (h++[.arr 1 i.size els]) (.own h.length 1 0 els.length) ((do pure (.value (<- Builtin.append_ #[t,t'] ty #[s,x])):Sem Next).run P w):=by
 obtain⟨b,cap,vs,rfl,h1,h2,h3,h4⟩:=J5 hr hx he;obtain⟨a,rfl⟩:∃a,s=.slice a 0 0:=by
  have:RD J w .nil s:=hs;cases this with
  | nil0=>exact⟨_,rfl⟩
  | nil1 a=>exact⟨_,rfl⟩
 by_cases hn:els.length=0
 ·have hel:els=[]:=ql hn;subst hel;simp only[List.length_nil];rw[Jw (E4 ht ht' hi a b 0 cap)];obtain⟨h5,h6,h7⟩:=Us hr i.size;refine⟨_,w,J,_,.inl rfl,⟨rfl,⟨1,i.size,none,0,0⟩,by rw[<- hr.len];exact Yr _ _,⟨Nat.le_refl _,Nat.le_refl _⟩,λ_=>⟨rfl,rfl,?_⟩⟩,h5,h6,h7⟩;cases a with
  | none=>exact .inl rfl
  | some a=>exact .inr ⟨a,rfl⟩
 ·have hrun:=En (P:=P) (w:=w) (ty:=ty) (c:=cap) ht ht' hi hz (a:=a) (b:=b) (sLen:=0) (sCap:=0) (n:=els.length) (olds:=[]) (news:=vs) (by simp) (λ_=>rfl) (by simp)
   h3.1 (λhb=>(h2 hb).1) h4 (by omega) (by omega) (growslice_fits (by omega) (by simpa using hb))
  simp only[Nat.zero_add]at hrun;rw[Jw hrun];obtain⟨hg1,hg2⟩:=Kd w els.length 0 e (by omega);generalize hgc:grownCap w els.length 0 e=gc at *
  generalize hrow:([]:List Value).toArray++vs.toArray++Builtin.zeroCells z.cells (gc-els.length)=row at *
  have hrs:row.size=gc*i.size:=by
   rw[<- hrow];simp only[Array.size_append,Xm,hzs,List.size_toArray,List.length_nil,h3.1,Nat.zero_add];rw[<- Nat.add_mul];congr 1;omega
  have:=I5 hr (sz:=i.size) (els:=els) (w':=w.drew.alloc (.cells row e)) (c:=row) (ty:=e) (fz:=(0,0)) (cap:=gc) h3.2.1
   rfl rfl rfl (by simp) (λk hk=>heap_alloc_old w.drew _ hk) (by simp) (heap_alloc_new w.drew _) hrs hg1 hg2 (by intro k _;simp)
   (by rw[<- hrow];simpa using Q0z h3 (Builtin.zeroCells z.cells (gc-els.length)))
  exact⟨_,_,J,_,.inl rfl,⟨rfl,⟨1,i.size,some w.heap.size,0,gc⟩,by rw[<- hr.len];exact Yr _ _,⟨Nat.le_refl _,Nat.le_refl _⟩,λ_=>⟨0,_,rfl,⟨by simpa using hg1,by simp⟩,by simp⟩⟩,this.1,this.2.1,this.2.2⟩
theorem Qhe {t t' ty e e':TypeId} {i:TypeInfo} {z:Value} (ht:P.underlying t=some (.slice e)) (ht':P.underlying t'=some (.slice e')) (hi:P.info? e=some i) (hz:i.zero=some z) (hzs:z.cells.size=i.size)
  (hr:RS J h m w) {id g off len:Nat} {s:Value} (hs:RV J m w (.own id g off len) s) {els:List (List V)} (ho:h[id]?=some (.arr g i.size els)) (hle:off+len<=els.length)
  {X:V} {x:Value} (hx:RV J m w X x) {news:List (List V)} (he:Zr i.size h X=some news)
  (hb:(len+news.length)*i.bytes<=140737488355328) (h63:len+news.length<=9223372036854775807) :
  Fine J m w (h.set id (.arr (g+1) i.size ((els.drop off).take len++news))) (.own id (g+1) 0 (len+news.length)) ((do pure (.value (<- Builtin.append_ #[t,t'] ty #[s,x])):Sem Next).run P w):=by
 obtain⟨b,cap,vs,rfl,h1,h2,h3,h4⟩:=J5 hr hx he;have he0:Zr i.size h (.own id g off len)=some ((els.drop off).take len):=by simp[Zr,ho,hle]
 have hlen:((els.drop off).take len).length=len:=by simp;omega
 obtain⟨a,scap,us,hsv,g1,g2,g3,g4⟩:=J5 hr hs he0;rw[hlen]at hsv g1 g2
 obtain⟨en,hen,hg,hsz,hsl,hobj⟩:=K2 hr hs ho;have hfl:=Flat.append g3 h3;have hidm:id<m.length:=(q8.1 hen).1;have hidh:id<h.length:=(q8.1 ho).1;have hgetn:∀x:Ent,(m.set id x)[id]?=some x:=λx=>qm hidm
 have hg1:1<=g:=by obtain⟨_,_,_,h3,_⟩:=hs;exact h3.1
 by_cases hroom:len+news.length<=scap
 ·by_cases h0:len+news.length=0
  ·-- nothing at all
   have hl0:len=0:=by omega
   have hn0:news=[]:=ql (by omega);subst hn0;subst hl0;subst hsv;simp only[List.length_nil,Nat.add_zero];rw[Jw (E4 ht ht' hi a b scap cap)]
   -- the block,if there is one,stays with the new object
   refine⟨_,w,J,m.set id ⟨g+1,i.size,en.blk,en.base+off,en.cap-off⟩,.inl rfl,⟨rfl,_,hgetn _,by simp,λ_=>?_⟩,?_,λn=>?_,?_⟩
   ·unfold Ent.sl at hsl ⊢;cases hb:en.blk with
    | none =>
      rw[hb]at hsl
      exact⟨rfl,rfl,by simpa using hsl.2.2⟩
    | some B =>
      rw[hb]at hsl
      obtain⟨o,cc,h5,h6,h7⟩:=hsl;refine⟨o,cc,?_,by simp;omega,λhlt=>?_⟩
      ·simpa using h5
      ·simp only[Nat.add_zero]at hlt ⊢;rw[h7 (by omega),hsz]
   ·refine RS.upd hr _ _ hen (by simp;omega) (by simp;omega) (λB hB=>⟨.inl hB,(hr.dis id en B hen hB).2⟩) (λ_ _ _=>rfl) (Nat.le_refl _) ?_;obtain⟨_,_,o3,o4⟩:=hobj;refine⟨rfl,rfl,by simp,?_⟩;simp only;cases hb:en.blk with
    | none=>rw[hb]at o4;exact⟨by simp,by have:=o4.2;omega⟩
    | some B =>
      rw[hb]at o4
      obtain⟨h5,h5',c,ty2,fz,h6,h7,h8,h9⟩:=o4;have hoc:off<=en.cap:=by
       unfold Ent.sl at hsl;rw[hb]at hsl
       obtain⟨_,_,_,h9,_⟩:=hsl;omega
      exact⟨by simp,by omega,c,ty2,fz,h6,by rw[h7];congr 1;omega,h8,by simp⟩
   ·exact Ev.upd _ hen (by simp;omega) (by simp;omega) (λB hB=>.inl hB) (λ_ _ _=>rfl) (Nat.le_refl _) rfl rfl rfl (Nat.le_refl _)
   ·exact Ml.set hen (by simp;omega) (by simp;omega)
  ·-- room in the block
   unfold Ent.sl at hsl;cases hb:en.blk with
   | none =>
     rw[hb]at hsl
     obtain⟨h5,h6,h7⟩:=hsl;exfalso;subst hsv;rcases h7 with h7 | ⟨_,h7⟩<;>simp at h7<;>omega
   | some B =>
     rw[hb]at hsl
     obtain⟨o,cc,h5,h6,h7⟩:=hsl;subst hsv;simp only[Value.slice.injEq]at h5;obtain⟨rfl,_,rfl⟩:=h5;obtain⟨_,_,o3,o4⟩:=hobj;rw[hb]at o4
     obtain⟨p1,p2,c,ty2,fz,p3,p4,p5,p6⟩:=o4;have ho':o=(en.base+off)*i.size:=by rw[h7 (by omega),hsz]
     subst ho';have hvl:vs.length=news.length*i.size:=h3.1;have hfit:(en.base+off)*i.size+len*i.size+vs.length<=c.size:=by
      rw[hvl,p4,<- Nat.add_mul,<- Nat.add_mul];exact j9 _ (by omega)
     have hone:∀v∈vs,v.oneCell'=true:=by
      intro v hv;obtain⟨q,hq⟩:=qq hv;have hql:=(q8.1 hq).1;rw[hvl]at hql
      have hszp:0<i.size:=by
       rcases Nat.eq_zero_or_pos i.size with h | h
       ·rw[h]at hql;simp at hql
       ·exact h
      have q1:q / i.size<news.length:=Nat.div_lt_of_lt_mul (by rw[Nat.mul_comm];exact hql);have q2:q % i.size<i.size:=Nat.mod_lt _ hszp;have q3:q / i.size*i.size+q % i.size=q:=by rw[Nat.mul_comm];exact Nat.div_add_mod q i.size
      have q4:=h3.2.1 _ _ (q9 q1);obtain⟨cv,q5,q6⟩:=h3.2.2 _ _ (q % i.size) _ (q9 q1) (q9 (by omega));rw[q3,hq]at q5
      rw[Option.some.inj q5];exact RC.one q6
     have hrun:=Q8z (P:=P) (w:=w) (ty:=ty) (c:=cap) ht ht' hi (sLen:=len) (sCap:=scap) (n:=news.length) (b:=b) hvl (λhb=>(h2 hb).1) h4 hroom p3 hfit hone p5;rw[Jw hrun];have hwB:B<w.heap.size:=(hr.dis id en B hen hb).2
     have hoth:∀k,k<w.heap.size->en.blk≠some k->(w.setRow B (c.toList.take ((en.base+off)*i.size+len*i.size)++vs++c.toList.drop ((en.base+off)*i.size+len*i.size+vs.length)).toArray).heap[k]?=w.heap[k]?:=λk _ hk=>setRow_other w B k _ (λhkb=>hk (by rw[hb,hkb]))
     have hJ:∀k,J k->(w.setRow B (c.toList.take ((en.base+off)*i.size+len*i.size)++vs++c.toList.drop ((en.base+off)*i.size+len*i.size+vs.length)).toArray).heap[k]?=w.heap[k]?:=λk hk=>hoth k (hr.jlt k hk) (λhkb=>(hr.dis id en k hen hkb).1 hk)
     have hsz2:w.heap.size<=(w.setRow B (c.toList.take ((en.base+off)*i.size+len*i.size)++vs++c.toList.drop ((en.base+off)*i.size+len*i.size+vs.length)).toArray).heap.size:=by simp[World.setRow]
     refine⟨_,_,J,m.set id ⟨g+1,i.size,some B,en.base+off,en.cap-off⟩,.inl rfl,⟨rfl,_,hgetn _,⟨by simp,Nat.le_refl _⟩,λ_=>⟨_,_,rfl,⟨by simpa using hroom,by simp;omega⟩,λ_=>by simp⟩⟩,?_,λn=>?_,?_⟩
     ·refine RS.upd hr _ _ hen (by simp;omega) (by simp;omega) (λB' hB'=>⟨.inl (by simpa using hb.trans hB'),?_⟩) hoth hsz2 ?_
      ·simp at hB';omega
      ·refine⟨rfl,rfl,hfl.2.1,?_⟩;simp only;refine⟨by rw[j7,hlen];omega,by omega,_,ty2,fz,setRow_heap w B c _ ty2 fz p3,?_,?_,?_⟩
       ·simp only[List.size_toArray,j7,qv,List.length_drop,Array.length_toList];rw[show en.base+off+(en.cap-off)=en.base+en.cap by omega,<- p4];omega
       ·intro k hk;apply p5;simp only[List.size_toArray,j7,qv,List.length_drop,Array.length_toList]at hk;omega
       ·intro k el j y hk hj;have hml:Ml m (m.set id ⟨g+1,i.size,some B,en.base+off,en.cap-off⟩):=Ml.set hen (by simp;omega) (by simp;omega);have hsp:=λq=>Yj (cs:=c.toList) (ys:=vs) (j:=(en.base+off)*i.size+len*i.size) (k:=q) (by simpa using hfit)
        have hel:=hfl.2.1 k el hk;have hjl:j<i.size:=by rw[<- hel];exact(q8.1 hj).1
        have hpos:(en.base+off+k)*i.size+j=(en.base+off)*i.size+(k*i.size+j):=by rw[Nat.add_mul];omega
        rw[List.getElem?_toArray,hsp];by_cases hkl:k<len
        ·have hkm:=j9 i.size (show k+1<=len from hkl);rw[Nat.add_mul,Nat.one_mul]at hkm
         rw[if_pos (by omega)];rw[qd (by omega),jf,if_pos hkl,jh]at hk
         obtain⟨cv,q1,q2⟩:=p6 _ el j y hk hj;refine⟨cv,?_,RC.mono (λ_ h=>h) hJ hml q2⟩;rw[Array.getElem?_toList,<- q1];congr 1;rw[<- Nat.add_assoc]
        ·have hk2:k<len+news.length:=by
          have:=(q8.1 hk).1;rw[j7,hlen]at this;exact this
         rw[qf (by omega),hlen]at hk
         obtain⟨cv,q1,q2⟩:=h3.2.2 _ el j y hk hj;have hkk:k*i.size=len*i.size+(k-len)*i.size:=by rw[<- Nat.add_mul];congr 1;omega
         have hql:=(q8.1 q1).1;rw[if_neg (by omega),if_pos (by omega)];refine⟨cv,?_,RC.mono (λ_ h=>h) hJ hml q2⟩;rw[<- q1];congr 1;omega
     ·exact Ev.upd _ hen (by simp;omega) (by simp;omega) (λB' hB'=>.inl (by simpa using hb.trans hB')) hoth hsz2 rfl rfl rfl (Nat.le_refl _)
     ·exact Ml.set hen (by simp;omega) (by simp;omega)
 ·-- a new block
  subst hsv;have hrun:=En (P:=P) (w:=w) (ty:=ty) (c:=cap) ht ht' hi hz (a:=a) (b:=b) (sLen:=len) (sCap:=scap) (n:=news.length) (olds:=us) (news:=vs) (by rw[g3.1,hlen]) (λha=>(g2 ha).1) g4
   h3.1 (λhb=>(h2 hb).1) h4 (by omega) (by omega) (growslice_fits (by omega) hb)
  rw[Jw hrun];obtain⟨hgc1,hg2⟩:=Kd w (len+news.length) scap e (by omega);generalize hgc:grownCap w (len+news.length) scap e=gc at *
  generalize hrow:us.toArray++vs.toArray++Builtin.zeroCells z.cells (gc-(len+news.length))=row at *
  have hrs:row.size=gc*i.size:=by
   rw[<- hrow];simp only[Array.size_append,Xm,hzs,List.size_toArray,g3.1,h3.1,hlen];rw[<- Nat.add_mul,<- Nat.add_mul];congr 1;omega
  have hold:∀k,k<w.heap.size->(w.drew.alloc (.cells row e)).heap[k]?=w.heap[k]?:=λk hk=>heap_alloc_old w.drew _ hk
  refine⟨_,_,J,m.set id ⟨g+1,i.size,some w.heap.size,0,gc⟩,.inl rfl,⟨rfl,_,hgetn _,⟨by simp,Nat.le_refl _⟩,λ_=>⟨0,_,rfl,⟨by simpa using hgc1,by simp⟩,by simp⟩⟩,?_,λn=>?_,?_⟩
  ·refine RS.upd hr _ _ hen (by simp;omega) (by simp;omega) (λB' hB'=>?_) (λk hk _=>hold k hk) (by simp) ?_
   ·simp at hB';simp;omega
   ·refine⟨rfl,rfl,hfl.2.1,?_⟩;simp only;refine⟨by rw[j7,hlen];exact hgc1,by omega,row,e,(0,0),heap_alloc_new w.drew _,by simpa using hrs,by intro k _;simp,λk el j y hk hj=>?_⟩;obtain⟨cv,q1,q2⟩:=Q0z hfl (Builtin.zeroCells z.cells (gc-(len+news.length))) k el j y hk hj;refine⟨cv,?_,RC.mono (λ_ h=>h) (λk hk=>hold k (hr.jlt k hk)) (Ml.set hen (by simp;omega) (by simp;omega)) q2⟩
    rw[<- hrow];simpa using q1
  ·exact Ev.upd _ hen (by simp;omega) (by simp;omega) (λB' hB'=>.inr (by simp at hB';omega)) (λk hk _=>hold k hk) (by simp) rfl rfl rfl (by simp)
  ·exact Ml.set hen (by simp;omega) (by simp;omega)
end
end Go.Abs
namespace Go.Abs
open Go.RowKit
section
variable {P:Program} {J:Nat->Prop} {m:List Ent} {w:World} {h:List O}
theorem Qyg {t e:TypeId} {i:TypeInfo} {z:Value} (ht:P.underlying t=some (.slice e)) (hi:P.info? e=some i) (hz:i.zero=some z) {zs:List V} (hzs:Pw (RC J m w) zs z.cells.toList) (hsz:zs.length=i.size)
  (hr:RS J h m w) {k:Int} {x:Value} (hx:RV J m w (.i .i64 k) x) (h0:0<=k) (hb:k*i.bytes<=140737488355328) (h63:k<=9223372036854775807) :
  Fine J m w (h++[.arr 1 i.size (List.replicate k.toNat zs)]) (.own h.length 1 0 k.toNat) ((do pure (.value (<- Instr.makeSlice t x x)):Sem Next).run P w):=by
 have:=Ze hx;subst this;have hrun:=run_make (P:=P) w t e i z ht hi hz .i64 .i64 k k h0 (Int.le_refl _) (by rw[Int.mul_comm];omega) h63;have hrun':(do pure (.value (<- Instr.makeSlice t (.int .i64 k) (.int .i64 k))):Sem Next).run P w=.ok (.value (.slice (some ⟨w.heap.size,0,none⟩) k.toNat k.toNat)) (w.alloc (.cells (madeCells z.cells (k.toNat*i.size)) e)):=by
  simp only[Sem.run_bind,hrun,Result.andThen_ok,Sem.run_pure]
 rw[hrun'];have hf:=Flat.replicate hzs hsz k.toNat;have hlen:(List.replicate k.toNat zs).length=k.toNat:=by simp
 have:=I5 hr (sz:=i.size) (els:=List.replicate k.toNat zs) (w':=w.alloc (.cells (madeCells z.cells (k.toNat*i.size)) e)) (c:=madeCells z.cells (k.toNat*i.size)) (ty:=e) (fz:=(0,0)) (cap:=k.toNat) hf.2.1
  rfl rfl rfl (by simp) (λk hk=>heap_alloc_old w _ hk) (by simp) (heap_alloc_new w _) (size_madeCells _ _) (by simp) (by simp only[maxLen];omega) (by intro k _;simp)
  (λa el b x h1 h2=>by
   obtain⟨cv,h3,h4⟩:=hf.2.2 a el b x h1 h2;exact⟨cv,by simpa using h3,h4⟩)
 exact⟨_,_,J,_,.inl rfl,⟨rfl,⟨1,i.size,some w.heap.size,0,k.toNat⟩,by rw[<- hr.len];exact Yr _ _,⟨Nat.le_refl _,Nat.le_refl _⟩,λ_=>⟨0,_,rfl,by simp,by simp⟩⟩,this.1,this.2.1,this.2.2⟩
theorem Qyf {S D e:TypeId} {d:TypeDesc} (hS:P.underlying S=some d) (hD:P.underlying D=some (.slice e)) (he:P.underlying e=some (.int .u8))
  (hr:RS J h m w) {l:List UInt8} {x:Value} (hx:RV J m w (.s l) x) (hl:l.length<=9223372036854775807) :
  Fine J m w (h++[.arr 1 1 (l.map Yv)]) (.own h.length 1 0 l.length) ((do pure (.value (<- convert S D x)):Sem Next).run P w):=by
 have:=Xo hx;subst this;obtain⟨hg1,hg2⟩:=Kd w l.length 0 e hl;generalize hgc:grownCap w l.length 0 e=gc at *
 have hgc':(Question.appendCap l.length 0 e).cut (w.tape w.drawn (Question.appendCap l.length 0 e))=gc:=hgc;generalize hrow:(List.map (λb:UInt8=>Value.int .u8 (b.toNat:Int)) l).toArray++Array.replicate (gc-l.length) (Value.int .u8 0)=row;have hrs:row.size=gc:=by rw[<- hrow];simp;omega
 have hrun:(do pure (.value (<- convert S D (.string ⟨l.toArray⟩))):Sem Next).run P w =
   .ok (.value (.slice (some ⟨w.heap.size,0,none⟩) l.length gc)) ((w.drew.alloc (.cells row e)).freeze ⟨w.heap.size,gc,none⟩ 1):=by
  have hsh:(w.drew.alloc (.cells row e)).shape? w.heap.size=some (e,gc):=by
   have:=heap_alloc_new w.drew (.cells row e);simp only[World.shape?];rw[show w.heap.size=w.drew.heap.size from rfl,this];simp[hrs]
  have hmap:Array.map (λb:UInt8=>Value.int .u8 (b.toNat:Int)) l.toArray=(List.map (λb:UInt8=>Value.int .u8 (b.toNat:Int)) l).toArray:=by simp
  have hcv:convert S D (.string ⟨l.toArray⟩)=(do
   let ds <- underlying S
   let dd <- underlying D
   match ds,dd,Value.string ⟨l.toArray⟩ with
   | _,.slice e,.string s =>
     match <- underlying e with
     | .int .u8=>Conv.stringToBytes e s
     | .int .i32=>Conv.stringToRunes e s
     | _=>stuck "Convert: string to a slice of what?"
   | _,_,_=>convert S D (.string ⟨l.toArray⟩))∨True:=.inr trivial
  have h1:(convert S D (.string ⟨l.toArray⟩)).run P w=(Conv.stringToBytes e ⟨l.toArray⟩).run P w:=by
   simp[convert,run_underlying hS,run_underlying hD,run_underlying he]
  have h2:(Conv.stringToBytes e ⟨l.toArray⟩).run P w=.ok (.slice (some ⟨w.heap.size,0,none⟩) l.length gc) ((w.drew.alloc (.cells row e)).freeze ⟨w.heap.size,gc,none⟩ 1):=by
   simp only[Conv.stringToBytes,Q1i,Sem.run_bind,run_choose_drew,Question.forced,Bool.false_eq_true,if_false,Result.andThen_ok,hgc',hmap,hrow,newRow,run_newObj_alloc,Sem.run_pure,markStringish,run_shape];rw[show w.drew.heap.size=w.heap.size from rfl,hsh];simp[Q1i]
  simp only[Sem.run_bind,h1,h2,Result.andThen_ok,Sem.run_pure]
 rw[hrun];have hfr:∀k,((w.drew.alloc (.cells row e)).freeze ⟨w.heap.size,gc,none⟩ 1).heap[k]?=if k=w.heap.size then some (.cells row e (gc,gc+1)) else (w.drew.alloc (.cells row e)).heap[k]?:=by
  intro k;simp only[World.freeze];rw[if_neg (by omega)];simp only[Array.getElem?_modify];by_cases hk:w.heap.size=k
  ·subst hk;rw[if_pos rfl,if_pos rfl];have:=heap_alloc_new w.drew (.cells row e);rw[show w.heap.size=w.drew.heap.size from rfl,this];simp
  ·rw[if_neg hk,if_neg (λh=>hk h.symm)]
 have:=I5 hr (sz:=1) (els:=l.map Yv) (w':=(w.drew.alloc (.cells row e)).freeze ⟨w.heap.size,gc,none⟩ 1) (c:=row) (ty:=e) (fz:=(gc,gc+1)) (cap:=gc)
  (by intro i el hi;simp only[qp,qa]at hi;obtain⟨b,_,rfl⟩:=hi;rfl)
  (by simp only[World.freeze];rw[if_neg (by omega)];rfl) (by simp only[World.freeze];rw[if_neg (by omega)];rfl) (by simp only[World.freeze];rw[if_neg (by omega)];rfl)
  (by simp[World.freeze]) (λk hk=>by rw[hfr,if_neg (by omega)];exact heap_alloc_old w.drew _ hk) (by simp only[World.freeze];rw[if_neg (by omega)];simp) (by rw[hfr,if_pos rfl]) (by omega) (by simpa using hg1) hg2 (by intro k hk h;simp at h;omega)
  (by
   intro i el j x hi hj;simp only[qp,qa]at hi;obtain⟨b,hb,rfl⟩:=hi;have hil:=(q8.1 hb).1;cases j with
   | succ j=>simp[Yv]at hj
   | zero =>
     simp[Yv]at hj
     subst hj;refine⟨.int .u8 b.toNat,?_,Qv (.i _ _)⟩;rw[<- hrow,Nat.mul_one,Nat.add_zero,jw (by simpa using hil)];simp[hb])
 exact⟨_,_,J,_,.inl rfl,⟨rfl,⟨1,1,some w.heap.size,0,gc⟩,by rw[<- hr.len];exact Yr _ _,⟨Nat.le_refl _,Nat.le_refl _⟩,λ_=>⟨0,_,rfl,⟨by simpa using hg1,by simp⟩,by simp⟩⟩,this.1,this.2.1,this.2.2⟩
theorem Qhr {els:List (List V)} {l:List UInt8} (hb:Kf els=some l):∃ns:List Int,els=ns.map (λn=>[V.i .u8 n])/\l=ns.map λn=>UInt8.ofNat n.toNat:=by
 induction els generalizing l with
 | nil=>simp[Kf]at hb;subst hb;exact⟨[],rfl,rfl⟩
 | cons el els ih =>
   unfold Kf at hb;split at hb
   ·rename_i heq;simp at heq
   ·rename_i n r heq;simp only[List.cons.injEq]at heq;obtain⟨rfl,rfl⟩:=heq;simp only[qa]at hb;obtain⟨l',h1,rfl⟩:=hb;obtain⟨ns,rfl,rfl⟩:=ih h1;exact⟨n::ns,rfl,rfl⟩
   ·simp at hb
theorem Qyt {S D e:TypeId} (hS:P.underlying S=some (.slice e)) (hD:P.underlying D=some .string) (he:P.underlying e=some (.int .u8))
  (hr:RS J h m w) {X:V} {x:Value} (hx:RV J m w X x) {els:List (List V)} (hels:Zr 1 h X=some els) {l:List UInt8} (hb:Kf els=some l) :
  Fine J m w h (.s l) ((do pure (.value (<- convert S D x)):Sem Next).run P w):=by
 obtain⟨a,cap,vs,rfl,h1,h2,h3,h4⟩:=J5 hr hx hels;obtain⟨ns,hns,hl⟩:=Qhr hb;have hlen:els.length=ns.length:=by rw[hns];simp
 have hconv:(convert S D (.slice a els.length cap)).run P w=.ok (.string ⟨l.toArray⟩) w:=by
  rw[run_convert_bytes_string w S D e a els.length cap hS he hD];cases a with
  | none =>
    obtain⟨h5,_⟩:=h2 rfl;have:ns=[]:=ql (by omega);subst this;subst hl;simp[Conv.bytesToString]
    rfl
  | some a =>
    have hvs:vs=ns.map (Value.int .u8):=by
     apply qy;intro i;by_cases hi:i<ns.length
     ·obtain⟨cv,h5,h6⟩:=h3.2.2 i [.i .u8 ns[i]] 0 (.i .u8 ns[i]) (by rw[hns];simp[hi]) rfl;rw[Nat.mul_one,Nat.add_zero]at h5
      have h7:RD J w (.i .u8 ns[i]) cv:=h6;cases h7;rw[h5];simp[hi]
     ·rw[qk (by rw[h3.1];omega),qk (by simp;omega)]
    have hload:=run_loadCells_list (P:=P) w a vs (h4 a rfl);rw[show vs.length=els.length by rw[h3.1];omega,hvs]at hload
    rw[run_bytesToString w a els.length cap ns hload,foldl_push_bytes,hl];simp[ByteArray.empty,ByteArray.emptyWithCapacity]
    rfl
 have hrun:(do pure (.value (<- convert S D (.slice a els.length cap))):Sem Next).run P w=.ok (.value (.string ⟨l.toArray⟩)) w:=by
  simp only[Sem.run_bind,hconv,Result.andThen_ok,Sem.run_pure]
 rw[hrun];exact Fine.pure hr (rv_s l)
theorem Qei (off:Nat):∀(vs:List Value) (k:Nat) (cs:Array Value),off+k+vs.length<=cs.size ->
  ((vs.zipIdx k).foldl (λcs (c,j)=>cs.setIfInBounds (off+j) c) cs).toList=cs.toList.take (off+k)++vs++cs.toList.drop (off+k+vs.length)
 | [],k,cs,_=>by simp
 | v::rest,k,cs,hl=>by
   simp only[List.zipIdx_cons,List.foldl_cons];rw[Qei off rest (k+1) _ (by simp at hl ⊢;omega)];have e:=list_seg_step cs.toList (off+k) v rest (by simp at hl ⊢;omega);simpa[Array.toList_setIfInBounds,Nat.add_assoc]using e
theorem Qeh {place:Nat->Option (Nat × Nat)} {cells:Array Value} {i:Nat} {v:Value} {rest:List (Nat × Value)} {off sz:Nat} (hp:place i=some (off,sz)) (hv:v.cells.size=sz) (hl:off+sz<=cells.size) :
  ∃cells',cells'.toList=cells.toList.take off++v.cells.toList++cells.toList.drop (off+sz)/\Instr.fill place cells ((i,v)::rest)=Instr.fill place cells' rest:=by
 refine⟨(v.cells.toList.zipIdx.foldl (λcs (c,j)=>cs.setIfInBounds (off+j) c) cells),?_,?_⟩
 ·have:=Qei off v.cells.toList 0 cells (by simp;omega);rw[this];simp[hv]
 ·have h1:¬ (v.cells.size≠sz):=by simp[hv]
  have h2:¬ (off+v.cells.size > cells.size):=by omega
  simp only[Instr.fill,hp];simp only[hv,ne_eq,not_true,decide_false,Bool.false_or,decide_eq_true_eq];rw[if_neg (by omega)];congr 1;rw[<- Array.foldl_toList];simp
theorem Qhg {place:Nat->Option (Nat × Nat)}:∀(ps:List (Nat × Nat × V)) (qs:List (Nat × Value)) (zero:List V) (cells:Array Value) (cs:List V),
  ps.length=qs.length->(∀(k:Nat) o s X i v,ps[k]?=some (o,s,X)->qs[k]?=some (i,v)->place i=some (o,s)/\RV J m w X v)->Pw (RC J m w) zero cells.toList->Q06 zero ps=some cs ->
  ∃cells',Instr.fill place cells qs=some cells'/\Pw (RC J m w) cs cells'.toList
 | [],[],zero,cells,cs,_,_,hz,hf=>by
   simp[Q06]at hf;subst hf
   exact⟨cells,rfl,hz⟩
 | [],_::_,_,_,_,hl,_,_,_=>by simp at hl
 | _::_,[],_,_,_,hl,_,_,_=>by simp at hl
 | (o,s,X)::ps,(i,v)::qs,zero,cells,cs,hl,hk,hz,hf=>by
   simp only[Q06,ja]at hf;obtain⟨⟨h1,h2,h3⟩,h4⟩:=hf;obtain⟨h5,h6⟩:=hk 0 o s X i v rfl rfl;have hc:=I9 h6 h3;have hvs:v.cells.size=s:=by have:=hc.1;simp at this;omega
   have hzl:zero.length=cells.size:=by simpa using hz.1
   obtain⟨cells',h7,h8⟩:=Qeh (cells:=cells) (rest:=qs) h5 hvs (by omega);rw[h8];refine Qhg ps qs (K0 zero o X.cells) cells' cs (by simpa using hl) (λk o' s' X' i' v' a b=>hk (k+1) o' s' X' i' v' (by simpa using a) (by simpa using b)) ?_ h4;rw[h7];unfold K0;rw[h1];exact Pw.append (Pw.append (hz.take o) hc) (hz.drop _)
theorem Qhb {T:TypeId} {fs:Array Field} (hT:P.underlying T=some (.struct fs)) {zero:List V} (hz:zc P T=some zero) (hfs:∀f∈fs.toList,(P.info? f.type).isSome=true)
  (hr:RS J h m w) {ps:List (Nat × Nat × V)} {qs:Array (Nat × Value)} (hl:ps.length=qs.toList.length)
  (hk:∀(k:Nat) o s X i v,ps[k]?=some (o,s,X)->qs.toList[k]?=some (i,v)->(∃f,fs[i]?=some f/\o=f.offset/\(P.info? f.type).map (·.size)=some s)/\RV J m w X v) {cs:List V} (hf:Q06 zero ps=some cs) :
  Fine J m w h (.a cs) ((do pure (.value (<- Instr.build T qs)):Sem Next).run P w):=by
 obtain⟨z,hz1,hz2⟩:=Qu2 hz;have hpl:∀w,(fs.mapM λf=>do pure (f.offset,<- sizeOf f.type):Sem (Array (Nat × Nat))).run P w=.ok (fs.map λf=>(f.offset,((P.info? f.type).map (·.size)).getD 0)) w:=by
  intro w;have hlist:∀(l:List Field),(∀f∈l,(P.info? f.type).isSome=true)->(l.mapM λf=>do pure (f.offset,<- sizeOf f.type):Sem (List (Nat × Nat))).run P w=.ok (l.map λf=>(f.offset,((P.info? f.type).map (·.size)).getD 0)) w:=by
   intro l
   induction l with
   | nil=>intro _;simp
   | cons f l ih =>
     intro hl;obtain⟨i,hi⟩:=Option.isSome_iff_exists.1 (hl f (by simp));simp only[List.mapM_cons,Sem.run_bind,Qr (show (P.info? f.type).map (·.size)=some i.size by rw[hi];rfl),Result.andThen_ok,Sem.run_pure,ih (λf hf=>hl f (by simp[hf]))];simp[hi]
  rw[Array.mapM_eq_mapM_toList,Sem.run_map,hlist fs.toList hfs];simp only[Result.andThen_ok];congr 1;apply Array.ext';simp
 obtain⟨cells',h1,h2⟩:=Qhg (J:=J) (m:=m) (w:=w) (place:=λi=>(fs.map λf=>(f.offset,((P.info? f.type).map (·.size)).getD 0))[i]?) ps qs.toList zero z.cells cs hl (λk o s X i v a b=>by
  obtain⟨⟨f,h3,h4,h5⟩,h6⟩:=hk k o s X i v a b;refine⟨?_,h6⟩;simp only[Array.getElem?_map,h3,Option.map_some,h4,h5,Option.getD_some]) (hz2 J m w) hf
 have hrun:(do pure (.value (<- Instr.build T qs)):Sem Next).run P w=.ok (.value (.agg cells')) w:=by
  simp only[Instr.build,Sem.run_bind,hz1,Result.andThen_ok,run_underlying hT,hpl,h1,Sem.run_pure]
 rw[hrun];exact Fine.pure hr ⟨cells',rfl,h2⟩
theorem Qhc {T e:TypeId} {n sz:Nat} (hT:P.underlying T=some (.array n e)) {zero:List V} (hz:zc P T=some zero) (he:(P.info? e).map (·.size)=some sz)
  (hr:RS J h m w) {ps:List (Nat × Nat × V)} {qs:Array (Nat × Value)} (hl:ps.length=qs.toList.length)
  (hk:∀(k:Nat) o s X i v,ps[k]?=some (o,s,X)->qs.toList[k]?=some (i,v)->(o=i*sz/\s=sz)/\RV J m w X v) {cs:List V} (hf:Q06 zero ps=some cs) :
  Fine J m w h (.a cs) ((do pure (.value (<- Instr.build T qs)):Sem Next).run P w):=by
 obtain⟨z,hz1,hz2⟩:=Qu2 hz;obtain⟨cells',h1,h2⟩:=Qhg (J:=J) (m:=m) (w:=w) (place:=λi=>some (i*sz,sz)) ps qs.toList zero z.cells cs hl (λk o s X i v a b=>by
  obtain⟨⟨h3,h4⟩,h6⟩:=hk k o s X i v a b;exact⟨by rw[h3,h4],h6⟩) (hz2 J m w) hf
 have hrun:(do pure (.value (<- Instr.build T qs)):Sem Next).run P w=.ok (.value (.agg cells')) w:=by
  simp only[Instr.build,Sem.run_bind,hz1,Result.andThen_ok,run_underlying hT,Qr he,h1,Sem.run_pure]
 rw[hrun];exact Fine.pure hr ⟨cells',rfl,h2⟩
end
end Go.Abs
