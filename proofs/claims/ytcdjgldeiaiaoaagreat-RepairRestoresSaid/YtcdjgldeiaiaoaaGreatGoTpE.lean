/- Part of the library on which the proof stands: an abstract machine, its values and its soundness against the model; or what functions of the program do to such values. -/
import Derived.Test.YtcdjgldeiaiaoaaGreatGoHeap
set_option linter.unusedVariables false
set_option linter.unusedSimpArgs false
set_option maxHeartbeats 4000000
namespace Go.Abs
open Go.Sort
instance:Inhabited P2:=⟨⟨0,0⟩⟩
def P2.rev (e:P2):P2:=⟨e.y,e.x⟩
def P2.und (e:P2):P2:=⟨min e.x e.y,max e.x e.y⟩
def P2.ints (e:P2):List Int:=[e.x,e.y]
def Qt (m:Mesh):List (P2 × Int):=if m.check=0 then Yf (Qa m.tris) else []
def Iu (P:Program) (f:FuncId):Prop:=∀m:Mesh,NewC P f [m.enc] (λr h=>r=.mp 1/\h=[.dead,.mp ((Qt m).map asV)])
def RevC (P:Program) (f:FuncId):Prop:=∀e:P2,CallIs P f [e.enc] e.rev.enc
def Qgg (P:Program) (f:FuncId):Prop:=∀e:P2,CallIs P f [e.enc] e.und.enc
def OrC (P:Program) (f:FuncId):Prop:=∀x y:Int,CallIs P f [.l 1 [[.i .i64 x],[.i .i64 y]]] (.i .i64 (if x≠0 then x else y))
def Qfq (a b:P2):Int:=if Qbq a.x b.x≠0 then Qbq a.x b.x else Qbq a.y b.y
def Qc8 (P:Program) (f:FuncId):Prop:=∀a b:P2,CallIs P f [a.enc,b.enc] (.i .i64 (Qfq a b))
theorem ltE (a b:P2):ltC Qfq a b=decide (P2.lt a b):=by
 unfold ltC Qfq Qbq P2.lt
 by_cases h1:a.x<b.x
 ·simp[h1]
 ·by_cases h2:b.x<a.x
  ·simp[h1,h2];omega
  ·have h3:a.x=b.x:=by omega
   by_cases h4:a.y<b.y
   ·simp[h3,h4]
   ·by_cases h5:b.y<a.y<;>simp[h3,h4,h5]
theorem swoE:SWO (ltC Qfq) where
 irrefl x:=by rw[ltE];simp[P2.lt]
 trans x y z h1 h2:=by
  rw[ltE,decide_eq_true_eq]at *
  exact P2.lt_trans h1 h2
 ntrans x y z h1 h2:=by
  rw[ltE,decide_eq_false_iff_not]at *
  unfold P2.lt at *;omega
section
variable {P:Program} (hm:P.follows .mixedOrders=true)
include hm
theorem Q3q {f:FuncId} (hf:Qb P f L1e.c L1e.r L1e.n):Km P f:=Kr hm hf
theorem Q0b {f:FuncId} (hf:Qb P f L1g.c L1g.r L1g.n):RevC P f:=by
 intro e
 refine PureC.is (Q9 hm hf (qh rfl) ?_) rfl
 unfold L1g.c
 simp[go_sem,P2.enc,P2.cs,L1g.r,P2.rev]
theorem J4 {f:FuncId} (hf:Qb P f L1h.c L1h.r L1h.n):Qgg P f:=by
 intro e
 refine PureC.is (Q9 hm hf (qh rfl) ?_) rfl
 unfold L1h.c
 simp[go_sem,P2.enc,P2.cs,L1h.r,P2.und,W8,Q2l]
theorem Or_ok {f:FuncId} (hf:Qb P f L01.c L01.r L01.n):OrC P f:=by
 intro x y
 refine PureC.is (Q9 hm hf (qh rfl) ?_) rfl
 unfold L01.c
 simp[go_sem]
 refine Ql (α:=Nat) (λk=>k<=2/\(1<=k->x=0)/\(2<=k->y=0))
  (λk=>⟨[(3,.i .i64 0),(6,.l 1 [[.i .i64 x],[.i .i64 y]]),(7,.i .i64 2),(8,.i .i64 k)],[]⟩)
  (λk=>2-k) 0 ⟨by omega,by omega,by omega⟩ ?_ ?_
 ·simp[go_sem]
 ·rintro k ⟨hk,h1,h2⟩
  have w1:IntKind.i64.wrap 1=1:=rfl
  have w2:IntKind.i64.wrap 2=2:=rfl
  have:k=0∨k=1∨k=2:=by omega
  rcases this with rfl | rfl | rfl
  ·by_cases hx:x=0
   ·simp[go_sem,hx,w1]
    exact⟨1,⟨by omega,λh=>by omega⟩,by omega,rfl⟩
   ·simp[go_sem,hx,L01.r]
  ·have hx:=h1 (by omega)
   by_cases hy:y=0
   ·simp[go_sem,hx,hy,w2]
    exact⟨2,by omega,by omega,rfl⟩
   ·simp[go_sem,hx,hy,L01.r]
  ·have hx:=h1 (by omega)
   have hy:=h2 (by omega)
   simp[go_sem,hx,hy,L01.r]
theorem Q3p {f fc fo:FuncId} (hf:Qb P f (L1f.c fc fo) L1f.r L1f.n) (hc:CmpC P fc) (ho:OrC P fo):Qc8 P f:=by
 intro a b
 refine PureC.is (Q9 hm hf (qh rfl) ?_) rfl
 unfold L1f.c
 simp[go_sem,P2.enc,P2.cs]
 refine Qp (hc a.x b.x) ?_
 simp[go_sem]
 refine Qp (hc a.y b.y) ?_
 simp[go_sem]
 refine Qp (ho _ _) ?_
 simp[go_sem,L1f.r,Qfq]
theorem Q0c {f fc fe:FuncId} (hf:Qb P f (L1d.c fc fe) L1d.r L1d.n) (hc:Y3 P fc) (he:Km P fe):Iu P f:=by
 intro m
 refine Qi3 hm hf (qh rfl) ?_
 unfold L1d.c
 simp[go_sem,Mesh.enc,Mesh.cs]
 refine Q6 (hc m) ?_
 by_cases hz:m.check=0
 case neg =>
  have hT:Qt m=[]:=by simp[Qt,hz]
  simp[go_sem,hz,L1d.r,hT]
 have hl:=(Mesh.check_zero.1 hz).2.1
 simp[go_sem,hz,tsV]
 refine Ql (α:=Nat) (λk=>k<=m.tris.length)
  (λk=>⟨[(3,.mp 1),(14,tsV m.tris),(15,.i .i64 m.tris.length),(16,.i .i64 k)],[.dead,.mp ((Yf (Qa (m.tris.take k))).map asV)]⟩)
  (λk=>m.tris.length-k) 0 (by omega) ?_ ?_
 ·simp[go_sem,tsV,Qa,Yf]
 ·intro k hk
  by_cases hkl:k=m.tris.length
  ·subst hkl
   rw[qi]
   have hT:Qt m=Yf (Qa m.tris):=by simp[Qt,hz]
   simp[go_sem,tsV,L1d.r,hT]
   exact Zi _ 2
  ·have hlt:k<m.tris.length:=by omega
   have hp:m.tris[k]?=some m.tris[k]:=q9 hlt
   generalize m.tris[k]=t at hp
   obtain⟨_,hp'⟩:=q8.1 hp
   simp[go_sem,tsV,hlt,hp',tcs]
   refine Q6 (he t) ?_
   have hlen:(Q5 t).length<=3:=Y2 t 3
   have hE:=Wo m.tris k
   generalize hA:Qa (m.tris.take k)=A0
   simp[go_sem,psV]
   refine Ql (α:=Nat) (λj=>j<=(Q5 t).length)
    (λj=>⟨[(3,.mp 1),(14,tsV m.tris),(15,.i .i64 m.tris.length),(16,.i .i64 k),(21,psV (Q5 t)),(22,.i .i64 (Q5 t).length),(23,.i .i64 j)],[.dead,.mp ((Yf (A0++(Q5 t).take j)).map asV)]⟩)
    (λj=>(Q5 t).length-j) 0 (by omega) ?_ ?_
   ·simp[go_sem,tsV,psV]
    exact Zi _ 2
   ·intro j hj
    by_cases hjl:j=(Q5 t).length
    ·subst hjl
     simp (disch:=omega) [go_sem,tsV,psV,Q3]
     exact⟨k+1,by omega,by omega,by omega,by rw[X6 hp,hA],Zi _ 2⟩
    ·have hjlt:j<(Q5 t).length:=by omega
     have hq:(Q5 t)[j]?=some (Q5 t)[j]:=q9 hjlt
     have htk:(Q5 t).take (j+1)=(Q5 t).take j++[(Q5 t)[j]]:=by rw[List.take_add_one,hq];rfl
     generalize (Q5 t)[j]=e at hq htk
     obtain⟨_,hq'⟩:=q8.1 hq
     have hS1:A0++(Q5 t).take (j+1)=(A0++(Q5 t).take j)++[e]:=by rw[htk,<- j2]
     generalize hS:A0++(Q5 t).take j=S at hS1
     have hT1:=Ka S e
     rw[<- hS1]at hT1
     generalize hL:Yf S=L at hT1
     have h1:=Yu e L
     unfold Q9o at hT1
     cases hfn:fnd e L with
     | some p =>
       obtain⟨i,n⟩:=p
       rw[hfn]at h1 hT1
       simp only[Option.map_some]at h1
       simp only at hT1
       have hn:n=S.count e:=by
        have:=Iz S e
        rw[hL,val,hfn]at this
        exact this
       have hcl:S.count e<=S.length:=List.count_le_length
       have hSl:S.length<=3*4096:=by
        rw[<- hS,<- hA,j3,qw];omega
       have h3:fnd e (L.set i (e,n+1))=some (i,n+1):=(Kg (n':=n+1) hfn).2
       have hil:i<L.length:=(q8.1 (Kg (n':=n+1) hfn).1).1
       have hil':i<(List.map asV L).length:=by simpa using hil
       have wn:IntKind.i64.wrap (n+1)=n+1:=Q3 (by omega) (by omega)
       simp[go_sem,psV,hjlt,hq',pcs,h1,wn,qn hil',List.set_set]
       refine⟨j+1,by omega,by omega,⟨.inr rfl,Q3 (by omega) (by omega)⟩,?_,Zi _ 2⟩
       rw[hT1,List.map_set];rfl
     | none =>
       rw[hfn]at h1 hT1
       simp only[Option.map_none]at h1
       have w1:IntKind.i64.wrap 1=1:=rfl
       simp only at hT1
       simp[go_sem,psV,hjlt,hq',pcs,h1,w1]
       refine⟨j+1,by omega,by omega,⟨.inr rfl,Q3 (by omega) (by omega)⟩,?_,Zi _ 2⟩
       rw[hT1,qx];rfl
end
end Go.Abs
namespace Go.Abs
open Go.Sort
def bordE (E:List P2) (e:P2):Bool:=decide (E.count e.rev<E.count e)
def border (E:List P2):List P2:=Q3d (E.filter (bordE E))
def Mesh.border (m:Mesh):List P2:=if m.check=0 then Go.Abs.border (Qa m.tris) else []
def Mesh.closed (m:Mesh):Bool:=decide (m.check=0) && decide (m.border=[])
def U5 (P:Program) (f:FuncId):Prop:=∀m:Mesh,CallIs P f [m.enc] (psV m.border)
def Q12 (P:Program) (f:FuncId):Prop:=∀m:Mesh,CallIs P f [m.enc] (.b m.closed)
def Mesh.use (m:Mesh) (e:P2):Int:=if m.check=0 then (Qa m.tris).count e else 0
theorem Qhk (L:List (P2 × Int)) (n:Nat):(O.mp (L.map asV)).sh n=.mp (L.map asV):=by
 simp[O.sh,asV,V.sh2,V.sh1,V.sh0]
theorem Q1b (m:Mesh) (e:P2):val e (Qt m)=m.use e:=by
 unfold Qt Mesh.use
 split
 ·exact Iz _ _
 ·rfl
theorem Q1k {m:Mesh} {i:Nat} {e:P2} {n:Int} (h:(Qt m)[i]?=some (e,n)):m.check=0/\e∈Qa m.tris/\n=m.use e:=by
 unfold Qt at h
 split at h
 ·rename_i hz
  have:=Q4j h
  exact⟨hz,this.1,by simp[Mesh.use,hz,this.2]⟩
 ·simp at h
theorem Q4k {m:Mesh} {e:P2} (hz:m.check=0) (h:e∈Qa m.tris):∃i:Nat,(Qt m)[i]?=some (e,m.use e):=by
 unfold Qt Mesh.use
 rw[if_pos hz,if_pos hz]
 exact Qh0 h
theorem Em (m:Mesh):((Qt m).map Prod.fst).Nodup:=by
 unfold Qt
 split
 ·exact(Kb _).1
 ·simp
theorem Q1j (m:Mesh):(Qt m).length<=12288:=by
 unfold Qt
 split
 ·rename_i hz
  have h1:=(Kb (Qa m.tris)).2
  have h3:=Wo m.tris m.tris.length
  rw[qi]at h3
  have h4:=(Mesh.check_zero.1 hz).2.1
  have h5:∀E:List P2,(Yf E).length<=E.length:=by
   refine Wv (by simp[Yf]) λE x ih=>?_
   rw[Ka]
   unfold Q9o
   split<;>simp<;>omega
  have:=h5 (Qa m.tris)
  omega
 ·simp
theorem mem_border {m:Mesh} {e:P2}:e∈m.border↔m.check=0/\e∈Qa m.tris/\m.use e.rev<m.use e:=by
 unfold Mesh.border Mesh.use
 by_cases hz:m.check=0
 ·simp only[if_pos hz]
  unfold Go.Abs.border bordE
  rw[Bg,qv]
  simp[hz]
 ·simp[hz]
theorem Xj (m:Mesh):asc m.border:=by
 unfold Mesh.border
 split
 ·exact Br _
 ·simp[asc]
theorem Qer {L:List (P2 × Int)} (h:(L.map Prod.fst).Nodup) {i j:Nat} {e:P2} {n n':Int} (hi:L[i]?=some (e,n)) (hj:L[j]?=some (e,n')):i=j:=by
 have h1:=Je h hi
 have h2:=Je h hj
 rw[h1]at h2
 simp at h2;exact h2.1
def BInv (m:Mesh) (p:List Nat × List P2):Prop:=p.2.Nodup/\p.2.length<=p.1.length/\p.1.length<=(Qt m).length-left (Qt m).length p.1/\(∀i∈p.1,i<(Qt m).length)/\∀x,x∈p.2↔∃i∈p.1,∃n,(Qt m)[i]?=some (x,n)/\m.use x.rev<m.use x
section
variable {P:Program} (hm:P.follows .mixedOrders=true)
include hm
theorem B0 {f fc fr fs fo:FuncId} (hf:Qb P f (L19.c fc fr fs fo) L19.r L19.n) (hc:Iu P fc) (hr:RevC P fr) (hs:Q9q P fs 2) (ho:Qc8 P fo) (hcal:Zf P fo=true):U5 P f:=by
 intro m
 refine PureC.is (Q9 hm hf (qh rfl) ?_) rfl
 unfold L19.c
 have hLl:=Q1j m
 simp[go_sem,Mesh.enc,Mesh.cs]
 refine K7 (hc m) rfl ?_
 simp only[List.map_cons,List.map_nil,Qhk]
 simp[go_sem]
 refine Zv [.t 4 2] (α:=List Nat × List P2) (BInv m)
  (λp=>⟨[(3,.mp 2),(4,.own 4 (p.2.length+1) 0 p.2.length),(10,.p 3 1 0 0)],[.dead,.dead,.mp ((Qt m).map asV),.it (some 2) (Qt m).length p.1,.arr (p.2.length+1) 2 (p.2.map P2.cs)]⟩)
  (λp=>left (Qt m).length p.1) ([],[]) ⟨by simp,by simp,by simp[left],by simp,by simp⟩ ?_ ?_
 ·simp[go_sem]
  exact Zi _ 5
 ·rintro⟨seen,out⟩ ⟨hnd,hol,hsl,hsr,hmem⟩
  simp only at hnd hol hsl hsr hmem
  simp[go_sem,Mnx]
  refine⟨λhall=>?_,?_⟩
  ·obtain⟨ys,hperm,hup,hcall⟩:=hs P2.ints (λ_=>rfl) Qfq swoE fo hcal (λa b=>ho a b) out (by omega)
   have hys:ys=m.border:=by
    rw[Q9m hperm hnd (hup.imp (by intro a b h;rw[ltE]at h;simpa using h))]
    refine Q79 (Br _) (Xj m) λx=>?_
    rw[Bg,hmem,mem_border]
    constructor
    ·rintro⟨i,_,n,h1,h2⟩
     have:=Q1k h1
     exact⟨this.1,this.2.1,h2⟩
    ·rintro⟨h1,h2,h3⟩
     obtain⟨i,hi⟩:=Q4k h1 h2
     exact⟨i,hall i (q8.1 hi).1,_,hi,h3⟩
   refine K6 (hcall _ 4 _ rfl) ?_
   subst hys
   have hl2:m.border.length=out.length:=hperm.length_eq
   have hy2:m.border.map (λx=>x.ints.map (V.i .i64))=m.border.map P2.cs:=rfl
   rw[hy2]
   have ht:List.take out.length (m.border.map P2.cs)=m.border.map P2.cs:=qe (by simp[hl2])
   simp[go_sem,L19.r,psV,Qhw,hl2,ht]
  ·rintro i a b e n hi hab hni
   simp only[asV,Prod.mk.injEq]at hab
   obtain⟨rfl,rfl⟩:=hab
   have hil:i<(Qt m).length:=(q8.1 hi).1
   have hg:=Q1k hi
   simp[go_sem,hi,asV]
   refine Q6 (hr e) ?_
   have h1:Qh [1,1] (V.a [V.i .i64 e.y,V.i .i64 e.x]) ((Qt m).map asV)=_:=Yu e.rev (Qt m)
   have hv:=Q1b m e.rev
   have hleft:=left_lt hil hni
   have hleft2:left (Qt m).length seen<=(Qt m).length:=by
    unfold left
    have:=j8 (λi=>!seen.contains i) (List.range (Qt m).length)
    simpa using this
   have hinv:∀out':List P2,(out'.Nodup/\out'.length<=seen.length+1/\∀x,x∈out'↔x∈out∨(x=e/\m.use e.rev<m.use e)) ->
     BInv m (seen++[i],out'):=by
    rintro out' ⟨q1,q2,q3⟩
    refine⟨q1,by simpa using q2,by simp only[j3,List.length_cons,List.length_nil];omega,λj hj=>?_,λx=>?_⟩
    ·rcases qg.1 hj with h | h
     ·exact hsr j h
     ·simp at h;omega
    ·rw[q3,hmem]
     constructor
     ·rintro (⟨j,h1,n',h2,h3⟩ | ⟨rfl,h3⟩)
      ·exact⟨j,by simp[h1],n',h2,h3⟩
      ·exact⟨i,by simp,n,hi,h3⟩
     ·rintro⟨j,h1,n',h2,h3⟩
      rcases qg.1 h1 with h | h
      ·exact .inl ⟨j,h,n',h2,h3⟩
      ·simp at h
       subst h
       rw[hi]at h2
       simp at h2
       obtain⟨rfl,rfl⟩:=h2
       exact .inr ⟨rfl,h3⟩
   have hein:e∉out:=by
    rw[hmem]
    rintro⟨j,h1,n',h2,_⟩
    have:=Qer (Em m) hi h2
    subst this
    exact hni h1
   have hn:=hg.2.2
   have hi1:=hinv (out++[e])
   have hi2:=hinv out
   cases hfn:fnd e.rev (Qt m) with
   | none =>
     rw[hfn]at h1
     rw[val,hfn]at hv
     simp only at hv
     simp only[Option.map_none]at h1
     by_cases hlt:0<n
     ·simp (disch:=omega) [go_sem,h1,P2.rev,P2.enc,P2.cs,hlt]
      refine⟨by omega,seen++[i],out++[e],hi1 ⟨?_,by simp;omega,λx=>?_⟩,hleft,?_⟩
      ·rw[List.nodup_append]
       exact⟨hnd,by simp,λa ha b hb=>by simp at hb;subst hb;rintro rfl;exact hein ha⟩
      ·rw[qg,qo]
       have:m.use e.rev<m.use e:=by omega
       simp[this]
      ·simp[pcs]
       exact Zi _ 5
     ·simp (disch:=omega) [go_sem,h1,P2.rev,P2.enc,P2.cs,hlt]
      refine⟨seen++[i],out,hi2 ⟨hnd,by omega,λx=>?_⟩,hleft,?_⟩
      ·have:¬ m.use e.rev<m.use e:=by omega
       simp[this]
      ·exact⟨rfl,Zi _ 5,rfl,rfl,rfl⟩
   | some p =>
     obtain⟨j,n'⟩:=p
     rw[hfn]at h1
     rw[val,hfn]at hv
     simp only at hv
     simp only[Option.map_some]at h1
     by_cases hlt:n'<n
     ·simp (disch:=omega) [go_sem,h1,P2.rev,P2.enc,P2.cs,hlt]
      refine⟨by omega,seen++[i],out++[e],hi1 ⟨?_,by simp;omega,λx=>?_⟩,hleft,?_⟩
      ·rw[List.nodup_append]
       exact⟨hnd,by simp,λa ha b hb=>by simp at hb;subst hb;rintro rfl;exact hein ha⟩
      ·rw[qg,qo]
       have:m.use e.rev<m.use e:=by omega
       simp[this]
      ·simp[pcs]
       exact Zi _ 5
     ·simp (disch:=omega) [go_sem,h1,P2.rev,P2.enc,P2.cs,hlt]
      refine⟨seen++[i],out,hi2 ⟨hnd,by omega,λx=>?_⟩,hleft,?_⟩
      ·have:¬ m.use e.rev<m.use e:=by omega
       simp[this]
      ·exact⟨rfl,Zi _ 5,rfl,rfl,rfl⟩
theorem Q1i {f fc fb:FuncId} (hf:Qb P f (L1a.c fc fb) L1a.r L1a.n) (hc:Y3 P fc) (hb:U5 P fb):Q12 P f:=by
 intro m
 refine PureC.is (Q9 hm hf (qh rfl) ?_) rfl
 unfold L1a.c
 simp[go_sem,Mesh.enc,Mesh.cs]
 refine Q6 (hc m) ?_
 by_cases h:m.check=0
 ·simp[go_sem,h]
  refine Q6 (hb m) ?_
  simp[go_sem,psV,L1a.r,Mesh.closed,h]
  rw[Bool.eq_iff_iff];simp
 ·have h':(m.check == 0)=false:=by simpa using h
  simp[go_sem,h,h',L1a.r,Mesh.closed]
end
def L03.c:C :=(.seq (.reg [Az 2]) (.seq (.reg [Az 3]) (.seq (.seq (.reg [Ac 4 1]) (.blk 0 (.loop (.seq (.seq (.reg [Am 5 4,Ad 6 5 1,Am 7 0,An 8 0 7,Aj .lss 9 6 8]) (.ite (.t 9) .skip (.exit 0))) (.seq (.blk 1 (.drw [Am 12 3,Am 13 0,Au 14 (.ia 1 (.t 13) (.c (.i .i64 0))),Al 15 14,Am 16 0,Am 17 4,Ai 18 1 16 17,Al 19 18,Am 20 0,Am 21 4,Ad 22 21 1,Ai 23 1 20 22,Al 24 23,Au 25 (.build [(.i .i64 0),(.i .i64 0),(.i .i64 0)] [(0,1,(.t 15)),(1,1,(.t 19)),(2,1,(.t 24))]),Au 26 (.bsi 3 1 [(.i .i64 0),(.i .i64 0),(.i .i64 0)] [(0,(.t 25))]),Au 27 (.app 3 24 (.t 12) (.t 26)),Am 3 27] [])) (.reg [Am 10 4,Ad 11 10 1,
 Am 4 11])))))) (.seq (.reg [Am 28 3,Am 2 28]) .ret))))
def L03.r:List Rr:=[.tmp 2]
abbrev L03.n:Nat:=29
def L04.c (L08 L1b L16 L15 L03 L05:FuncId):C :=(.seq (.reg [Au 1 (.box (.t 0)),Au 2 (.alloc [.nil,.nil]),Ac 3 0,Ac 4 0]) (.seq (.seq (.reg [Ag 11 2 1,Au 12 (.call L08 [.t 11]),Am 5 12]) (.seq (.reg [Am 13 5,Ak .neq 14 13 0]) (.ite (.t 14) (.seq (.reg [Au 15 (.build [.nil,.nil] []),Am 16 5,As 2 2 15,Ac 3 0,Am 4 16]) .ret) .skip))) (.seq (.reg [Ag 18 2 1,Au 19 (.call L1b [.t 18]),Am 17 19,Ax1 20 0 17,Ax1 21 1 17,Am 6 20,Am 7 21]) (.seq (.seq (.reg [Am 22 7,Ak .neq 23 22 0]) (.ite (.t 23) (.seq (.reg [Au 24 (.build [.nil,.nil] []),Am 25 7,As 2 2 24,Ac 3 0,Am 4 25]) .ret) .skip)) (.seq (.drw [Af 26 0 1,
 Al 27 26,Au 28 (.call L16 [.t 27]),Af 29 1 1,Al 30 29,Au 31 (.call L15 [.t 30]),Au 32 (.build [.nil,.nil] [(0,1,(.t 28)),(1,1,(.t 31))]),Au 8 (.alloc [.nil,.nil]),As 2 8 32] [[],[],[],[2],[2],[],[],[],[]]) (.seq (.seq (.reg [Am 33 6,An 34 0 33,Ac 35 0]) (.blk 0 (.loop (.seq (.reg [Aj .lss 36 35 34]) (.seq (.ite (.t 36) .skip (.exit 0)) (.seq (.blk 1 (.seq (.reg [Ai 37 1 33 35,Al 38 37,Am 10 38]) (.seq (.reg [Am 39 10,Au 40 (.call L03 [.t 39]),Au 41 (.call L05 [.t 8,.t 40]),Au 42 (.un .not (.t 41))]) (.ite (.t 42) (.seq (.reg [Au 43 (.build [.nil,.nil] []),As 2 2 43,Ac 3 0,Ac 4 2]) .ret) .skip))))
 (.reg [Ad 44 35 1,Am 35 44]))))))) (.seq (.reg [Ag 45 2 8,Am 46 6,An 47 0 46,As 2 2 45,Am 3 47,Ac 4 0]) .ret)))))))
def L04.r:List Rr:=[.cell 2 (some 2),.tmp 3,.tmp 4]
abbrev L04.n:Nat:=48
def L05.c:C :=(.seq (.reg [Ab 4 false]) (.seq (.seq (.reg [Am 5 0,Au 6 (.nck (.t 5)),Af 7 1 6,Al 8 7,An 9 0 8,Am 10 1,An 11 0 10,Aj .add 12 9 11,Ak .gtr 13 12 4096]) (.ite (.t 13) (.seq (.reg [Ab 4 false]) .ret) .skip)) (.seq (.reg [Am 14 0,Am 15 0,Au 16 (.nck (.t 15)),Af 17 1 16,Al 18 17,Am 19 1,Au 20 (.app 3 24 (.t 18) (.t 19)),Au 21 (.nck (.t 14)),Af 22 1 21,As 1 22 20]) (.seq (.reg [Ab 4 true]) .ret))))
def L05.r:List Rr:=[.tmp 4]
abbrev L05.n:Nat:=23
def L1b.c (L08 L1d L19 L1g:FuncId):C :=(.seq (.reg [Au 1 (.box (.t 0)),Az 2,Ac 3 0]) (.seq (.seq (.reg [Ag 16 2 1,Au 17 (.call L08 [.t 16]),Am 4 17]) (.seq (.reg [Am 18 4,Ak .neq 19 18 0]) (.ite (.t 19) (.seq (.reg [Am 20 4,Az 2,Am 3 20]) .ret) .skip))) (.seq (.reg [Ag 21 2 1,Au 22 (.call L1d [.t 21]),Am 5 22]) (.seq (.reg [Ag 23 2 1,Au 24 (.call L19 [.t 23]),Am 6 24]) (.seq (.reg [Au 25 (.mkm none),Am 7 25]) (.seq (.seq (.reg [Am 26 6,An 27 0 26,Ac 28 0]) (.blk 0 (.loop (.seq (.reg [Aj .lss 29 28 27]) (.seq (.ite (.t 29) .skip (.exit 0)) (.seq (.blk 1 (.seq (.reg [Am 30 28,Ai 31 2 26 28,Ag 32 2 31,
 Au 9 (.alloc [(.i .i64 0),(.i .i64 0)]),Am 8 30,As 2 9 32]) (.seq (.seq (.drw [Am 33 5,Ag 34 2 9,Au 35 (.lk [1,1] (.i .i64 0) false (.t 33) (.t 34)),Ak .neq 36 35 1,Am 37 36,Aw 38 37 (.mv (.t 5)),Aw 39 37 (.ld (some 2) (.t 9)),Aw 40 37 (.call L1g [.t 39]),Aw 41 37 (.lk [1,1] (.i .i64 0) false (.t 38) (.t 40)),Aw 42 37 (.bin .neq (.t 41) (.c (.i .i64 0))),Ao 43 37 42,Am 44 43,Aw 45 44 (.mv (.t 8)),Aw 46 44 (.bin .gtr (.t 45) (.c (.i .i64 0))),Aw 47 44 (.mv (.t 46)),Av 48 47 (.mv (.t 6)),Av 49 47 (.mv (.t 8)),Av 50 47 (.bin .sub (.t 49) (.c (.i .i64 1))),Av 51 47 (.ia 2 (.t 48) (.t 50)),Av 52 47 (.fa 0 (.t 51)),
 Av 53 47 (.ld none (.t 52)),Av 54 47 (.fa 0 (.t 9)),Av 55 47 (.ld none (.t 54)),Av 56 47 (.bin .eql (.t 53) (.t 55)),Aw 57 44 (.pick (.t 47) (.t 56) (.c (.b false))),Ao 58 44 57] []) (.ite (.t 58) (.seq (.reg [Az 2,Ac 3 13]) .ret) .skip)) (.reg [Am 59 7,Af 60 1 9,Al 61 60,Af 62 0 9,Al 63 62,⟨none,none,.mup [1] (.t 59) (.t 61) (.t 63)⟩])))) (.reg [Ad 64 28 1,Am 28 64]))))))) (.seq (.reg [Az 10]) (.seq (.reg [Au 65 (.mkm none),Am 11 65]) (.seq (.seq (.reg [Am 66 6,An 67 0 66,Ac 68 0]) (.blk 2 (.loop (.seq (.reg [Aj .lss 69 68 67]) (.seq (.ite (.t 69) .skip (.exit 2)) (.seq (.blk 3 (.seq (.reg [
 Ai 70 2 66 68,Ag 71 2 70,Au 13 (.alloc [(.i .i64 0),(.i .i64 0)]),As 2 13 71]) (.seq (.seq (.reg [Am 72 11,Af 73 0 13,Al 74 73,Au 75 (.lk [1] (.b false) false (.t 72) (.t 74))]) (.ite (.t 75) (.exit 3) .skip)) (.seq (.reg [Az 14]) (.seq (.seq (.reg [Af 76 0 13,Al 77 76,Am 15 77]) (.blk 4 (.loop (.seq (.seq (.reg [Am 78 11,Am 79 15,Au 80 (.lk [1] (.b false) false (.t 78) (.t 79)),Au 81 (.un .not (.t 80))]) (.ite (.t 81) .skip (.exit 4))) (.seq (.blk 5 (.seq (.reg [Am 85 11,Am 86 15,⟨none,none,.mup [1] (.t 85) (.t 86) (.c (.b true))⟩]) (.reg [Am 87 14,Am 88 15,Au 89 (.bsi 1 1 [(.i .i64 0)] [(0,(.t 88))]),
 Au 90 (.app 1 8 (.t 87) (.t 89)),Am 14 90]))) (.reg [Am 82 7,Am 83 15,Au 84 (.lk [1] (.i .i64 0) false (.t 82) (.t 83)),Am 15 84])))))) (.reg [Am 91 10,Am 92 14,Au 93 (.bso 1 1 [.nil] [(0,(.t 92))]),Au 94 (.app 1 24 (.t 91) (.t 93)),Am 10 94])))))) (.reg [Ad 95 68 1,Am 68 95]))))))) (.seq (.reg [Am 96 10,Am 2 96,Ac 3 0]) .ret))))))))))
def L1b.r:List Rr:=[.tmp 2,.tmp 3]
abbrev L1b.n:Nat:=97
theorem Q2j:∀{l k:List P2},l.Nodup->(∀a∈l,a∈k)->l.length<=k.length
 | [],k,_,_=>by simp
 | x::l,k,hn,hs=>by
   have hc:=List.nodup_cons.1 hn
   have hx:=hs x (by simp)
   have:=Q2j (l:=l) (k:=k.erase x) hc.2 (λa ha=>by
    have hne:a≠x:=by rintro rfl;exact hc.1 ha
    exact(List.mem_erase_of_ne hne).2 (hs a (by simp[ha])))
   rw[List.length_erase_of_mem hx]at this
   have:=List.length_pos_of_mem hx
   simp only[List.length_cons];omega
theorem Q3f {n:Nat} {h l:List O} (hc:∀o∈h,o.cl n):WeakH n (h++l) h:=by
 have:=Zc (n:=n) (a:=l) (b:=[]) hc (by cases l<;>trivial)
 rwa [List.append_nil]at this
theorem U3 {h l:List O} {id:Nat} {o:O} (ho:h[id]?=some o):(h++l)[id]?=some o:=by
 rw[qd (q8.1 ho).1,ho]
theorem Q57 {h:List O} (l:List O) {id:Nat} (hid:id<h.length) (o:O):(h++l).set id o=h.set id o++l:=List.set_append_left _ _ hid
theorem Qbc {h:List O} {id g sz n:Nat} {els:List (List V)} (ho:h[id]?=some (.arr g sz els)) (hn:els.length=n) (hd:∀el∈els,∀x∈el,x.isD=true) {vs us:List V} (hr:Yq h vs=some us) :
  Yq h (.own id g 0 n::vs)=some (.l sz els::us):=by
 subst hn
 have ha:(els.all λx=>x.all V.isD)=true:=by rw[qj];exact λel hel=>qj.2 (hd el hel)
 have h1:frz h (.own id g 0 els.length)=some (.l sz els):=by simp[frz,Jd,ho,ha]
 unfold Yq at hr ⊢
 simp[h1,hr]
theorem Qj {α:Type} {l:List α} {k:Nat} {x:α} (h:l[k]?=some x):l.take (k+1)=l.take k++[x]:=by rw[List.take_add_one,h];rfl
end Go.Abs
namespace Go.Abs
open Go.Sort
theorem Qbl {t:T3} {e:P2} (h:e∈Q5 t):e.x≠e.y:=by
 unfold Q5 Zs at h
 have:=(qv.1 h).2
 simpa using this
theorem Q5e {m:Mesh} {e:P2} (hz:m.check=0):e∈Qa m.tris↔0<m.use e:=by
 have:m.use e=(Qa m.tris).count e:=by simp[Mesh.use,hz]
 rw[this,<- List.count_pos_iff];omega
end Go.Abs
