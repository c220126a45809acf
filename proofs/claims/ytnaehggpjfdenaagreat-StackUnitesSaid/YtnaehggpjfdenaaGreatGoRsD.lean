/- Part of the library on which the proof stands: an abstract machine, its values and its soundness against the model; or what functions of the program do to such values. -/
import Derived.Test.YtnaehggpjfdenaaGreatGoCsA
import Derived.Test.YtnaehggpjfdenaaGreatGoSecE
import Derived.Test.YtnaehggpjfdenaaGreatGoOriA
import Derived.Test.YtnaehggpjfdenaaGreatAbsSS
set_option linter.unusedVariables false
set_option linter.unusedSimpArgs false
set_option maxHeartbeats 8000000
set_option maxRecDepth 20000
namespace Go.Abs
open Go.Sort
instance:Inhabited P2:=⟨⟨0,0⟩⟩
def P2.rev (e:P2):P2:=⟨e.y,e.x⟩
def P2.und (e:P2):P2:=⟨min e.x e.y,max e.x e.y⟩
def P2.ints (e:P2):List Int:=[e.x,e.y]
def Z6 (m:Mesh):List (P2 × Int):=if m.check=0 then Yi (Qd m.tris) else []
def Q5d (P:Program) (f:FuncId):Prop:=∀m:Mesh,NewC P f [m.enc] (λr h=>r=.mp 1/\h=[.dead,.mp ((Z6 m).map asV)])
def RevC (P:Program) (f:FuncId):Prop:=∀e:P2,CallIs P f [e.enc] e.rev.enc
def UndC (P:Program) (f:FuncId):Prop:=∀e:P2,CallIs P f [e.enc] e.und.enc
def OrC (P:Program) (f:FuncId):Prop:=∀x y:Int,CallIs P f [.l 1 [[.i .i64 x],[.i .i64 y]]] (.i .i64 (if x≠0 then x else y))
def Qkx (a b:P2):Int:=if Ic a.x b.x≠0 then Ic a.x b.x else Ic a.y b.y
def Qgn (P:Program) (f:FuncId):Prop:=∀a b:P2,CallIs P f [a.enc,b.enc] (.i .i64 (Qkx a b))
theorem ltE (a b:P2):ltC Qkx a b=decide (P2.lt a b):=by
 unfold ltC Qkx Ic P2.lt
 by_cases h1:a.x<b.x
 ·simp[h1]
 ·by_cases h2:b.x<a.x
  ·simp[h1,h2];omega
  ·have h3:a.x=b.x:=by omega
   by_cases h4:a.y<b.y
   ·simp[h3,h4]
   ·by_cases h5:b.y<a.y<;>simp[h3,h4,h5]
theorem swoE:SWO (ltC Qkx) where
 irrefl x:=by rw[ltE];simp[P2.lt]
 trans x y z h1 h2:=by
  rw[ltE,decide_eq_true_eq]at *
  exact P2.lt_trans h1 h2
 ntrans x y z h1 h2:=by
  rw[ltE,decide_eq_false_iff_not]at *
  unfold P2.lt at *;omega
section
variable {P:Program} (hm:P.follows .mixedOrders=true)
include hm
theorem Q5n {f:FuncId} (hf:Q9 P f L2d.c L2d.r L2d.n):Ik P f:=Wa hm hf
theorem Q1v {f:FuncId} (hf:Q9 P f L2f.c L2f.r L2f.n):RevC P f:=by
 intro e
 refine PureC.is (Q7 hm hf (qh rfl) ?_) rfl
 unfold L2f.c
 simp[go_sem,P2.enc,P2.cs,L2f.r,P2.rev]
theorem Ek {f:FuncId} (hf:Q9 P f L2g.c L2g.r L2g.n):UndC P f:=by
 intro e
 refine PureC.is (Q7 hm hf (qh rfl) ?_) rfl
 unfold L2g.c
 simp[go_sem,P2.enc,P2.cs,L2g.r,P2.und,Q0r,Qf5]
theorem Or_ok {f:FuncId} (hf:Q9 P f L01.c L01.r L01.n):OrC P f:=by
 intro x y
 refine PureC.is (Q7 hm hf (qh rfl) ?_) rfl
 unfold L01.c
 simp[go_sem]
 refine Qi (α:=Nat) (λk=>k<=2/\(1<=k->x=0)/\(2<=k->y=0))
  (λk=>⟨[(3,.i .i64 0),(6,.l 1 [[.i .i64 x],[.i .i64 y]]),(7,.i .i64 2),(8,.i .i64 k)],[]⟩)
  (λk=>2-k) 0 ⟨by omega,by omega,by omega⟩ ?_ ?_
 ·simp[go_sem]
 ·rintro k ⟨hk,h1,h2⟩
  have w1:IntKind.i64.wrap 1=1:=rfl
  have w2:IntKind.i64.wrap 2=2:=rfl
  have:k=0∨k=1∨k=2:=by omega
  rcases this with rfl | rfl | rfl
  ·by_cases hx:x=0
   ·simp[go_sem,hx,w1]
    exact⟨1,⟨by omega,λh=>by omega⟩,by omega,rfl⟩
   ·simp[go_sem,hx,L01.r]
  ·have hx:=h1 (by omega)
   by_cases hy:y=0
   ·simp[go_sem,hx,hy,w2]
    exact⟨2,by omega,by omega,rfl⟩
   ·simp[go_sem,hx,hy,L01.r]
  ·have hx:=h1 (by omega)
   have hy:=h2 (by omega)
   simp[go_sem,hx,hy,L01.r]
theorem Q5m {f fc fo:FuncId} (hf:Q9 P f (L2e.c fc fo) L2e.r L2e.n) (hc:CmpC P fc) (ho:OrC P fo):Qgn P f:=by
 intro a b
 refine PureC.is (Q7 hm hf (qh rfl) ?_) rfl
 unfold L2e.c
 simp[go_sem,P2.enc,P2.cs]
 refine Ql (hc a.x b.x) ?_
 simp[go_sem]
 refine Ql (hc a.y b.y) ?_
 simp[go_sem]
 refine Ql (ho _ _) ?_
 simp[go_sem,L2e.r,Qkx]
theorem Q1w {f fc fe:FuncId} (hf:Q9 P f (L2c.c fc fe) L2c.r L2c.n) (hc:K1 P fc) (he:Ik P fe):Q5d P f:=by
 intro m
 refine Qno hm hf (qh rfl) ?_
 unfold L2c.c
 simp[go_sem,Mesh.enc,Mesh.cs]
 refine Q4 (hc m) ?_
 by_cases hz:m.check=0
 case neg =>
  have hT:Z6 m=[]:=by simp[Z6,hz]
  simp[go_sem,hz,L2c.r,hT]
 have hl:=(Mesh.check_zero.1 hz).2.1
 simp[go_sem,hz,tsV]
 refine Qi (α:=Nat) (λk=>k<=m.tris.length)
  (λk=>⟨[(3,.mp 1),(14,tsV m.tris),(15,.i .i64 m.tris.length),(16,.i .i64 k)],[.dead,.mp ((Yi (Qd (m.tris.take k))).map asV)]⟩)
  (λk=>m.tris.length-k) 0 (by omega) ?_ ?_
 ·simp[go_sem,tsV,Qd,Yi]
 ·intro k hk
  by_cases hkl:k=m.tris.length
  ·subst hkl
   rw[qi]
   have hT:Z6 m=Yi (Qd m.tris):=by simp[Z6,hz]
   simp[go_sem,tsV,L2c.r,hT]
   exact Xl _ 2
  ·have hlt:k<m.tris.length:=by omega
   have hp:m.tris[k]?=some m.tris[k]:=q9 hlt
   generalize m.tris[k]=t at hp
   obtain⟨_,hp'⟩:=q8.1 hp
   simp[go_sem,tsV,hlt,hp',tcs]
   refine Q4 (he t) ?_
   have hlen:(Q8 t).length<=3:=Xk t 3
   have hE:=Q1r m.tris k
   generalize hA:Qd (m.tris.take k)=A0
   simp[go_sem,psV]
   refine Qi (α:=Nat) (λj=>j<=(Q8 t).length)
    (λj=>⟨[(3,.mp 1),(14,tsV m.tris),(15,.i .i64 m.tris.length),(16,.i .i64 k),(21,psV (Q8 t)),(22,.i .i64 (Q8 t).length),(23,.i .i64 j)],[.dead,.mp ((Yi (A0++(Q8 t).take j)).map asV)]⟩)
    (λj=>(Q8 t).length-j) 0 (by omega) ?_ ?_
   ·simp[go_sem,tsV,psV]
    exact Xl _ 2
   ·intro j hj
    by_cases hjl:j=(Q8 t).length
    ·subst hjl
     simp (disch:=omega) [go_sem,tsV,psV,Q0]
     exact⟨k+1,by omega,by omega,by omega,by rw[X8 hp,hA],Xl _ 2⟩
    ·have hjlt:j<(Q8 t).length:=by omega
     have hq:(Q8 t)[j]?=some (Q8 t)[j]:=q9 hjlt
     have htk:(Q8 t).take (j+1)=(Q8 t).take j++[(Q8 t)[j]]:=by rw[List.take_add_one,hq];rfl
     generalize (Q8 t)[j]=e at hq htk
     obtain⟨_,hq'⟩:=q8.1 hq
     have hS1:A0++(Q8 t).take (j+1)=(A0++(Q8 t).take j)++[e]:=by rw[htk,<- qz]
     generalize hS:A0++(Q8 t).take j=S at hS1
     have hT1:=Kq S e
     rw[<- hS1]at hT1
     generalize hL:Yi S=L at hT1
     have h1:=Jk e L
     unfold Qdk at hT1
     cases hfn:fnd e L with
     | some p =>
       obtain⟨i,n⟩:=p
       rw[hfn]at h1 hT1
       simp only[Option.map_some]at h1
       simp only at hT1
       have hn:n=S.count e:=by
        have:=Q03 S e
        rw[hL,val,hfn]at this
        exact this
       have hcl:S.count e<=S.length:=List.count_le_length
       have hSl:S.length<=3*4096:=by
        rw[<- hS,<- hA,j3,qv];omega
       have h3:fnd e (L.set i (e,n+1))=some (i,n+1):=(W1 (n':=n+1) hfn).2
       have hil:i<L.length:=(q8.1 (W1 (n':=n+1) hfn).1).1
       have hil':i<(List.map asV L).length:=by simpa using hil
       have wn:IntKind.i64.wrap (n+1)=n+1:=Q0 (by omega) (by omega)
       simp[go_sem,psV,hjlt,hq',pcs,h1,wn,qm hil',List.set_set]
       refine⟨j+1,by omega,by omega,⟨.inr rfl,Q0 (by omega) (by omega)⟩,?_,Xl _ 2⟩
       rw[hT1,List.map_set];rfl
     | none =>
       rw[hfn]at h1 hT1
       simp only[Option.map_none]at h1
       have w1:IntKind.i64.wrap 1=1:=rfl
       simp only at hT1
       simp[go_sem,psV,hjlt,hq',pcs,h1,w1]
       refine⟨j+1,by omega,by omega,⟨.inr rfl,Q0 (by omega) (by omega)⟩,?_,Xl _ 2⟩
       rw[hT1,qw];rfl
end
end Go.Abs
namespace Go.Abs
open Go.Sort
def bordE (E:List P2) (e:P2):Bool:=decide (E.count e.rev<E.count e)
def border (E:List P2):List P2:=U4 (E.filter (bordE E))
def Mesh.border (m:Mesh):List P2:=if m.check=0 then Go.Abs.border (Qd m.tris) else []
def Mesh.closed (m:Mesh):Bool:=decide (m.check=0) && decide (m.border=[])
def Q1f (P:Program) (f:FuncId):Prop:=∀m:Mesh,CallIs P f [m.enc] (psV m.border)
def Qat (P:Program) (f:FuncId):Prop:=∀m:Mesh,CallIs P f [m.enc] (.b m.closed)
def Mesh.use (m:Mesh) (e:P2):Int:=if m.check=0 then (Qd m.tris).count e else 0
theorem sh_asV (L:List (P2 × Int)) (n:Nat):(O.mp (L.map asV)).sh n=.mp (L.map asV):=by
 simp[O.sh,asV,V.sh2,V.sh1,V.sh0]
theorem Qe0 (m:Mesh) (e:P2):val e (Z6 m)=m.use e:=by
 unfold Z6 Mesh.use
 split
 ·exact Q03 _ _
 ·rfl
theorem Q3k {m:Mesh} {i:Nat} {e:P2} {n:Int} (h:(Z6 m)[i]?=some (e,n)):m.check=0/\e∈Qd m.tris/\n=m.use e:=by
 unfold Z6 at h
 split at h
 ·rename_i hz
  have:=Q6w h
  exact⟨hz,this.1,by simp[Mesh.use,hz,this.2]⟩
 ·simp at h
theorem Qid {m:Mesh} {e:P2} (hz:m.check=0) (h:e∈Qd m.tris):∃i:Nat,(Z6 m)[i]?=some (e,m.use e):=by
 unfold Z6 Mesh.use
 rw[if_pos hz,if_pos hz]
 exact Qm8 h
theorem Q8b (m:Mesh):((Z6 m).map Prod.fst).Nodup:=by
 unfold Z6
 split
 ·exact(Kr _).1
 ·simp
theorem Qe5 (m:Mesh):(Z6 m).length<=12288:=by
 unfold Z6
 split
 ·rename_i hz
  have h1:=(Kr (Qd m.tris)).2
  have h3:=Q1r m.tris m.tris.length
  rw[qi]at h3
  have h4:=(Mesh.check_zero.1 hz).2.1
  have h5:∀E:List P2,(Yi E).length<=E.length:=by
   refine Q30 (by simp[Yi]) λE x ih=>?_
   rw[Kq]
   unfold Qdk
   split<;>simp<;>omega
  have:=h5 (Qd m.tris)
  omega
 ·simp
theorem mem_border {m:Mesh} {e:P2}:e∈m.border↔m.check=0/\e∈Qd m.tris/\m.use e.rev<m.use e:=by
 unfold Mesh.border Mesh.use
 by_cases hz:m.check=0
 ·simp only[if_pos hz]
  unfold Go.Abs.border bordE
  rw[Ue,qu]
  simp[hz]
 ·simp[hz]
theorem Qg7 (m:Mesh):asc m.border:=by
 unfold Mesh.border
 split
 ·exact Uq _
 ·simp[asc]
theorem Qjo {L:List (P2 × Int)} (h:(L.map Prod.fst).Nodup) {i j:Nat} {e:P2} {n n':Int} (hi:L[i]?=some (e,n)) (hj:L[j]?=some (e,n')):i=j:=by
 have h1:=W2 h hi
 have h2:=W2 h hj
 rw[h1]at h2
 simp at h2;exact h2.1
def BInv (m:Mesh) (p:List Nat × List P2):Prop:=p.2.Nodup/\p.2.length<=p.1.length/\p.1.length<=(Z6 m).length-left (Z6 m).length p.1/\(∀i∈p.1,i<(Z6 m).length)/\∀x,x∈p.2↔∃i∈p.1,∃n,(Z6 m)[i]?=some (x,n)/\m.use x.rev<m.use x
section
variable {P:Program} (hm:P.follows .mixedOrders=true)
include hm
theorem Q05 {f fc fr fs fo:FuncId} (hf:Q9 P f (L29.c fc fr fs fo) L29.r L29.n) (hc:Q5d P fc) (hr:RevC P fr) (hs:U5 P fs 2) (ho:Qgn P fo) (hcal:Qv P fo=true):Q1f P f:=by
 intro m
 refine PureC.is (Q7 hm hf (qh rfl) ?_) rfl
 unfold L29.c
 have hLl:=Qe5 m
 simp[go_sem,Mesh.enc,Mesh.cs]
 refine Q87 (hc m) rfl ?_
 simp only[List.map_cons,List.map_nil,sh_asV]
 simp[go_sem]
 refine Qs [.t 4 2] (α:=List Nat × List P2) (BInv m)
  (λp=>⟨[(3,.mp 2),(4,.own 4 (p.2.length+1) 0 p.2.length),(10,.p 3 1 0 0)],[.dead,.dead,.mp ((Z6 m).map asV),.it (some 2) (Z6 m).length p.1,.arr (p.2.length+1) 2 (p.2.map P2.cs)]⟩)
  (λp=>left (Z6 m).length p.1) ([],[]) ⟨by simp,by simp,by simp[left],by simp,by simp⟩ ?_ ?_
 ·simp[go_sem]
  exact Xl _ 5
 ·rintro⟨seen,out⟩ ⟨hnd,hol,hsl,hsr,hmem⟩
  simp only at hnd hol hsl hsr hmem
  simp[go_sem,Mnx]
  refine⟨λhall=>?_,?_⟩
  ·obtain⟨ys,hperm,hup,hcall⟩:=hs P2.ints (λ_=>rfl) Qkx swoE fo hcal (λa b=>ho a b) out (by omega)
   have hys:ys=m.border:=by
    rw[Qdh hperm hnd (hup.imp (by intro a b h;rw[ltE]at h;simpa using h))]
    refine Qac (Uq _) (Qg7 m) λx=>?_
    rw[Ue,hmem,mem_border]
    constructor
    ·rintro⟨i,_,n,h1,h2⟩
     have:=Q3k h1
     exact⟨this.1,this.2.1,h2⟩
    ·rintro⟨h1,h2,h3⟩
     obtain⟨i,hi⟩:=Qid h1 h2
     exact⟨i,hall i (q8.1 hi).1,_,hi,h3⟩
   refine Qt (hcall _ 4 _ rfl) ?_
   subst hys
   have hl2:m.border.length=out.length:=hperm.length_eq
   have hy2:m.border.map (λx=>x.ints.map (V.i .i64))=m.border.map P2.cs:=rfl
   rw[hy2]
   have ht:List.take out.length (m.border.map P2.cs)=m.border.map P2.cs:=qe (by simp[hl2])
   simp[go_sem,L29.r,psV,Qnc,hl2,ht]
  ·rintro i a b e n hi hab hni
   simp only[asV,Prod.mk.injEq]at hab
   obtain⟨rfl,rfl⟩:=hab
   have hil:i<(Z6 m).length:=(q8.1 hi).1
   have hg:=Q3k hi
   simp[go_sem,hi,asV]
   refine Q4 (hr e) ?_
   have h1:Qm [1,1] (V.a [V.i .i64 e.y,V.i .i64 e.x]) ((Z6 m).map asV)=_:=Jk e.rev (Z6 m)
   have hv:=Qe0 m e.rev
   have hleft:=Qhg hil hni
   have hleft2:left (Z6 m).length seen<=(Z6 m).length:=by
    unfold left
    have:=j8 (λi=>!seen.contains i) (List.range (Z6 m).length)
    simpa using this
   have hinv:∀out':List P2,(out'.Nodup/\out'.length<=seen.length+1/\∀x,x∈out'↔x∈out∨(x=e/\m.use e.rev<m.use e)) ->
     BInv m (seen++[i],out'):=by
    rintro out' ⟨q1,q2,q3⟩
    refine⟨q1,by simpa using q2,by simp only[j3,List.length_cons,List.length_nil];omega,λj hj=>?_,λx=>?_⟩
    ·rcases qg.1 hj with h | h
     ·exact hsr j h
     ·simp at h;omega
    ·rw[q3,hmem]
     constructor
     ·rintro (⟨j,h1,n',h2,h3⟩ | ⟨rfl,h3⟩)
      ·exact⟨j,by simp[h1],n',h2,h3⟩
      ·exact⟨i,by simp,n,hi,h3⟩
     ·rintro⟨j,h1,n',h2,h3⟩
      rcases qg.1 h1 with h | h
      ·exact .inl ⟨j,h,n',h2,h3⟩
      ·simp at h
       subst h
       rw[hi]at h2
       simp at h2
       obtain⟨rfl,rfl⟩:=h2
       exact .inr ⟨rfl,h3⟩
   have hein:e∉out:=by
    rw[hmem]
    rintro⟨j,h1,n',h2,_⟩
    have:=Qjo (Q8b m) hi h2
    subst this
    exact hni h1
   have hn:=hg.2.2
   have hi1:=hinv (out++[e])
   have hi2:=hinv out
   cases hfn:fnd e.rev (Z6 m) with
   | none =>
     rw[hfn]at h1
     rw[val,hfn]at hv
     simp only at hv
     simp only[Option.map_none]at h1
     by_cases hlt:0<n
     ·simp (disch:=omega) [go_sem,h1,P2.rev,P2.enc,P2.cs,hlt]
      refine⟨by omega,seen++[i],out++[e],hi1 ⟨?_,by simp;omega,λx=>?_⟩,hleft,?_⟩
      ·rw[List.nodup_append]
       exact⟨hnd,by simp,λa ha b hb=>by simp at hb;subst hb;rintro rfl;exact hein ha⟩
      ·rw[qg,qn]
       have:m.use e.rev<m.use e:=by omega
       simp[this]
      ·simp[pcs]
       exact Xl _ 5
     ·simp (disch:=omega) [go_sem,h1,P2.rev,P2.enc,P2.cs,hlt]
      refine⟨seen++[i],out,hi2 ⟨hnd,by omega,λx=>?_⟩,hleft,?_⟩
      ·have:¬ m.use e.rev<m.use e:=by omega
       simp[this]
      ·exact⟨rfl,Xl _ 5,rfl,rfl,rfl⟩
   | some p =>
     obtain⟨j,n'⟩:=p
     rw[hfn]at h1
     rw[val,hfn]at hv
     simp only at hv
     simp only[Option.map_some]at h1
     by_cases hlt:n'<n
     ·simp (disch:=omega) [go_sem,h1,P2.rev,P2.enc,P2.cs,hlt]
      refine⟨by omega,seen++[i],out++[e],hi1 ⟨?_,by simp;omega,λx=>?_⟩,hleft,?_⟩
      ·rw[List.nodup_append]
       exact⟨hnd,by simp,λa ha b hb=>by simp at hb;subst hb;rintro rfl;exact hein ha⟩
      ·rw[qg,qn]
       have:m.use e.rev<m.use e:=by omega
       simp[this]
      ·simp[pcs]
       exact Xl _ 5
     ·simp (disch:=omega) [go_sem,h1,P2.rev,P2.enc,P2.cs,hlt]
      refine⟨seen++[i],out,hi2 ⟨hnd,by omega,λx=>?_⟩,hleft,?_⟩
      ·have:¬ m.use e.rev<m.use e:=by omega
       simp[this]
      ·exact⟨rfl,Xl _ 5,rfl,rfl,rfl⟩
theorem Q3j {f fc fb:FuncId} (hf:Q9 P f (L2a.c fc fb) L2a.r L2a.n) (hc:K1 P fc) (hb:Q1f P fb):Qat P f:=by
 intro m
 refine PureC.is (Q7 hm hf (qh rfl) ?_) rfl
 unfold L2a.c
 simp[go_sem,Mesh.enc,Mesh.cs]
 refine Q4 (hc m) ?_
 by_cases h:m.check=0
 ·simp[go_sem,h]
  refine Q4 (hb m) ?_
  simp[go_sem,psV,L2a.r,Mesh.closed,h]
  rw[Bool.eq_iff_iff];simp
 ·have h':(m.check == 0)=false:=by simpa using h
  simp[go_sem,h,h',L2a.r,Mesh.closed]
end
theorem Qg9 {n:Nat} {h l:List O} (hc:∀o∈h,o.cl n):WeakH n (h++l) h:=by
 have:=Qr (n:=n) (a:=l) (b:=[]) hc (by cases l<;>trivial)
 rwa [List.append_nil]at this
theorem Xm {h l:List O} {id:Nat} {o:O} (ho:h[id]?=some o):(h++l)[id]?=some o:=by
 rw[qd (q8.1 ho).1,ho]
theorem Q15 {h:List O} (l:List O) {id:Nat} (hid:id<h.length) (o:O):(h++l).set id o=h.set id o++l:=List.set_append_left _ _ hid
def Mesh.edgesL (m:Mesh):List P2:=if m.check=0 then U4 ((Qd m.tris).map P2.und) else []
theorem Qc {α:Type} {l:List α} {k:Nat} {x:α} (h:l[k]?=some x):l.take (k+1)=l.take k++[x]:=by rw[List.take_add_one,h];rfl
structure PolyOk (ps:List (List P2)):Prop where
 num:ps.length<=4096
 cnt:(ps.flatMap Z9).length<=4096
 bd:EgB (ps.flatMap Z9) 65536
theorem Qct (ps:List (List P2)) (p:List P2):((ps++[p]).flatMap Z9).length=(ps.flatMap Z9).length+p.length:=by
 rw[List.flatMap_append,j3]
 simp[Kf]
theorem Qkf (ps:List (List P2)) (k:Nat):((ps.take k).flatMap Z9).length<=(ps.flatMap Z9).length:=by
 conv=>rhs;rw[<- List.take_append_drop k ps]
 rw[List.flatMap_append,j3]
 omega
theorem PolyOk.len {ps:List (List P2)} (h:PolyOk ps) {k:Nat} {p:List P2} (hp:ps[k]?=some p):((ps.take k).flatMap Z9).length+p.length<=4096:=by
 have h1:=Qkf ps (k+1)
 rw[Qc hp,Qct]at h1
 have:=h.cnt
 omega
theorem PolyOk.pt {ps:List (List P2)} (h:PolyOk ps) {p:List P2} (hp:p∈ps) {v:P2} (hv:v∈p):(-65536<=v.x/\v.x<=65536)/\-65536<=v.y/\v.y<=65536:=by
 rw[<- Qjg p]at hv
 obtain⟨e,he,rfl⟩:=qo.1 hv
 obtain⟨a,b,_⟩:=h.bd e (jn.2 ⟨p,hp,he⟩)
 exact⟨a,b⟩
def Qav (P:Program) (f:FuncId):Prop:=∀(ps:List (List P2)) (k:Int),PolyOk ps->CallIs P f [Qw ps,.i .i64 k] (.i .i64 (if Z2 k 32 1024 then 0 else 1))
def Qrr (P:Program) (f:FuncId):Prop:=∀a b:E5,E5B a->E5B b->CallIs P f [.a a.cs,.a b.cs] (.i .i64 (a.lo.y-b.lo.y))
def StB (s:Int × Int):Prop:=(-100000000000<=s.1/\s.1<=100000000000)/\-1<=s.2/\s.2<=1
def stC (s:Int × Int):List V:=[.i .i64 s.1,.i .i64 s.2]
def Qrq (P:Program) (f:FuncId):Prop:=∀a b:Int × Int,StB a->StB b->CallIs P f [.a (stC a),.a (stC b)] (.i .i64 (b.1-a.1))
section
variable {P:Program} (hm:P.follows .mixedOrders=true)
include hm
theorem B0 {f:FuncId} (hf:Q9 P f L0s.c L0s.r L0s.n):Qrr P f:=by
 intro a b ha hb
 obtain⟨_,_,a1,a2,_,_,_,_,_,_,_⟩:=ha
 obtain⟨_,_,b1,b2,_,_,_,_,_,_,_⟩:=hb
 refine PureC.is (Q7 hm hf (qh rfl) ?_) rfl
 unfold L0s.c
 have w:=Q0 (z:=a.lo.y-b.lo.y) (by omega) (by omega)
 simp[go_sem,E5.cs,w,L0s.r]
theorem Q26 {f:FuncId} (hf:Q9 P f L0u.c L0u.r L0u.n):Qrq P f:=by
 intro a b ha hb
 obtain⟨⟨a1,a2⟩,_⟩:=ha
 obtain⟨⟨b1,b2⟩,_⟩:=hb
 refine PureC.is (Q7 hm hf (qh rfl) ?_) rfl
 unfold L0u.c
 have w:=Q0 (z:=b.1-a.1) (by omega) (by omega)
 simp[go_sem,stC,w,L0u.r]
theorem Q29 {f:FuncId} (hf:Q9 P f L0p.c L0p.r L0p.n):Qav P f:=by
 intro ps k hps
 have hpl:=hps.num
 refine PureC.is (Q7 hm hf (qh rfl) ?_) rfl
 unfold L0p.c
 by_cases hlo:k<32
 ·have he:Z2 k 32 1024=false:=by unfold Z2;simp[show ¬ 32<=k by omega]
  simp[go_sem,hlo,he,L0p.r]
 by_cases hhi:1024<k
 ·have he:Z2 k 32 1024=false:=by unfold Z2;simp[show ¬ k<=1024 by omega]
  simp[go_sem,hlo,hhi,he,L0p.r]
 have ht:k.tmod 2=k % 2:=jo (by omega)
 by_cases hev:k % 2=0
 case neg =>
  have he:Z2 k 32 1024=false:=by unfold Z2;simp[hev]
  have hb:(k.tmod 2 != 0)=true:=by rw[ht];simpa using hev
  have w:=Q0 (z:=k.tmod 2) (by omega) (by omega)
  rw[ht]at w hb
  simp[go_sem,hlo,hhi,ht,w,hb,hev,he,L0p.r]
  done
 have he:Z2 k 32 1024=true:=by unfold Z2;simp[hev];omega
 simp[go_sem,hlo,hhi,ht,hev,he,Qw]
 obtain⟨tot,htot⟩:∃tot:Nat->Nat,∀i,tot i=((ps.take i).flatMap Z9).length:=⟨_,λ_=>rfl⟩
 have htot0:tot 0=0:=by rw[htot];rfl
 refine Qi (α:=Nat) (λi=>i<=ps.length)
  (λi=>⟨[(0,Qw ps),(5,.i .i64 (tot i)),(23,Qw ps),(24,.i .i64 ps.length),(25,.i .i64 i)],[]⟩)
  (λi=>ps.length-i) 0 (Nat.zero_le _) ?_ ?_
 ·simp[go_sem,Qw,htot0]
 ·intro i hi
  by_cases hil:i=ps.length
  case neg =>
   have hlt:i<ps.length:=by omega
   have hq:ps[i]?=some ps[i]:=q9 hlt
   have hln:=hps.len hq
   have hft:=Qct (ps.take i) ps[i]
   rw[<- Qc hq,<- htot,<- htot]at hft
   rw[<- htot]at hln
   generalize ps[i]=p at *
   obtain⟨_,hq'⟩:=q8.1 hq
   simp (disch:=omega) [go_sem,Qw,psV,hlt,hq,hq',Q0]
   exact⟨i+1,by omega,by omega,by omega,by omega⟩
  subst hil
  have hcnt:=hps.cnt
  have hN:=htot ps.length
  rw[qi]at hN
  rw[<- hN]at hcnt
  generalize tot ps.length=N at *
  simp[go_sem,Qw,show ¬ (16384:Int)<N by omega]
  refine Qi (α:=Nat) (λi=>i<=ps.length)
   (λi=>⟨[(37,Qw ps),(38,.i .i64 ps.length),(39,.i .i64 i)],[]⟩)
   (λi=>ps.length-i) 0 (Nat.zero_le _) ?_ ?_
  ·simp[go_sem,Qw]
  intro i hi
  by_cases hil:i=ps.length
  ·subst hil
   simp[go_sem,Qw,L0p.r]
  have hlt:i<ps.length:=by omega
  have hq:ps[i]?=some ps[i]:=q9 hlt
  have hln:=hps.len hq
  have hpt:∀v∈ps[i],_:=λv hv=>hps.pt (qb hq) hv
  generalize ps[i]=p at *
  obtain⟨_,hq'⟩:=q8.1 hq
  simp (disch:=omega) [go_sem,Qw,psV,hlt,hq,hq',Q0]
  refine Qi (α:=Nat) (λj=>j<=p.length)
   (λj=>⟨[(37,Qw ps),(38,.i .i64 ps.length),(39,.i .i64 i),(44,.l 2 (p.map P2.cs)),(45,.i .i64 p.length),(46,.i .i64 j)],[]⟩)
   (λj=>p.length-j) 0 (Nat.zero_le _) ?_ ?_
  ·simp[go_sem,Qw,psV]
  intro j hj
  by_cases hjl:j=p.length
  ·subst hjl
   simp (disch:=omega) [go_sem,Qw,psV,Q0]
   exact⟨i+1,by omega,by omega,by omega⟩
  have hjt:j<p.length:=by omega
  have hv:p[j]?=some p[j]:=q9 hjt
  have hvb:=hpt _ (qb hv)
  generalize p[j]=v at *
  obtain⟨_,hv'⟩:=q8.1 hv
  simp (disch:=omega) [go_sem,Qw,hjt,hv,hv',P2.cs,show ¬ v.x < -65536 by omega,show ¬ 65536<v.x by omega,show ¬ v.y < -65536 by omega,show ¬ 65536<v.y by omega,Q0]
  exact⟨j+1,by omega,by omega,by omega⟩
end
abbrev Qse:={ e:E5 // E5B e }
instance:Inhabited Qse:=⟨⟨⟨⟨0,0⟩,⟨0,1⟩,0⟩,by constructor<;>decide⟩⟩
def Q7u (a b:Qse):Int:=a.1.lo.y-b.1.lo.y
theorem Qkw:Go.Sort.SWO (ltC Q7u) where
 irrefl x:=by unfold ltC Q7u;simp
 trans x y z:=by unfold ltC Q7u;simp only[decide_eq_true_eq];omega
 ntrans x y z:=by unfold ltC Q7u;simp only[decide_eq_false_iff_not];omega
theorem Qqg (l:List E5):∀e∈l,∀y∈e.cs,y.isD=true:=λe _ y hy=>by
 simp[E5.cs]at hy
 rcases hy with rfl | rfl | rfl | rfl | rfl<;>rfl
theorem Q56 (l:List E5) (n:Nat):∀e∈l,∀y∈e.cs,y.cl n=true:=λe he y hy=>Kz n (Qqg l e he y hy)
def K9 (es:List Eg):List E5:=es.filterMap I4
theorem Qcd (a b:List Eg):K9 (a++b)=K9 a++K9 b:=List.filterMap_append
theorem Qo5 (e:Eg):K9 [e]=(I4 e).toList:=by
 unfold K9
 rw[List.filterMap_cons]
 cases I4 e<;>rfl
theorem Bh (a:List Eg):(K9 a).length<=a.length:=List.length_filterMap_le _ _
def Qaq (P:Program) (f:FuncId):Prop:=∀ps:List (List P2),PolyOk ps->∃l:List E5,l.Perm (K9 (ps.flatMap Z9))/\l.Pairwise (λa b=>a.lo.y<=b.lo.y)/\CallIs P f [Qw ps] (e5V l)
section
variable {P:Program} (hm:P.follows .mixedOrders=true)
include hm
theorem Q27 {f fs fc:FuncId} (hf:Q9 P f (L0r.c fs fc) L0r.r L0r.n) (hs:U5 P fs 5) (hc:Qrr P fc) (hcal:Qv P fc=true):Qaq P f:=by
 intro ps hps
 have hpl:=hps.num
 have hcnt:=hps.cnt
 have hLB:∀e∈K9 (ps.flatMap Z9),E5B e:=λe he=>Qf7 hps.bd he
 have hLl:=Bh (ps.flatMap Z9)
 obtain⟨ys,hperm,hup,hcall⟩:=hs (λr:Qse=>r.1.ints) (λ_=>rfl) Q7u Qkw fc hcal (λa b=>hc a.1 b.1 a.2 b.2) ((K9 (ps.flatMap Z9)).pmap Subtype.mk hLB) (by rw[List.length_pmap];omega)
 have hxs:((K9 (ps.flatMap Z9)).pmap Subtype.mk hLB).map Subtype.val=K9 (ps.flatMap Z9):=by rw[List.map_pmap];simp
 have hp2:=hperm.map Subtype.val
 rw[hxs]at hp2
 refine⟨ys.map Subtype.val,hp2,?_,?_⟩
 ·rw[je]
  refine hup.imp λ{a b} h=>?_
  unfold ltC Q7u at h
  simp only[decide_eq_false_iff_not]at h
  omega
 have hyl:(ys.map Subtype.val).length=(K9 (ps.flatMap Z9)).length:=hp2.length_eq
 have hyy:ys.map (λx:Qse=>x.1.ints.map (V.i .i64))=(ys.map Subtype.val).map E5.cs:=by rw[List.map_map];rfl
 have hxx:((K9 (ps.flatMap Z9)).pmap Subtype.mk hLB).map (λx:Qse=>x.1.ints.map (V.i .i64))=(K9 (ps.flatMap Z9)).map E5.cs:=by
  conv=>rhs;rw[<- hxs]
  rw[List.map_map];rfl
 rw[hyy,hxx]at hcall
 rw[List.length_pmap]at hcall
 generalize ys.map Subtype.val=zs at *
 clear hup hperm hxs hxx hyy hLB
 obtain⟨A,hA⟩:∃A:Nat->List E5,∀i,A i=K9 ((ps.take i).flatMap Z9):=⟨_,λ_=>rfl⟩
 have hA0:A 0=[]:=by rw[hA];rfl
 have hAn:A ps.length=K9 (ps.flatMap Z9):=by rw[hA,qi]
 refine PureC.is (Q7 hm hf (qh rfl) ?_) rfl
 unfold L0r.c
 simp[go_sem,Qw]
 refine Qs [.t 3 5] (α:=Nat) (λi=>i<=ps.length)
  (λi=>⟨[(3,.own 0 ((A i).length+1) 0 (A i).length),(9,Qw ps),(10,.i .i64 ps.length),(11,.i .i64 i)],[.arr ((A i).length+1) 5 ((A i).map E5.cs)]⟩)
  (λi=>ps.length-i) 0 (Nat.zero_le _) ?_ ?_
 ·simp[go_sem,Qw,hA0]
 ·intro i hi
  by_cases hil:i=ps.length
  ·subst hil
   rw[hAn]
   simp[go_sem,Qw]
   refine Qt (hcall _ 0 _ rfl) ?_
   have hd:=Qqg zs
   have ht:List.take (K9 (ps.flatMap Z9)).length (zs.map E5.cs)=zs.map E5.cs:=qe (by rw[List.length_map];omega)
   simp[go_sem,L0r.r,e5V,hyl,ht]
   rw[if_pos hd];rfl
  ·have hlt:i<ps.length:=by omega
   have hq:ps[i]?=some ps[i]:=q9 hlt
   have hln:=hps.len hq
   have hAs:A (i+1)=A i++K9 (Z9 ps[i]):=by rw[hA,hA,Qc hq,List.flatMap_append,Qcd];simp
   have hAl:=Bh ((ps.take i).flatMap Z9)
   rw[<- hA]at hAl
   generalize ps[i]=p at *
   obtain⟨_,hq'⟩:=q8.1 hq
   generalize A i=B at *
   simp (disch:=omega) [go_sem,Qw,psV,hlt,hq,hq',Q0]
   obtain⟨C,hC⟩:∃C:Nat->List E5,∀j,C j=B++K9 (E9 p j):=⟨_,λ_=>rfl⟩
   refine Qi (α:=Nat) (λj=>j<=p.length)
    (λj=>⟨[(3,.own 0 ((C j).length+1) 0 (C j).length),(5,.p 1 1 0 0),(9,Qw ps),(10,.i .i64 ps.length),(11,.i .i64 i),(16,psV p),(17,.i .i64 p.length),(18,.i .i64 j)],[.arr ((C j).length+1) 5 ((C j).map E5.cs),.arr 1 1 [[psV p]]]⟩)
    (λj=>p.length-j) 0 (Nat.zero_le _) ?_ ?_
   ·have hC0:C 0=B:=by rw[hC];simp[E9,K9]
    simp[go_sem,Qw,psV,hC0]
    exact Q56 B _
   ·intro j hj
    by_cases hjl:j=p.length
    ·subst hjl
     have hCn:C p.length=A (i+1):=by rw[hC,Qjf,hAs]
     rw[hCn]
     simp (disch:=omega) [go_sem,Qw,psV,Q0]
     exact⟨i+1,by omega,by omega,⟨rfl,by omega⟩,⟨rfl,rfl⟩,Q56 _ _⟩
    ·have hjt:j<p.length:=by omega
     have hCl:(C j).length<=4096:=by
      have h1:=Bh (E9 p j)
      have h2:(E9 p j).length<=p.length:=by unfold E9;rw[qv,Kf];omega
      rw[hC,j3];omega
     obtain⟨j2,a,b,hj2,hrem,ha,hb,hCs⟩:∃(j2:Nat) (a b:P2),j2<p.length/\((j:Int)+1).tmod (p.length:Int)=(j2:Int)/\p[j]?=some a/\p[j2]?=some b/\C (j+1)=C j++(I4 (a,b)).toList:=by
      have hm2:(j+1) % p.length<p.length:=Nat.mod_lt _ (by omega)
      refine⟨(j+1) % p.length,p[j],p[(j+1) % p.length],hm2,?_,q9 hjt,q9 hm2,?_⟩
      ·rw[jo (by omega)];simp
      ·rw[hC,hC,Qeo hjt,Qcd,<- qz,Qo5]
     obtain⟨_,ha'⟩:=q8.1 ha
     obtain⟨_,hb'⟩:=q8.1 hb
     have htc:List.take (C j).length ((C j).map E5.cs)=(C j).map E5.cs:=qe (by simp)
     have hp0:¬ p=[]:=by rintro rfl;simp at hjt
     unfold I4 at hCs
     simp only[]at hCs
     by_cases hab:a.y<b.y
     ·rw[if_pos hab]at hCs
      simp (disch:=omega) [go_sem,Qw,psV,hjt,ha,ha',hb,hb',hj2,hrem,hp0,P2.cs,hab,htc,Q0]
      exact⟨⟨by omega,by omega⟩,j+1,by omega,by omega,⟨by rw[hCs];simp,by omega⟩,⟨by rw[hCs];simp,by rw[hCs];simp[E5.cs]⟩,Q56 _ _⟩
     ·rw[if_neg hab]at hCs
      by_cases hba:b.y<a.y
      ·rw[if_pos hba]at hCs
       simp (disch:=omega) [go_sem,Qw,psV,hjt,ha,ha',hb,hb',hj2,hrem,hp0,P2.cs,hab,hba,htc,Q0]
       exact⟨⟨by omega,by omega⟩,j+1,by omega,by omega,⟨by rw[hCs];simp,by omega⟩,⟨by rw[hCs];simp,by rw[hCs];simp[E5.cs]⟩,Q56 _ _⟩
      ·rw[if_neg hba]at hCs
       simp at hCs
       simp (disch:=omega) [go_sem,Qw,psV,hjt,ha,ha',hb,hb',hj2,hrem,hp0,P2.cs,hab,hba,htc,Q0]
       exact⟨j+1,by omega,by omega,⟨by rw[hCs],by omega⟩,⟨by rw[hCs],by rw[hCs]⟩,Q56 _ _⟩
end
end Go.Abs
