/- Part of the library on which the proof stands: an abstract machine, its values and its soundness against the model; or what functions of the program do to such values. -/
import Derived.Test.YtnaehggpjfdenaaGreatAbsSS
import Derived.Test.YtnaehggpjfdenaaGreatGoTal
import Derived.Test.YtnaehggpjfdenaaGreatGoRsA
import Derived.Test.YtnaehggpjfdenaaGreatGoOri
set_option linter.unusedVariables false
set_option linter.unusedSimpArgs false
set_option maxHeartbeats 8000000
set_option maxRecDepth 20000
namespace Go.Abs
def L00.c (L02:FuncId):C :=(.seq (.reg [Ac 4 0]) (.seq (.reg [Am 7 0,Au 8 (.call L02 [.t 7]),Am 5 8]) (.seq (.reg [Am 9 1,Au 10 (.call L02 [.t 9]),Am 6 10]) (.seq (.seq (.reg [Am 11 5]) (.ite (.t 11) (.seq (.seq (.reg [Am 12 6]) (.ite (.t 12) (.seq (.reg [Ac 4 0]) .ret) .skip)) (.seq (.reg [Ac 4 (-1)]) .ret)) .skip)) (.seq (.seq (.reg [Am 13 6]) (.ite (.t 13) (.seq (.reg [Ac 4 1]) .ret) .skip)) (.seq (.seq (.reg [Am 14 0,Am 15 1,Aj .lss 16 14 15]) (.ite (.t 16) (.seq (.reg [Ac 4 (-1)]) .ret) .skip)) (.seq (.seq (.reg [Am 17 0,Am 18 1,Aj .gtr 19 17 18]) (.ite (.t 19) (.seq (.reg [Ac 4 1]) .ret)
 .skip)) (.seq (.reg [Ac 4 0]) .ret))))))))
def L00.r:List Rr:=[.tmp 4]
abbrev L00.n:Nat:=20
def L02.c:C :=(.seq (.reg [Ab 2 false]) (.seq (.reg [Am 3 0,Am 4 0,Aj .neq 5 3 4,Am 2 5]) .ret))
def L02.r:List Rr:=[.tmp 2]
abbrev L02.n:Nat:=6
def L01.c:C :=(.seq (.reg [Ac 2 0]) (.seq (.reg [Ac 3 0]) (.seq (.seq (.reg [Am 6 0,An 7 0 6,Ac 8 0]) (.blk 0 (.loop (.seq (.reg [Aj .lss 9 8 7]) (.seq (.ite (.t 9) .skip (.exit 0)) (.seq (.blk 1 (.seq (.reg [Ai 10 1 6 8,Al 11 10,Am 5 11]) (.seq (.reg [Am 12 5,Am 13 3,Aj .neq 14 12 13]) (.ite (.t 14) (.seq (.reg [Am 15 5,Am 2 15]) .ret) .skip)))) (.reg [Ad 16 8 1,Am 8 16]))))))) (.seq (.reg [Am 17 3,Am 2 17]) .ret))))
def L01.r:List Rr:=[.tmp 2]
abbrev L01.n:Nat:=18
def Iz (x y:Int):Int:=if x<y then -1 else if y<x then 1 else 0
def CmpC (P:Program) (f:FuncId):Prop:=∀x y:Int,CallIs P f [.i .i64 x,.i .i64 y] (.i .i64 (Iz x y))
def NaNC (P:Program) (f:FuncId):Prop:=∀x:Int,CallIs P f [.i .i64 x] (.b false)
theorem cmpI_lt (x y:Int):decide (Iz x y<0)=decide (x<y):=by
 unfold Iz
 by_cases h1:x<y
 ·simp[h1]
 ·by_cases h2:y<x<;>simp[h1,h2]
section
variable {P:Program} (hm:P.follows .mixedOrders=true)
include hm
theorem Qr7 {f:FuncId} (hf:Q9 P f L02.c L02.r L02.n):NaNC P f:=by
 intro x
 refine PureC.is (Q6 hm hf (qh rfl) ?_) rfl
 unfold L02.c
 simp[go_sem,L02.r]
theorem Qiz {f fn:FuncId} (hf:Q9 P f (L00.c fn) L00.r L00.n) (hn:NaNC P fn):CmpC P f:=by
 intro x y
 refine PureC.is (Q6 hm hf (qh rfl) ?_) rfl
 unfold L00.c
 simp[go_sem]
 refine Q4 (hn x) ?_
 simp[go_sem]
 refine Q4 (hn y) ?_
 by_cases h1:x<y
 ·simp[go_sem,h1,L00.r,Iz]
 ·by_cases h2:y<x<;>simp[go_sem,h1,h2,L00.r,Iz]
end
end Go.Abs
namespace Go.Abs
open Go.Sort
instance:Inhabited P2:=⟨⟨0,0⟩⟩
def P2.rev (e:P2):P2:=⟨e.y,e.x⟩
def P2.und (e:P2):P2:=⟨min e.x e.y,max e.x e.y⟩
def P2.ints (e:P2):List Int:=[e.x,e.y]
def Z8 (m:Mesh):List (P2 × Int):=if m.check=0 then Yj (Qd m.tris) else []
def Q7a (P:Program) (f:FuncId):Prop:=∀m:Mesh,NewC P f [m.enc] (λr h=>r=.mp 1/\h=[.dead,.mp ((Z8 m).map asV)])
def RevC (P:Program) (f:FuncId):Prop:=∀e:P2,CallIs P f [e.enc] e.rev.enc
def UndC (P:Program) (f:FuncId):Prop:=∀e:P2,CallIs P f [e.enc] e.und.enc
def OrC (P:Program) (f:FuncId):Prop:=∀x y:Int,CallIs P f [.l 1 [[.i .i64 x],[.i .i64 y]]] (.i .i64 (if x≠0 then x else y))
def Qnb (a b:P2):Int:=if Iz a.x b.x≠0 then Iz a.x b.x else Iz a.y b.y
def Qit (P:Program) (f:FuncId):Prop:=∀a b:P2,CallIs P f [a.enc,b.enc] (.i .i64 (Qnb a b))
theorem ltE (a b:P2):ltC Qnb a b=decide (P2.lt a b):=by
 unfold ltC Qnb Iz P2.lt
 by_cases h1:a.x<b.x
 ·simp[h1]
 ·by_cases h2:b.x<a.x
  ·simp[h1,h2];omega
  ·have h3:a.x=b.x:=by omega
   by_cases h4:a.y<b.y
   ·simp[h3,h4]
   ·by_cases h5:b.y<a.y<;>simp[h3,h4,h5]
theorem swoE:SWO (ltC Qnb) where
 irrefl x:=by rw[ltE];simp[P2.lt]
 trans x y z h1 h2:=by
  rw[ltE,decide_eq_true_eq]at *
  exact P2.lt_trans h1 h2
 ntrans x y z h1 h2:=by
  rw[ltE,decide_eq_false_iff_not]at *
  unfold P2.lt at *;omega
section
variable {P:Program} (hm:P.follows .mixedOrders=true)
include hm
theorem Q7l {f:FuncId} (hf:Q9 P f L2w.c L2w.r L2w.n):B4 P f:=Wn hm hf
theorem Q2r {f:FuncId} (hf:Q9 P f L2y.c L2y.r L2y.n):RevC P f:=by
 intro e
 refine PureC.is (Q6 hm hf (qh rfl) ?_) rfl
 unfold L2y.c
 simp[go_sem,P2.enc,P2.cs,L2y.r,P2.rev]
theorem I2 {f:FuncId} (hf:Q9 P f L2z.c L2z.r L2z.n):UndC P f:=by
 intro e
 refine PureC.is (Q6 hm hf (qh rfl) ?_) rfl
 unfold L2z.c
 simp[go_sem,P2.enc,P2.cs,L2z.r,P2.und,U2,Q6g]
theorem Or_ok {f:FuncId} (hf:Q9 P f L01.c L01.r L01.n):OrC P f:=by
 intro x y
 refine PureC.is (Q6 hm hf (qh rfl) ?_) rfl
 unfold L01.c
 simp[go_sem]
 refine Qc (α:=Nat) (λk=>k<=2/\(1<=k->x=0)/\(2<=k->y=0))
  (λk=>⟨[(3,.i .i64 0),(6,.l 1 [[.i .i64 x],[.i .i64 y]]),(7,.i .i64 2),(8,.i .i64 k)],[]⟩)
  (λk=>2-k) 0 ⟨by omega,by omega,by omega⟩ ?_ ?_
 ·simp[go_sem]
 ·rintro k ⟨hk,h1,h2⟩
  have w1:IntKind.i64.wrap 1=1:=rfl
  have w2:IntKind.i64.wrap 2=2:=rfl
  have:k=0∨k=1∨k=2:=by omega
  rcases this with rfl | rfl | rfl
  ·by_cases hx:x=0
   ·simp[go_sem,hx,w1]
    exact⟨1,⟨by omega,λh=>by omega⟩,by omega,rfl⟩
   ·simp[go_sem,hx,L01.r]
  ·have hx:=h1 (by omega)
   by_cases hy:y=0
   ·simp[go_sem,hx,hy,w2]
    exact⟨2,by omega,by omega,rfl⟩
   ·simp[go_sem,hx,hy,L01.r]
  ·have hx:=h1 (by omega)
   have hy:=h2 (by omega)
   simp[go_sem,hx,hy,L01.r]
theorem Q7k {f fc fo:FuncId} (hf:Q9 P f (L2x.c fc fo) L2x.r L2x.n) (hc:CmpC P fc) (ho:OrC P fo):Qit P f:=by
 intro a b
 refine PureC.is (Q6 hm hf (qh rfl) ?_) rfl
 unfold L2x.c
 simp[go_sem,P2.enc,P2.cs]
 refine Qg (hc a.x b.x) ?_
 simp[go_sem]
 refine Qg (hc a.y b.y) ?_
 simp[go_sem]
 refine Qg (ho _ _) ?_
 simp[go_sem,L2x.r,Qnb]
theorem Q2s {f fc fe:FuncId} (hf:Q9 P f (L2v.c fc fe) L2v.r L2v.n) (hc:X6 P fc) (he:B4 P fe):Q7a P f:=by
 intro m
 refine Qpt hm hf (qh rfl) ?_
 unfold L2v.c
 simp[go_sem,Mesh.enc,Mesh.cs]
 refine Q4 (hc m) ?_
 by_cases hz:m.check=0
 case neg =>
  have hT:Z8 m=[]:=by simp[Z8,hz]
  simp[go_sem,hz,L2v.r,hT]
 have hl:=(Mesh.check_zero.1 hz).2.1
 simp[go_sem,hz,tsV]
 refine Qc (α:=Nat) (λk=>k<=m.tris.length)
  (λk=>⟨[(3,.mp 1),(14,tsV m.tris),(15,.i .i64 m.tris.length),(16,.i .i64 k)],[.dead,.mp ((Yj (Qd (m.tris.take k))).map asV)]⟩)
  (λk=>m.tris.length-k) 0 (by omega) ?_ ?_
 ·simp[go_sem,tsV,Qd,Yj]
 ·intro k hk
  by_cases hkl:k=m.tris.length
  ·subst hkl
   rw[qi]
   have hT:Z8 m=Yj (Qd m.tris):=by simp[Z8,hz]
   simp[go_sem,tsV,L2v.r,hT]
   exact Xk _ 2
  ·have hlt:k<m.tris.length:=by omega
   have hp:m.tris[k]?=some m.tris[k]:=q9 hlt
   generalize m.tris[k]=t at hp
   obtain⟨_,hp'⟩:=q8.1 hp
   simp[go_sem,tsV,hlt,hp',tcs]
   refine Q4 (he t) ?_
   have hlen:(Q8 t).length<=3:=Xi t 3
   have hE:=Q2m m.tris k
   generalize hA:Qd (m.tris.take k)=A0
   simp[go_sem,psV]
   refine Qc (α:=Nat) (λj=>j<=(Q8 t).length)
    (λj=>⟨[(3,.mp 1),(14,tsV m.tris),(15,.i .i64 m.tris.length),(16,.i .i64 k),(21,psV (Q8 t)),(22,.i .i64 (Q8 t).length),(23,.i .i64 j)],[.dead,.mp ((Yj (A0++(Q8 t).take j)).map asV)]⟩)
    (λj=>(Q8 t).length-j) 0 (by omega) ?_ ?_
   ·simp[go_sem,tsV,psV]
    exact Xk _ 2
   ·intro j hj
    by_cases hjl:j=(Q8 t).length
    ·subst hjl
     simp (disch:=omega) [go_sem,tsV,psV,Q0]
     exact⟨k+1,by omega,by omega,by omega,by rw[X5 hp,hA],Xk _ 2⟩
    ·have hjlt:j<(Q8 t).length:=by omega
     have hq:(Q8 t)[j]?=some (Q8 t)[j]:=q9 hjlt
     have htk:(Q8 t).take (j+1)=(Q8 t).take j++[(Q8 t)[j]]:=by rw[List.take_add_one,hq];rfl
     generalize (Q8 t)[j]=e at hq htk
     obtain⟨_,hq'⟩:=q8.1 hq
     have hS1:A0++(Q8 t).take (j+1)=(A0++(Q8 t).take j)++[e]:=by rw[htk,<- j6]
     generalize hS:A0++(Q8 t).take j=S at hS1
     have hT1:=W2 S e
     rw[<- hS1]at hT1
     generalize hL:Yj S=L at hT1
     have h1:=Jq e L
     unfold Qfy at hT1
     cases hfn:fnd e L with
     | some p =>
       obtain⟨i,n⟩:=p
       rw[hfn]at h1 hT1
       simp only[Option.map_some]at h1
       simp only at hT1
       have hn:n=S.count e:=by
        have:=Q0f S e
        rw[hL,val,hfn]at this
        exact this
       have hcl:S.count e<=S.length:=List.count_le_length
       have hSl:S.length<=3*4096:=by
        rw[<- hS,<- hA,j7,qv];omega
       have h3:fnd e (L.set i (e,n+1))=some (i,n+1):=(Wb (n':=n+1) hfn).2
       have hil:i<L.length:=(q8.1 (Wb (n':=n+1) hfn).1).1
       have hil':i<(List.map asV L).length:=by simpa using hil
       have wn:IntKind.i64.wrap (n+1)=n+1:=Q0 (by omega) (by omega)
       simp[go_sem,psV,hjlt,hq',pcs,h1,wn,qm hil',List.set_set]
       refine⟨j+1,by omega,by omega,⟨.inr rfl,Q0 (by omega) (by omega)⟩,?_,Xk _ 2⟩
       rw[hT1,List.map_set];rfl
     | none =>
       rw[hfn]at h1 hT1
       simp only[Option.map_none]at h1
       have w1:IntKind.i64.wrap 1=1:=rfl
       simp only at hT1
       simp[go_sem,psV,hjlt,hq',pcs,h1,w1]
       refine⟨j+1,by omega,by omega,⟨.inr rfl,Q0 (by omega) (by omega)⟩,?_,Xk _ 2⟩
       rw[hT1,qx];rfl
end
end Go.Abs
namespace Go.Abs
open Go.Sort
def bordE (E:List P2) (e:P2):Bool:=decide (E.count e.rev<E.count e)
def border (E:List P2):List P2:=Uh (E.filter (bordE E))
def Mesh.border (m:Mesh):List P2:=if m.check=0 then Go.Abs.border (Qd m.tris) else []
def Mesh.closed (m:Mesh):Bool:=decide (m.check=0) && decide (m.border=[])
def Q2b (P:Program) (f:FuncId):Prop:=∀m:Mesh,CallIs P f [m.enc] (psV m.border)
def Qd6 (P:Program) (f:FuncId):Prop:=∀m:Mesh,CallIs P f [m.enc] (.b m.closed)
def Mesh.use (m:Mesh) (e:P2):Int:=if m.check=0 then (Qd m.tris).count e else 0
theorem sh_asV (L:List (P2 × Int)) (n:Nat):(O.mp (L.map asV)).sh n=.mp (L.map asV):=by
 simp[O.sh,asV,V.sh2,V.sh1,V.sh0]
theorem Qgf (m:Mesh) (e:P2):val e (Z8 m)=m.use e:=by
 unfold Z8 Mesh.use
 split
 ·exact Q0f _ _
 ·rfl
theorem Q4o {m:Mesh} {i:Nat} {e:P2} {n:Int} (h:(Z8 m)[i]?=some (e,n)):m.check=0/\e∈Qd m.tris/\n=m.use e:=by
 unfold Z8 at h
 split at h
 ·rename_i hz
  have:=Q8x h
  exact⟨hz,this.1,by simp[Mesh.use,hz,this.2]⟩
 ·simp at h
theorem Qkk {m:Mesh} {e:P2} (hz:m.check=0) (h:e∈Qd m.tris):∃i:Nat,(Z8 m)[i]?=some (e,m.use e):=by
 unfold Z8 Mesh.use
 rw[if_pos hz,if_pos hz]
 exact Qop h
theorem Qad (m:Mesh):((Z8 m).map Prod.fst).Nodup:=by
 unfold Z8
 split
 ·exact(W3 _).1
 ·simp
theorem Qgi (m:Mesh):(Z8 m).length<=12288:=by
 unfold Z8
 split
 ·rename_i hz
  have h1:=(W3 (Qd m.tris)).2
  have h3:=Q2m m.tris m.tris.length
  rw[qi]at h3
  have h4:=(Mesh.check_zero.1 hz).2.1
  have h5:∀E:List P2,(Yj E).length<=E.length:=by
   refine Q46 (by simp[Yj]) λE x ih=>?_
   rw[W2]
   unfold Qfy
   split<;>simp<;>omega
  have:=h5 (Qd m.tris)
  omega
 ·simp
theorem mem_border {m:Mesh} {e:P2}:e∈m.border↔m.check=0/\e∈Qd m.tris/\m.use e.rev<m.use e:=by
 unfold Mesh.border Mesh.use
 by_cases hz:m.check=0
 ·simp only[if_pos hz]
  unfold Go.Abs.border bordE
  rw[Ur,qu]
  simp[hz]
 ·simp[hz]
theorem Qif (m:Mesh):asc m.border:=by
 unfold Mesh.border
 split
 ·exact E9 _
 ·simp[asc]
theorem Qlt {L:List (P2 × Int)} (h:(L.map Prod.fst).Nodup) {i j:Nat} {e:P2} {n n':Int} (hi:L[i]?=some (e,n)) (hj:L[j]?=some (e,n')):i=j:=by
 have h1:=Wc h hi
 have h2:=Wc h hj
 rw[h1]at h2
 simp at h2;exact h2.1
def BInv (m:Mesh) (p:List Nat × List P2):Prop:=p.2.Nodup/\p.2.length<=p.1.length/\p.1.length<=(Z8 m).length-left (Z8 m).length p.1/\(∀i∈p.1,i<(Z8 m).length)/\∀x,x∈p.2↔∃i∈p.1,∃n,(Z8 m)[i]?=some (x,n)/\m.use x.rev<m.use x
section
variable {P:Program} (hm:P.follows .mixedOrders=true)
include hm
theorem Q0h {f fc fr fs fo:FuncId} (hf:Q9 P f (L2s.c fc fr fs fo) L2s.r L2s.n) (hc:Q7a P fc) (hr:RevC P fr) (hs:Ui P fs 2) (ho:Qit P fo) (hcal:Qv P fo=true):Q2b P f:=by
 intro m
 refine PureC.is (Q6 hm hf (qh rfl) ?_) rfl
 unfold L2s.c
 have hLl:=Qgi m
 simp[go_sem,Mesh.enc,Mesh.cs]
 refine Qa9 (hc m) rfl ?_
 simp only[List.map_cons,List.map_nil,sh_asV]
 simp[go_sem]
 refine Qx [.t 4 2] (α:=List Nat × List P2) (BInv m)
  (λp=>⟨[(3,.mp 2),(4,.own 4 (p.2.length+1) 0 p.2.length),(10,.p 3 1 0 0)],[.dead,.dead,.mp ((Z8 m).map asV),.it (some 2) (Z8 m).length p.1,.arr (p.2.length+1) 2 (p.2.map P2.cs)]⟩)
  (λp=>left (Z8 m).length p.1) ([],[]) ⟨by simp,by simp,by simp[left],by simp,by simp⟩ ?_ ?_
 ·simp[go_sem]
  exact Xk _ 5
 ·rintro⟨seen,out⟩ ⟨hnd,hol,hsl,hsr,hmem⟩
  simp only at hnd hol hsl hsr hmem
  simp[go_sem,Mnx]
  refine⟨λhall=>?_,?_⟩
  ·obtain⟨ys,hperm,hup,hcall⟩:=hs P2.ints (λ_=>rfl) Qnb swoE fo hcal (λa b=>ho a b) out (by omega)
   have hys:ys=m.border:=by
    rw[Qfv hperm hnd (hup.imp (by intro a b h;rw[ltE]at h;simpa using h))]
    refine Qcm (E9 _) (Qif m) λx=>?_
    rw[Ur,hmem,mem_border]
    constructor
    ·rintro⟨i,_,n,h1,h2⟩
     have:=Q4o h1
     exact⟨this.1,this.2.1,h2⟩
    ·rintro⟨h1,h2,h3⟩
     obtain⟨i,hi⟩:=Qkk h1 h2
     exact⟨i,hall i (q8.1 hi).1,_,hi,h3⟩
   refine Qy (hcall _ 4 _ rfl) ?_
   subst hys
   have hl2:m.border.length=out.length:=hperm.length_eq
   have hy2:m.border.map (λx=>x.ints.map (V.i .i64))=m.border.map P2.cs:=rfl
   rw[hy2]
   have ht:List.take out.length (m.border.map P2.cs)=m.border.map P2.cs:=qe (by simp[hl2])
   simp[go_sem,L2s.r,psV,Qpo,hl2,ht]
  ·rintro i a b e n hi hab hni
   simp only[asV,Prod.mk.injEq]at hab
   obtain⟨rfl,rfl⟩:=hab
   have hil:i<(Z8 m).length:=(q8.1 hi).1
   have hg:=Q4o hi
   simp[go_sem,hi,asV]
   refine Q4 (hr e) ?_
   have h1:Qn [1,1] (V.a [V.i .i64 e.y,V.i .i64 e.x]) ((Z8 m).map asV)=_:=Jq e.rev (Z8 m)
   have hv:=Qgf m e.rev
   have hleft:=Qjp hil hni
   have hleft2:left (Z8 m).length seen<=(Z8 m).length:=by
    unfold left
    have:=jc (λi=>!seen.contains i) (List.range (Z8 m).length)
    simpa using this
   have hinv:∀out':List P2,(out'.Nodup/\out'.length<=seen.length+1/\∀x,x∈out'↔x∈out∨(x=e/\m.use e.rev<m.use e)) ->
     BInv m (seen++[i],out'):=by
    rintro out' ⟨q1,q2,q3⟩
    refine⟨q1,by simpa using q2,by simp only[j7,List.length_cons,List.length_nil];omega,λj hj=>?_,λx=>?_⟩
    ·rcases qg.1 hj with h | h
     ·exact hsr j h
     ·simp at h;omega
    ·rw[q3,hmem]
     constructor
     ·rintro (⟨j,h1,n',h2,h3⟩ | ⟨rfl,h3⟩)
      ·exact⟨j,by simp[h1],n',h2,h3⟩
      ·exact⟨i,by simp,n,hi,h3⟩
     ·rintro⟨j,h1,n',h2,h3⟩
      rcases qg.1 h1 with h | h
      ·exact .inl ⟨j,h,n',h2,h3⟩
      ·simp at h
       subst h
       rw[hi]at h2
       simp at h2
       obtain⟨rfl,rfl⟩:=h2
       exact .inr ⟨rfl,h3⟩
   have hein:e∉out:=by
    rw[hmem]
    rintro⟨j,h1,n',h2,_⟩
    have:=Qlt (Qad m) hi h2
    subst this
    exact hni h1
   have hn:=hg.2.2
   have hi1:=hinv (out++[e])
   have hi2:=hinv out
   cases hfn:fnd e.rev (Z8 m) with
   | none =>
     rw[hfn]at h1
     rw[val,hfn]at hv
     simp only at hv
     simp only[Option.map_none]at h1
     by_cases hlt:0<n
     ·simp (disch:=omega) [go_sem,h1,P2.rev,P2.enc,P2.cs,hlt]
      refine⟨by omega,seen++[i],out++[e],hi1 ⟨?_,by simp;omega,λx=>?_⟩,hleft,?_⟩
      ·rw[List.nodup_append]
       exact⟨hnd,by simp,λa ha b hb=>by simp at hb;subst hb;rintro rfl;exact hein ha⟩
      ·rw[qg,qn]
       have:m.use e.rev<m.use e:=by omega
       simp[this]
      ·simp[pcs]
       exact Xk _ 5
     ·simp (disch:=omega) [go_sem,h1,P2.rev,P2.enc,P2.cs,hlt]
      refine⟨seen++[i],out,hi2 ⟨hnd,by omega,λx=>?_⟩,hleft,?_⟩
      ·have:¬ m.use e.rev<m.use e:=by omega
       simp[this]
      ·exact⟨rfl,Xk _ 5,rfl,rfl,rfl⟩
   | some p =>
     obtain⟨j,n'⟩:=p
     rw[hfn]at h1
     rw[val,hfn]at hv
     simp only at hv
     simp only[Option.map_some]at h1
     by_cases hlt:n'<n
     ·simp (disch:=omega) [go_sem,h1,P2.rev,P2.enc,P2.cs,hlt]
      refine⟨by omega,seen++[i],out++[e],hi1 ⟨?_,by simp;omega,λx=>?_⟩,hleft,?_⟩
      ·rw[List.nodup_append]
       exact⟨hnd,by simp,λa ha b hb=>by simp at hb;subst hb;rintro rfl;exact hein ha⟩
      ·rw[qg,qn]
       have:m.use e.rev<m.use e:=by omega
       simp[this]
      ·simp[pcs]
       exact Xk _ 5
     ·simp (disch:=omega) [go_sem,h1,P2.rev,P2.enc,P2.cs,hlt]
      refine⟨seen++[i],out,hi2 ⟨hnd,by omega,λx=>?_⟩,hleft,?_⟩
      ·have:¬ m.use e.rev<m.use e:=by omega
       simp[this]
      ·exact⟨rfl,Xk _ 5,rfl,rfl,rfl⟩
theorem Q4n {f fc fb:FuncId} (hf:Q9 P f (L2t.c fc fb) L2t.r L2t.n) (hc:X6 P fc) (hb:Q2b P fb):Qd6 P f:=by
 intro m
 refine PureC.is (Q6 hm hf (qh rfl) ?_) rfl
 unfold L2t.c
 simp[go_sem,Mesh.enc,Mesh.cs]
 refine Q4 (hc m) ?_
 by_cases h:m.check=0
 ·simp[go_sem,h]
  refine Q4 (hb m) ?_
  simp[go_sem,psV,L2t.r,Mesh.closed,h]
  rw[Bool.eq_iff_iff];simp
 ·have h':(m.check == 0)=false:=by simpa using h
  simp[go_sem,h,h',L2t.r,Mesh.closed]
end
theorem Qii {n:Nat} {h l:List O} (hc:∀o∈h,o.cl n):WeakH n (h++l) h:=by
 have:=Qz (n:=n) (a:=l) (b:=[]) hc (by cases l<;>trivial)
 rwa [List.append_nil]at this
theorem Xl {h l:List O} {id:Nat} {o:O} (ho:h[id]?=some o):(h++l)[id]?=some o:=by
 rw[qd (q8.1 ho).1,ho]
theorem Q20 {h:List O} (l:List O) {id:Nat} (hid:id<h.length) (o:O):(h++l).set id o=h.set id o++l:=List.set_append_left _ _ hid
def Mesh.edgesL (m:Mesh):List P2:=if m.check=0 then Uh ((Qd m.tris).map P2.und) else []
theorem Qa {α:Type} {l:List α} {k:Nat} {x:α} (h:l[k]?=some x):l.take (k+1)=l.take k++[x]:=by rw[List.take_add_one,h];rfl
structure PolyOk (ps:List (List P2)):Prop where
 num:ps.length<=4096
 cnt:(ps.flatMap Qs).length<=4096
 bd:EgB (ps.flatMap Qs) 65536
theorem Q6z (ps:List (List P2)) (p:List P2):((ps++[p]).flatMap Qs).length=(ps.flatMap Qs).length+p.length:=by
 rw[List.flatMap_append,j7]
 simp[Jl]
theorem Qmq (ps:List (List P2)) (k:Nat):((ps.take k).flatMap Qs).length<=(ps.flatMap Qs).length:=by
 conv=>rhs;rw[<- List.take_append_drop k ps]
 rw[List.flatMap_append,j7]
 omega
theorem PolyOk.len {ps:List (List P2)} (h:PolyOk ps) {k:Nat} {p:List P2} (hp:ps[k]?=some p):((ps.take k).flatMap Qs).length+p.length<=4096:=by
 have h1:=Qmq ps (k+1)
 rw[Qa hp,Q6z]at h1
 have:=h.cnt
 omega
theorem PolyOk.pt {ps:List (List P2)} (h:PolyOk ps) {p:List P2} (hp:p∈ps) {v:P2} (hv:v∈p):(-65536<=v.x/\v.x<=65536)/\-65536<=v.y/\v.y<=65536:=by
 rw[<- Q0s p]at hv
 obtain⟨e,he,rfl⟩:=qo.1 hv
 obtain⟨a,b,_⟩:=h.bd e (jq.2 ⟨p,hp,he⟩)
 exact⟨a,b⟩
def Ec (P:Program) (f:FuncId):Prop:=∀(ps:List (List P2)) (k:Int),PolyOk ps->CallIs P f [Qb ps,.i .i64 k] (.i .i64 (if Za k 32 1024 then 0 else 1))
def Qu8 (P:Program) (f:FuncId):Prop:=∀a b:E5,E5B a->E5B b->CallIs P f [.a a.cs,.a b.cs] (.i .i64 (a.lo.y-b.lo.y))
def StB (s:Int × Int):Prop:=(-100000000000<=s.1/\s.1<=100000000000)/\-1<=s.2/\s.2<=1
def stC (s:Int × Int):List V:=[.i .i64 s.1,.i .i64 s.2]
def Qu7 (P:Program) (f:FuncId):Prop:=∀a b:Int × Int,StB a->StB b->CallIs P f [.a (stC a),.a (stC b)] (.i .i64 (b.1-a.1))
section
variable {P:Program} (hm:P.follows .mixedOrders=true)
include hm
theorem Bh {f:FuncId} (hf:Q9 P f L0s.c L0s.r L0s.n):Qu8 P f:=by
 intro a b ha hb
 obtain⟨_,_,a1,a2,_,_,_,_,_,_,_⟩:=ha
 obtain⟨_,_,b1,b2,_,_,_,_,_,_,_⟩:=hb
 refine PureC.is (Q6 hm hf (qh rfl) ?_) rfl
 unfold L0s.c
 have w:=Q0 (z:=a.lo.y-b.lo.y) (by omega) (by omega)
 simp[go_sem,E5.cs,w,L0s.r]
theorem Q36 {f:FuncId} (hf:Q9 P f L0u.c L0u.r L0u.n):Qu7 P f:=by
 intro a b ha hb
 obtain⟨⟨a1,a2⟩,_⟩:=ha
 obtain⟨⟨b1,b2⟩,_⟩:=hb
 refine PureC.is (Q6 hm hf (qh rfl) ?_) rfl
 unfold L0u.c
 have w:=Q0 (z:=b.1-a.1) (by omega) (by omega)
 simp[go_sem,stC,w,L0u.r]
theorem Q39 {f:FuncId} (hf:Q9 P f L0p.c L0p.r L0p.n):Ec P f:=by
 intro ps k hps
 have hpl:=hps.num
 refine PureC.is (Q6 hm hf (qh rfl) ?_) rfl
 unfold L0p.c
 by_cases hlo:k<32
 ·have he:Za k 32 1024=false:=by unfold Za;simp[show ¬ 32<=k by omega]
  simp[go_sem,hlo,he,L0p.r]
 by_cases hhi:1024<k
 ·have he:Za k 32 1024=false:=by unfold Za;simp[show ¬ k<=1024 by omega]
  simp[go_sem,hlo,hhi,he,L0p.r]
 have ht:k.tmod 2=k % 2:=jr (by omega)
 by_cases hev:k % 2=0
 case neg =>
  have he:Za k 32 1024=false:=by unfold Za;simp[hev]
  have hb:(k.tmod 2 != 0)=true:=by rw[ht];simpa using hev
  have w:=Q0 (z:=k.tmod 2) (by omega) (by omega)
  rw[ht]at w hb
  simp[go_sem,hlo,hhi,ht,w,hb,hev,he,L0p.r]
  done
 have he:Za k 32 1024=true:=by unfold Za;simp[hev];omega
 simp[go_sem,hlo,hhi,ht,hev,he,Qb]
 obtain⟨tot,htot⟩:∃tot:Nat->Nat,∀i,tot i=((ps.take i).flatMap Qs).length:=⟨_,λ_=>rfl⟩
 have htot0:tot 0=0:=by rw[htot];rfl
 refine Qc (α:=Nat) (λi=>i<=ps.length)
  (λi=>⟨[(0,Qb ps),(5,.i .i64 (tot i)),(23,Qb ps),(24,.i .i64 ps.length),(25,.i .i64 i)],[]⟩)
  (λi=>ps.length-i) 0 (Nat.zero_le _) ?_ ?_
 ·simp[go_sem,Qb,htot0]
 ·intro i hi
  by_cases hil:i=ps.length
  case neg =>
   have hlt:i<ps.length:=by omega
   have hq:ps[i]?=some ps[i]:=q9 hlt
   have hln:=hps.len hq
   have hft:=Q6z (ps.take i) ps[i]
   rw[<- Qa hq,<- htot,<- htot]at hft
   rw[<- htot]at hln
   generalize ps[i]=p at *
   obtain⟨_,hq'⟩:=q8.1 hq
   simp (disch:=omega) [go_sem,Qb,psV,hlt,hq,hq',Q0]
   exact⟨i+1,by omega,by omega,by omega,by omega⟩
  subst hil
  have hcnt:=hps.cnt
  have hN:=htot ps.length
  rw[qi]at hN
  rw[<- hN]at hcnt
  generalize tot ps.length=N at *
  simp[go_sem,Qb,show ¬ (16384:Int)<N by omega]
  refine Qc (α:=Nat) (λi=>i<=ps.length)
   (λi=>⟨[(37,Qb ps),(38,.i .i64 ps.length),(39,.i .i64 i)],[]⟩)
   (λi=>ps.length-i) 0 (Nat.zero_le _) ?_ ?_
  ·simp[go_sem,Qb]
  intro i hi
  by_cases hil:i=ps.length
  ·subst hil
   simp[go_sem,Qb,L0p.r]
  have hlt:i<ps.length:=by omega
  have hq:ps[i]?=some ps[i]:=q9 hlt
  have hln:=hps.len hq
  have hpt:∀v∈ps[i],_:=λv hv=>hps.pt (qb hq) hv
  generalize ps[i]=p at *
  obtain⟨_,hq'⟩:=q8.1 hq
  simp (disch:=omega) [go_sem,Qb,psV,hlt,hq,hq',Q0]
  refine Qc (α:=Nat) (λj=>j<=p.length)
   (λj=>⟨[(37,Qb ps),(38,.i .i64 ps.length),(39,.i .i64 i),(44,.l 2 (p.map P2.cs)),(45,.i .i64 p.length),(46,.i .i64 j)],[]⟩)
   (λj=>p.length-j) 0 (Nat.zero_le _) ?_ ?_
  ·simp[go_sem,Qb,psV]
  intro j hj
  by_cases hjl:j=p.length
  ·subst hjl
   simp (disch:=omega) [go_sem,Qb,psV,Q0]
   exact⟨i+1,by omega,by omega,by omega⟩
  have hjt:j<p.length:=by omega
  have hv:p[j]?=some p[j]:=q9 hjt
  have hvb:=hpt _ (qb hv)
  generalize p[j]=v at *
  obtain⟨_,hv'⟩:=q8.1 hv
  simp (disch:=omega) [go_sem,Qb,hjt,hv,hv',P2.cs,show ¬ v.x < -65536 by omega,show ¬ 65536<v.x by omega,show ¬ v.y < -65536 by omega,show ¬ 65536<v.y by omega,Q0]
  exact⟨j+1,by omega,by omega,by omega⟩
end
abbrev Qut:={ e:E5 // E5B e }
instance:Inhabited Qut:=⟨⟨⟨⟨0,0⟩,⟨0,1⟩,0⟩,by constructor<;>decide⟩⟩
def Q9w (a b:Qut):Int:=a.1.lo.y-b.1.lo.y
theorem Qna:Go.Sort.SWO (ltC Q9w) where
 irrefl x:=by unfold ltC Q9w;simp
 trans x y z:=by unfold ltC Q9w;simp only[decide_eq_true_eq];omega
 ntrans x y z:=by unfold ltC Q9w;simp only[decide_eq_false_iff_not];omega
theorem Qso (l:List E5):∀e∈l,∀y∈e.cs,y.isD=true:=λe _ y hy=>by
 simp[E5.cs]at hy
 rcases hy with rfl | rfl | rfl | rfl | rfl<;>rfl
theorem Q71 (l:List E5) (n:Nat):∀e∈l,∀y∈e.cs,y.cl n=true:=λe he y hy=>Kg n (Qso l e he y hy)
def Kf (es:List Eg):List E5:=es.filterMap Il
theorem Qep (a b:List Eg):Kf (a++b)=Kf a++Kf b:=List.filterMap_append
theorem Qqb (e:Eg):Kf [e]=(Il e).toList:=by
 unfold Kf
 rw[List.filterMap_cons]
 cases Il e<;>rfl
theorem Bv (a:List Eg):(Kf a).length<=a.length:=List.length_filterMap_le _ _
def Qd2 (P:Program) (f:FuncId):Prop:=∀ps:List (List P2),PolyOk ps->∃l:List E5,l.Perm (Kf (ps.flatMap Qs))/\l.Pairwise (λa b=>a.lo.y<=b.lo.y)/\CallIs P f [Qb ps] (e5V l)
section
variable {P:Program} (hm:P.follows .mixedOrders=true)
include hm
theorem Q37 {f fs fc:FuncId} (hf:Q9 P f (L0r.c fs fc) L0r.r L0r.n) (hs:Ui P fs 5) (hc:Qu8 P fc) (hcal:Qv P fc=true):Qd2 P f:=by
 intro ps hps
 have hpl:=hps.num
 have hcnt:=hps.cnt
 have hLB:∀e∈Kf (ps.flatMap Qs),E5B e:=λe he=>Qhe hps.bd he
 have hLl:=Bv (ps.flatMap Qs)
 obtain⟨ys,hperm,hup,hcall⟩:=hs (λr:Qut=>r.1.ints) (λ_=>rfl) Q9w Qna fc hcal (λa b=>hc a.1 b.1 a.2 b.2) ((Kf (ps.flatMap Qs)).pmap Subtype.mk hLB) (by rw[List.length_pmap];omega)
 have hxs:((Kf (ps.flatMap Qs)).pmap Subtype.mk hLB).map Subtype.val=Kf (ps.flatMap Qs):=by rw[List.map_pmap];simp
 have hp2:=hperm.map Subtype.val
 rw[hxs]at hp2
 refine⟨ys.map Subtype.val,hp2,?_,?_⟩
 ·rw[ji]
  refine hup.imp λ{a b} h=>?_
  unfold ltC Q9w at h
  simp only[decide_eq_false_iff_not]at h
  omega
 have hyl:(ys.map Subtype.val).length=(Kf (ps.flatMap Qs)).length:=hp2.length_eq
 have hyy:ys.map (λx:Qut=>x.1.ints.map (V.i .i64))=(ys.map Subtype.val).map E5.cs:=by rw[List.map_map];rfl
 have hxx:((Kf (ps.flatMap Qs)).pmap Subtype.mk hLB).map (λx:Qut=>x.1.ints.map (V.i .i64))=(Kf (ps.flatMap Qs)).map E5.cs:=by
  conv=>rhs;rw[<- hxs]
  rw[List.map_map];rfl
 rw[hyy,hxx]at hcall
 rw[List.length_pmap]at hcall
 generalize ys.map Subtype.val=zs at *
 clear hup hperm hxs hxx hyy hLB
 obtain⟨A,hA⟩:∃A:Nat->List E5,∀i,A i=Kf ((ps.take i).flatMap Qs):=⟨_,λ_=>rfl⟩
 have hA0:A 0=[]:=by rw[hA];rfl
 have hAn:A ps.length=Kf (ps.flatMap Qs):=by rw[hA,qi]
 refine PureC.is (Q6 hm hf (qh rfl) ?_) rfl
 unfold L0r.c
 simp[go_sem,Qb]
 refine Qx [.t 3 5] (α:=Nat) (λi=>i<=ps.length)
  (λi=>⟨[(3,.own 0 ((A i).length+1) 0 (A i).length),(9,Qb ps),(10,.i .i64 ps.length),(11,.i .i64 i)],[.arr ((A i).length+1) 5 ((A i).map E5.cs)]⟩)
  (λi=>ps.length-i) 0 (Nat.zero_le _) ?_ ?_
 ·simp[go_sem,Qb,hA0]
 ·intro i hi
  by_cases hil:i=ps.length
  ·subst hil
   rw[hAn]
   simp[go_sem,Qb]
   refine Qy (hcall _ 0 _ rfl) ?_
   have hd:=Qso zs
   have ht:List.take (Kf (ps.flatMap Qs)).length (zs.map E5.cs)=zs.map E5.cs:=qe (by rw[List.length_map];omega)
   simp[go_sem,L0r.r,e5V,hyl,ht]
   rw[if_pos hd];rfl
  ·have hlt:i<ps.length:=by omega
   have hq:ps[i]?=some ps[i]:=q9 hlt
   have hln:=hps.len hq
   have hAs:A (i+1)=A i++Kf (Qs ps[i]):=by rw[hA,hA,Qa hq,List.flatMap_append,Qep];simp
   have hAl:=Bv ((ps.take i).flatMap Qs)
   rw[<- hA]at hAl
   generalize ps[i]=p at *
   obtain⟨_,hq'⟩:=q8.1 hq
   generalize A i=B at *
   simp (disch:=omega) [go_sem,Qb,psV,hlt,hq,hq',Q0]
   obtain⟨C,hC⟩:∃C:Nat->List E5,∀j,C j=B++Kf (Jw p j):=⟨_,λ_=>rfl⟩
   refine Qc (α:=Nat) (λj=>j<=p.length)
    (λj=>⟨[(3,.own 0 ((C j).length+1) 0 (C j).length),(5,.p 1 1 0 0),(9,Qb ps),(10,.i .i64 ps.length),(11,.i .i64 i),(16,psV p),(17,.i .i64 p.length),(18,.i .i64 j)],[.arr ((C j).length+1) 5 ((C j).map E5.cs),.arr 1 1 [[psV p]]]⟩)
    (λj=>p.length-j) 0 (Nat.zero_le _) ?_ ?_
   ·have hC0:C 0=B:=by rw[hC];simp[Jw,Kf]
    simp[go_sem,Qb,psV,hC0]
    exact Q71 B _
   ·intro j hj
    by_cases hjl:j=p.length
    ·subst hjl
     have hCn:C p.length=A (i+1):=by rw[hC,Q95,hAs]
     rw[hCn]
     simp (disch:=omega) [go_sem,Qb,psV,Q0]
     exact⟨i+1,by omega,by omega,⟨rfl,by omega⟩,⟨rfl,rfl⟩,Q71 _ _⟩
    ·have hjt:j<p.length:=by omega
     have hCl:(C j).length<=4096:=by
      have h1:=Bv (Jw p j)
      have h2:(Jw p j).length<=p.length:=by unfold Jw;rw[qv,Jl];omega
      rw[hC,j7];omega
     obtain⟨j2,a,b,hj2,hrem,ha,hb,hCs⟩:∃(j2:Nat) (a b:P2),j2<p.length/\((j:Int)+1).tmod (p.length:Int)=(j2:Int)/\p[j]?=some a/\p[j2]?=some b/\C (j+1)=C j++(Il (a,b)).toList:=by
      have hm2:(j+1) % p.length<p.length:=Nat.mod_lt _ (by omega)
      refine⟨(j+1) % p.length,p[j],p[(j+1) % p.length],hm2,?_,q9 hjt,q9 hm2,?_⟩
      ·rw[jr (by omega)];simp
      ·rw[hC,hC,Q59 hjt,Qep,<- j6,Qqb]
     obtain⟨_,ha'⟩:=q8.1 ha
     obtain⟨_,hb'⟩:=q8.1 hb
     have htc:List.take (C j).length ((C j).map E5.cs)=(C j).map E5.cs:=qe (by simp)
     have hp0:¬ p=[]:=by rintro rfl;simp at hjt
     unfold Il at hCs
     simp only[]at hCs
     by_cases hab:a.y<b.y
     ·rw[if_pos hab]at hCs
      simp (disch:=omega) [go_sem,Qb,psV,hjt,ha,ha',hb,hb',hj2,hrem,hp0,P2.cs,hab,htc,Q0]
      exact⟨⟨by omega,by omega⟩,j+1,by omega,by omega,⟨by rw[hCs];simp,by omega⟩,⟨by rw[hCs];simp,by rw[hCs];simp[E5.cs]⟩,Q71 _ _⟩
     ·rw[if_neg hab]at hCs
      by_cases hba:b.y<a.y
      ·rw[if_pos hba]at hCs
       simp (disch:=omega) [go_sem,Qb,psV,hjt,ha,ha',hb,hb',hj2,hrem,hp0,P2.cs,hab,hba,htc,Q0]
       exact⟨⟨by omega,by omega⟩,j+1,by omega,by omega,⟨by rw[hCs];simp,by omega⟩,⟨by rw[hCs];simp,by rw[hCs];simp[E5.cs]⟩,Q71 _ _⟩
      ·rw[if_neg hba]at hCs
       simp at hCs
       simp (disch:=omega) [go_sem,Qb,psV,hjt,ha,ha',hb,hb',hj2,hrem,hp0,P2.cs,hab,hba,htc,Q0]
       exact⟨j+1,by omega,by omega,⟨by rw[hCs],by omega⟩,⟨by rw[hCs],by rw[hCs]⟩,Q71 _ _⟩
end
end Go.Abs
