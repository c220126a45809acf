/- Part of the library on which the proof stands: an abstract machine, its values and its soundness against the model; or what functions of the program do to such values. -/
import Derived.Test.YtcdjgldeiaiaoaaGreatAbsSS
import Derived.Test.YtcdjgldeiaiaoaaGreatGoTal
set_option linter.unusedVariables false
set_option linter.unusedSimpArgs false
namespace Go.Abs
def cmp_Compare_int.c (cmp_isNaN_int:FuncId):C :=(.seq (.reg [⟨some 4,none,.mv (.c (.i .i64 0))⟩]) (.seq (.reg [⟨some 7,none,.mv (.t 0)⟩,⟨some 8,none,.call cmp_isNaN_int [.t 7]⟩,⟨some 5,none,.mv (.t 8)⟩]) (.seq (.reg [⟨some 9,none,.mv (.t 1)⟩,⟨some 10,none,.call cmp_isNaN_int [.t 9]⟩,⟨some 6,none,.mv (.t 10)⟩]) (.seq (.seq (.reg [⟨some 11,none,.mv (.t 5)⟩]) (.ite (.t 11) (.seq (.seq (.reg [⟨some 12,none,.mv (.t 6)⟩]) (.ite (.t 12) (.seq (.reg [⟨some 4,none,.mv (.c (.i .i64 0))⟩]) .ret) .skip)) (.seq (.reg [⟨some 4,none,.mv (.c (.i .i64 (-1)))⟩]) .ret)) .skip)) (.seq (.seq (.reg [⟨some 13,none,.mv (.t 6)⟩])
 (.ite (.t 13) (.seq (.reg [⟨some 4,none,.mv (.c (.i .i64 1))⟩]) .ret) .skip)) (.seq (.seq (.reg [⟨some 14,none,.mv (.t 0)⟩,⟨some 15,none,.mv (.t 1)⟩,⟨some 16,none,.bin .lss (.t 14) (.t 15)⟩]) (.ite (.t 16) (.seq (.reg [⟨some 4,none,.mv (.c (.i .i64 (-1)))⟩]) .ret) .skip)) (.seq (.seq (.reg [⟨some 17,none,.mv (.t 0)⟩,⟨some 18,none,.mv (.t 1)⟩,⟨some 19,none,.bin .gtr (.t 17) (.t 18)⟩]) (.ite (.t 19) (.seq (.reg [⟨some 4,none,.mv (.c (.i .i64 1))⟩]) .ret) .skip)) (.seq (.reg [⟨some 4,none,.mv (.c (.i .i64 0))⟩]) .ret))))))))
def cmp_Compare_int.r:List Rr:=[.tmp 4]
abbrev cmp_Compare_int.n:Nat:=20
def cmp_isNaN_int.c:C :=(.seq (.reg [⟨some 2,none,.mv (.c (.b false))⟩]) (.seq (.reg [⟨some 3,none,.mv (.t 0)⟩,⟨some 4,none,.mv (.t 0)⟩,⟨some 5,none,.bin .neq (.t 3) (.t 4)⟩,⟨some 2,none,.mv (.t 5)⟩]) .ret))
def cmp_isNaN_int.r:List Rr:=[.tmp 2]
abbrev cmp_isNaN_int.n:Nat:=6
def cmp_Or_int.c:C :=(.seq (.reg [⟨some 2,none,.mv (.c (.i .i64 0))⟩]) (.seq (.reg [⟨some 3,none,.mv (.c (.i .i64 0))⟩]) (.seq (.seq (.reg [⟨some 6,none,.mv (.t 0)⟩,⟨some 7,none,.len 0 (.t 6)⟩,⟨some 8,none,.mv (.c (.i .i64 0))⟩]) (.blk 0 (.loop (.seq (.reg [⟨some 9,none,.bin .lss (.t 8) (.t 7)⟩]) (.seq (.ite (.t 9) .skip (.exit 0)) (.seq (.blk 1 (.seq (.reg [⟨some 10,none,.ia 1 (.t 6) (.t 8)⟩,⟨some 11,none,.ld none (.t 10)⟩,⟨some 5,none,.mv (.t 11)⟩]) (.seq (.reg [⟨some 12,none,.mv (.t 5)⟩,⟨some 13,none,.mv (.t 3)⟩,⟨some 14,none,.bin .neq (.t 12) (.t 13)⟩]) (.ite (.t 14) (.seq (.reg [⟨some 15,none,.mv (.t 5)⟩,
 ⟨some 2,none,.mv (.t 15)⟩]) .ret) .skip)))) (.reg [⟨some 16,none,.bin .add (.t 8) (.c (.i .i64 1))⟩,⟨some 8,none,.mv (.t 16)⟩]))))))) (.seq (.reg [⟨some 17,none,.mv (.t 3)⟩,⟨some 2,none,.mv (.t 17)⟩]) .ret))))
def cmp_Or_int.r:List Rr:=[.tmp 2]
abbrev cmp_Or_int.n:Nat:=18
end Go.Abs
set_option linter.unusedVariables false
set_option linter.unusedSimpArgs false
namespace Go.Abs
def cmpI (x y:Int):Int:=if x<y then -1 else if y<x then 1 else 0
def CmpC (P:Program) (f:FuncId):Prop:=∀x y:Int,CallIs P f [.i .i64 x,.i .i64 y] (.i .i64 (cmpI x y))
def NaNC (P:Program) (f:FuncId):Prop:=∀x:Int,CallIs P f [.i .i64 x] (.b false)
section
variable {P:Program} (hm:P.follows .mixedOrders=true)
include hm
theorem isNaN_ok {f:FuncId} (hf:Q9 P f cmp_isNaN_int.c cmp_isNaN_int.r cmp_isNaN_int.n):NaNC P f:=by
 intro x
 refine PureC.is (Q7 hm hf (Nat.le_of_ble_eq_true rfl) ?_) rfl
 unfold cmp_isNaN_int.c
 simp[go_sem,cmp_isNaN_int.r]
theorem Compare_ok {f fn:FuncId} (hf:Q9 P f (cmp_Compare_int.c fn) cmp_Compare_int.r cmp_Compare_int.n) (hn:NaNC P fn):CmpC P f:=by
 intro x y
 refine PureC.is (Q7 hm hf (Nat.le_of_ble_eq_true rfl) ?_) rfl
 unfold cmp_Compare_int.c
 simp[go_sem]
 refine Q3 (hn x) ?_
 simp[go_sem]
 refine Q3 (hn y) ?_
 by_cases h1:x<y
 ·simp[go_sem,h1,cmp_Compare_int.r,cmpI]
 ·by_cases h2:y<x<;>simp[go_sem,h1,h2,cmp_Compare_int.r,cmpI]
end
end Go.Abs
set_option linter.unusedVariables false
set_option linter.unusedSimpArgs false
namespace Go.Abs
theorem Qa (h l:List O) (k:Nat):(h++l)[h.length+k]?=l[k]?:=by
 rw[List.getElem?_append_right (by omega)];congr 1;omega
theorem Qc (h l:List O):(h++l)[h.length]?=l[0]?:=Qa h l 0
theorem Z1 (h l:List O) (k:Nat) (o:O):(h++l).set (h.length+k) o=h++l.set k o:=by
 rw[List.set_append_right _ _ (by omega)];congr 2;omega
theorem Qv (h l:List O) (o:O):(h++l).set h.length o=h++l.set 0 o:=Z1 h l 0 o
theorem Z5 {n:Nat} {a b:List O}:∀{h:List O},(∀o∈h,o.cl n)->WeakH n a b->WeakH n (h++a) (h++b)
 | [],_,hw=>hw
 | o::h,hc,hw=>⟨.inr ⟨rfl,hc o (by simp)⟩,Z5 (λo' ho=>hc o' (by simp[ho])) hw⟩
section
variable {J:Nat->Prop} {m:List Ent} {w:World}
theorem lt_of_m {id:Nat} {e:Ent} (h:m[id]?=some e):id<m.length:=(List.getElem?_eq_some_iff.1 h).1
theorem RL_cl0 {x:V} {c:Value} (h:RL J m w x c):x.cl0 m.length=true:=by
 cases x<;>simp only[V.cl0]<;>simp only[RL]at h
 case own id g off len=>obtain⟨_,e,he,_⟩:=h;simpa using lt_of_m he
 case p id g el j=>obtain⟨_,e,he,_⟩:=h;simpa using lt_of_m he
 case mp id=>obtain⟨_,e,he,_⟩:=h;simpa using lt_of_m he
theorem RC_cl1 {x:V} {c:Value} (h:RC J m w x c):x.cl1 m.length=true:=by
 cases x
 case f fn caps =>
  obtain⟨cs,_,hp⟩:=h
  simp only[V.cl1,List.all_eq_true]
  intro x hx
  obtain⟨i,hi⟩:=List.getElem?_of_mem hx
  have hlt:=(List.getElem?_eq_some_iff.1 hi).1
  have hl:=hp.1
  exact RL_cl0 (hp.2 i x cs.toList[i] hi (List.getElem?_eq_getElem (by omega)))
 case a cs=>exact(show RL J m w (.a cs) c from h).elim
 case t vs=>exact(show RL J m w (.t vs) c from h).elim
 all_goals
  simp only[RC]at h
  simp only[V.cl1]
  exact RL_cl0 h
theorem RC_cl {x:V} {c:Value} (h:RC J m w x c):x.cl m.length=true:=by
 cases x
 case a cs=>exact(show RL J m w (.a cs) c from h).elim
 case t vs=>exact(show RL J m w (.t vs) c from h).elim
 all_goals
  simp only[V.cl]
  exact RC_cl1 h
theorem RA_cl {x:V} {c:Value} (h:RA J m w x c):x.cl m.length=true:=by
 cases x
 case a cs =>
  obtain⟨arr,_,hp⟩:=h
  simp only[V.cl,List.all_eq_true]
  intro x hx
  obtain⟨i,hi⟩:=List.getElem?_of_mem hx
  have hlt:=(List.getElem?_eq_some_iff.1 hi).1
  have hl:=hp.1
  exact RC_cl1 (hp.2 i x arr.toList[i] hi (List.getElem?_eq_getElem (by omega)))
 case t vs=>exact(show RC J m w (.t vs) c from h).elim
 case any=>rfl
 all_goals
  simp only[RA]at h
  exact RC_cl h
theorem RS_closed {h:List O} (hr:RS J h m w):∀o∈h,o.cl h.length:=by
 intro o ho
 obtain⟨id,hid⟩:=List.getElem?_of_mem ho
 have hlt:=(List.getElem?_eq_some_iff.1 hid).1
 have hl:=hr.len
 have hO:=hr.obj id m[id] o (List.getElem?_eq_getElem (by omega)) hid
 rw[<- hl]
 cases o with
 | dead=>trivial
 | arr g sz els =>
   obtain⟨_,_,_,hb⟩:=hO
   intro el hel x hx
   obtain⟨i,hi⟩:=List.getElem?_of_mem hel
   obtain⟨j,hj⟩:=List.getElem?_of_mem hx
   split at hb
   ·obtain⟨rfl,_⟩:=hb;simp at hi
   ·obtain⟨_,_,c,ty,fz,_,_,_,hc⟩:=hb
    obtain⟨cv,_,hcv⟩:=hc i el j x hi hj
    exact RC_cl hcv
 | mp es =>
   obtain⟨_,B,_,ms,_,_,hc⟩:=hO
   intro e he
   obtain⟨i,hi⟩:=List.getElem?_of_mem he
   obtain⟨en,_,_,h1,h2⟩:=hc i e.1 e.2 hi
   exact⟨RA_cl h1,RA_cl h2⟩
 | md es =>
   obtain⟨_,B,_,ms,c,_,_,hc⟩:=hO
   intro e he
   obtain⟨i,hi⟩:=List.getElem?_of_mem he
   obtain⟨en,_,h1,h2⟩:=hc i e.1 e.2 hi
   exact⟨RA_cl h1,RA_cl h2⟩
 | it mid since seen =>
   obtain⟨_,_,_,B,_,mb,_,hm⟩:=hO
   intro i hi
   subst hi
   obtain⟨e',he',_⟩:=hm
   exact lt_of_m he'
end
theorem cl0_mono {x:V} {n k:Nat} (hnk:n<=k) (h:x.cl0 n=true):x.cl0 k=true:=by
 cases x<;>simp only[V.cl0,decide_eq_true_eq]at h ⊢<;>omega
theorem cl1_mono {x:V} {n k:Nat} (hnk:n<=k) (h:x.cl1 n=true):x.cl1 k=true:=by
 cases x
 case f fn caps=>simp only[V.cl1,List.all_eq_true]at h ⊢;exact λy hy=>cl0_mono hnk (h y hy)
 all_goals
  simp only[V.cl1]at h ⊢
  exact cl0_mono hnk h
theorem cl_mono {x:V} {n k:Nat} (hnk:n<=k) (h:x.cl n=true):x.cl k=true:=by
 cases x
 case a cs=>simp only[V.cl,List.all_eq_true]at h ⊢;exact λy hy=>cl1_mono hnk (h y hy)
 case t=>simp[V.cl]at h
 all_goals
  simp only[V.cl]at h ⊢
  exact cl1_mono hnk h
theorem Ocl_mono {o:O} {n k:Nat} (hnk:n<=k) (h:o.cl n):o.cl k:=by
 cases o with
 | dead=>trivial
 | arr g sz els=>exact λel hel x hx=>cl_mono hnk (h el hel x hx)
 | mp es=>exact λe he=>⟨cl_mono hnk (h e he).1,cl_mono hnk (h e he).2⟩
 | md es=>exact λe he=>⟨cl_mono hnk (h e he).1,cl_mono hnk (h e he).2⟩
 | it mid since seen=>exact λi hi=>Nat.lt_of_lt_of_le (h i hi) hnk
theorem Yr {P:Program} {f:FuncId} {vs:List V} {h:List O} {R:V->List O->Prop} (hc:(∀n,h.length<=n->∀o∈h,o.cl n)->ACall P f vs h R):ACall P f vs h R:=by
 intro J m w cargs hr hp
 exact hc (λn hn o ho=>Ocl_mono hn (RS_closed hr o ho)) J m w cargs hr hp
theorem Jp {P:Program} {f:FuncId} {vs:List V} {h h0:List O} {r0:V} {k:V->List O->Prop} (hc:ACall P f vs h (λr h'=>r=r0/\h'=h0)) (hk:k r0 h0):ACall P f vs h k :=
 hc.mono λr h' hh=>by rw[hh.1,hh.2];exact hk
end Go.Abs
set_option linter.unusedVariables false
set_option linter.unusedSimpArgs false
namespace Go.Abs
open Go.Sort
instance:Inhabited P2:=⟨⟨0,0⟩⟩
def P2.rev (e:P2):P2:=⟨e.y,e.x⟩
def P2.und (e:P2):P2:=⟨min e.x e.y,max e.x e.y⟩
def P2.ints (e:P2):List Int:=[e.x,e.y]
def Z3 (m:Mesh):List (P2 × Int):=if m.check=0 then Ys (Q8 m.tris) else []
def CountedC (P:Program) (f:FuncId):Prop:=∀m:Mesh,NewC P f [m.enc] (λr h=>r=.mp 1/\h=[.dead,.mp ((Z3 m).map asV)])
def RevC (P:Program) (f:FuncId):Prop:=∀e:P2,CallIs P f [e.enc] e.rev.enc
def UndC (P:Program) (f:FuncId):Prop:=∀e:P2,CallIs P f [e.enc] e.und.enc
def OrC (P:Program) (f:FuncId):Prop:=∀x y:Int,CallIs P f [.l 1 [[.i .i64 x],[.i .i64 y]]] (.i .i64 (if x≠0 then x else y))
def cmpE (a b:P2):Int:=if cmpI a.x b.x≠0 then cmpI a.x b.x else cmpI a.y b.y
def OrderC (P:Program) (f:FuncId):Prop:=∀a b:P2,CallIs P f [a.enc,b.enc] (.i .i64 (cmpE a b))
theorem ltE (a b:P2):ltC cmpE a b=decide (P2.lt a b):=by
 unfold ltC cmpE cmpI P2.lt
 by_cases h1:a.x<b.x
 ·simp[h1]
 ·by_cases h2:b.x<a.x
  ·simp[h1,h2];omega
  ·have h3:a.x=b.x:=by omega
   by_cases h4:a.y<b.y
   ·simp[h3,h4]
   ·by_cases h5:b.y<a.y<;>simp[h3,h4,h5]
theorem swoE:SWO (ltC cmpE) where
 irrefl x:=by rw[ltE];simp[P2.lt]
 trans x y z h1 h2:=by
  rw[ltE,decide_eq_true_eq]at *
  exact P2.lt_trans h1 h2
 ntrans x y z h1 h2:=by
  rw[ltE,decide_eq_false_iff_not]at *
  unfold P2.lt at *;omega
section
variable {P:Program} (hm:P.follows .mixedOrders=true)
include hm
theorem topo_edges_ok {f:FuncId} (hf:Q9 P f topo_edges.c topo_edges.r topo_edges.n):Ye P f:=Ub hm hf
theorem U9 {f:FuncId} (hf:Q9 P f topo_reverse.c topo_reverse.r topo_reverse.n):RevC P f:=by
 intro e
 refine PureC.is (Q7 hm hf (Nat.le_of_ble_eq_true rfl) ?_) rfl
 unfold topo_reverse.c
 simp[go_sem,P2.enc,P2.cs,topo_reverse.r,P2.rev]
theorem X1 {f:FuncId} (hf:Q9 P f topo_undirected.c topo_undirected.r topo_undirected.n):UndC P f:=by
 intro e
 refine PureC.is (Q7 hm hf (Nat.le_of_ble_eq_true rfl) ?_) rfl
 unfold topo_undirected.c
 simp[go_sem,P2.enc,P2.cs,topo_undirected.r,P2.und,B8,max_if]
theorem Or_ok {f:FuncId} (hf:Q9 P f cmp_Or_int.c cmp_Or_int.r cmp_Or_int.n):OrC P f:=by
 intro x y
 refine PureC.is (Q7 hm hf (Nat.le_of_ble_eq_true rfl) ?_) rfl
 unfold cmp_Or_int.c
 simp[go_sem]
 refine Qe (α:=Nat) (λk=>k<=2/\(1<=k->x=0)/\(2<=k->y=0))
  (λk=>⟨[(3,.i .i64 0),(6,.l 1 [[.i .i64 x],[.i .i64 y]]),(7,.i .i64 2),(8,.i .i64 k)],[]⟩)
  (λk=>2-k) 0 ⟨by omega,by omega,by omega⟩ ?_ ?_
 ·simp[go_sem]
 ·rintro k ⟨hk,h1,h2⟩
  have w1:IntKind.i64.wrap 1=1:=rfl
  have w2:IntKind.i64.wrap 2=2:=rfl
  have:k=0∨k=1∨k=2:=by omega
  rcases this with rfl | rfl | rfl
  ·by_cases hx:x=0
   ·simp[go_sem,hx,w1]
    exact⟨1,⟨by omega,λh=>by omega⟩,by omega,rfl⟩
   ·simp[go_sem,hx,cmp_Or_int.r]
  ·have hx:=h1 (by omega)
   by_cases hy:y=0
   ·simp[go_sem,hx,hy,w2]
    exact⟨2,by omega,by omega,rfl⟩
   ·simp[go_sem,hx,hy,cmp_Or_int.r]
  ·have hx:=h1 (by omega)
   have hy:=h2 (by omega)
   simp[go_sem,hx,hy,cmp_Or_int.r]
theorem topo_order_ok {f fc fo:FuncId} (hf:Q9 P f (topo_order.c fc fo) topo_order.r topo_order.n) (hc:CmpC P fc) (ho:OrC P fo):OrderC P f:=by
 intro a b
 refine PureC.is (Q7 hm hf (Nat.le_of_ble_eq_true rfl) ?_) rfl
 unfold topo_order.c
 simp[go_sem,P2.enc,P2.cs]
 refine Qf (hc a.x b.x) ?_
 simp[go_sem]
 refine Qf (hc a.y b.y) ?_
 simp[go_sem]
 refine Qf (ho _ _) ?_
 simp[go_sem,topo_order.r,cmpE]
set_option maxHeartbeats 4000000 in
theorem topo_counted_ok {f fc fe:FuncId} (hf:Q9 P f (topo_counted.c fc fe) topo_counted.r topo_counted.n) (hc:Z8 P fc) (he:Ye P fe):CountedC P f:=by
 intro m
 refine new_of hm hf (Nat.le_of_ble_eq_true rfl) ?_
 unfold topo_counted.c
 simp[go_sem,Mesh.enc,Mesh.cs]
 refine Q3 (hc m) ?_
 by_cases hz:m.check=0
 case neg =>
  have hT:Z3 m=[]:=by simp[Z3,hz]
  simp[go_sem,hz,topo_counted.r,hT]
 have hl:=(Mesh.check_zero.1 hz).2.1
 simp[go_sem,hz,tsV]
 refine Qe (α:=Nat) (λk=>k<=m.tris.length)
  (λk=>⟨[(3,.mp 1),(14,tsV m.tris),(15,.i .i64 m.tris.length),(16,.i .i64 k)],[.dead,.mp ((Ys (Q8 (m.tris.take k))).map asV)]⟩)
  (λk=>m.tris.length-k) 0 (by omega) ?_ ?_
 ·simp[go_sem,tsV,Q8,Ys]
 ·intro k hk
  by_cases hkl:k=m.tris.length
  ·subst hkl
   rw[List.take_length]
   have hT:Z3 m=Ys (Q8 m.tris):=by simp[Z3,hz]
   simp[go_sem,tsV,topo_counted.r,hT]
   exact Zv _ 2
  ·have hlt:k<m.tris.length:=by omega
   have hp:m.tris[k]?=some m.tris[k]:=List.getElem?_eq_getElem hlt
   generalize m.tris[k]=t at hp
   obtain⟨_,hp'⟩:=List.getElem?_eq_some_iff.1 hp
   simp[go_sem,tsV,hlt,hp',tcs]
   refine Q3 (he t) ?_
   have hlen:(Q2 t).length<=3:=Qz t 3
   have hE:=Y1 m.tris k
   generalize hA:Q8 (m.tris.take k)=A0
   simp[go_sem,psV]
   refine Qe (α:=Nat) (λj=>j<=(Q2 t).length)
    (λj=>⟨[(3,.mp 1),(14,tsV m.tris),(15,.i .i64 m.tris.length),(16,.i .i64 k),(21,psV (Q2 t)),(22,.i .i64 (Q2 t).length),(23,.i .i64 j)],[.dead,.mp ((Ys (A0++(Q2 t).take j)).map asV)]⟩)
    (λj=>(Q2 t).length-j) 0 (by omega) ?_ ?_
   ·simp[go_sem,tsV,psV]
    exact Zv _ 2
   ·intro j hj
    by_cases hjl:j=(Q2 t).length
    ·subst hjl
     simp (disch:=omega) [go_sem,tsV,psV,Q0]
     exact⟨k+1,by omega,by omega,by omega,by rw[Zz hp,hA],Zv _ 2⟩
    ·have hjlt:j<(Q2 t).length:=by omega
     have hq:(Q2 t)[j]?=some (Q2 t)[j]:=List.getElem?_eq_getElem hjlt
     have htk:(Q2 t).take (j+1)=(Q2 t).take j++[(Q2 t)[j]]:=by rw[List.take_add_one,hq];rfl
     generalize (Q2 t)[j]=e at hq htk
     obtain⟨_,hq'⟩:=List.getElem?_eq_some_iff.1 hq
     have hS1:A0++(Q2 t).take (j+1)=(A0++(Q2 t).take j)++[e]:=by rw[htk,<- List.append_assoc]
     generalize hS:A0++(Q2 t).take j=S at hS1
     have hT1:=Ww S e
     rw[<- hS1]at hT1
     generalize hL:Ys S=L at hT1
     have h1:=Xb e L
     unfold addE at hT1
     cases hfn:fnd e L with
     | some p =>
       obtain⟨i,n⟩:=p
       rw[hfn]at h1 hT1
       simp only[Option.map_some]at h1
       simp only at hT1
       have hn:n=S.count e:=by
        have:=val_tally S e
        rw[hL,val,hfn]at this
        exact this
       have hcl:S.count e<=S.length:=List.count_le_length
       have hSl:S.length<=3*4096:=by
        rw[<- hS,<- hA,List.length_append,List.length_take];omega
       have h3:fnd e (L.set i (e,n+1))=some (i,n+1):=(U3 (n':=n+1) hfn).2
       have hil:i<L.length:=(List.getElem?_eq_some_iff.1 (U3 (n':=n+1) hfn).1).1
       have hil':i<(List.map asV L).length:=by simpa using hil
       have wn:IntKind.i64.wrap (n+1)=n+1:=Q0 (by omega) (by omega)
       simp[go_sem,psV,hjlt,hq',pcs,h1,wn,List.getElem?_set_self hil',List.set_set]
       refine⟨j+1,by omega,by omega,⟨.inr rfl,Q0 (by omega) (by omega)⟩,?_,Zv _ 2⟩
       rw[hT1,List.map_set];rfl
     | none =>
       rw[hfn]at h1 hT1
       simp only[Option.map_none]at h1
       have w1:IntKind.i64.wrap 1=1:=rfl
       simp only at hT1
       simp[go_sem,psV,hjlt,hq',pcs,h1,w1]
       refine⟨j+1,by omega,by omega,⟨.inr rfl,Q0 (by omega) (by omega)⟩,?_,Zv _ 2⟩
       rw[hT1,List.map_append];rfl
end
end Go.Abs
set_option linter.unusedVariables false
set_option linter.unusedSimpArgs false
namespace Go.Abs
open Go.Sort
def bordE (E:List P2) (e:P2):Bool:=decide (E.count e.rev<E.count e)
def border (E:List P2):List P2:=W3 (E.filter (bordE E))
def Mesh.border (m:Mesh):List P2:=if m.check=0 then Go.Abs.border (Q8 m.tris) else []
def Mesh.closed (m:Mesh):Bool:=decide (m.check=0) && decide (m.border=[])
def Xd (P:Program) (f:FuncId):Prop:=∀m:Mesh,CallIs P f [m.enc] (psV m.border)
def W4 (P:Program) (f:FuncId):Prop:=∀m:Mesh,CallIs P f [m.enc] (.b m.closed)
def Mesh.use (m:Mesh) (e:P2):Int:=if m.check=0 then (Q8 m.tris).count e else 0
theorem sh_asV (L:List (P2 × Int)) (n:Nat):(O.mp (L.map asV)).sh n=.mp (L.map asV):=by
 simp[O.sh,asV,V.sh2,V.sh1,V.sh0]
theorem val_tallyM (m:Mesh) (e:P2):val e (Z3 m)=m.use e:=by
 unfold Z3 Mesh.use
 split
 ·exact val_tally _ _
 ·rfl
theorem tallyM_get {m:Mesh} {i:Nat} {e:P2} {n:Int} (h:(Z3 m)[i]?=some (e,n)):m.check=0/\e∈Q8 m.tris/\n=m.use e:=by
 unfold Z3 at h
 split at h
 ·rename_i hz
  have:=tally_get h
  exact⟨hz,this.1,by simp[Mesh.use,hz,this.2]⟩
 ·simp at h
theorem tallyM_of {m:Mesh} {e:P2} (hz:m.check=0) (h:e∈Q8 m.tris):∃i:Nat,(Z3 m)[i]?=some (e,m.use e):=by
 unfold Z3 Mesh.use
 rw[if_pos hz,if_pos hz]
 exact tally_of h
theorem Bn (m:Mesh):((Z3 m).map Prod.fst).Nodup:=by
 unfold Z3
 split
 ·exact(Wx _).1
 ·simp
theorem tallyM_len (m:Mesh):(Z3 m).length<=12288:=by
 unfold Z3
 split
 ·rename_i hz
  have h1:=(Wx (Q8 m.tris)).2
  have h3:=Y1 m.tris m.tris.length
  rw[List.take_length]at h3
  have h4:=(Mesh.check_zero.1 hz).2.1
  have h5:∀E:List P2,(Ys E).length<=E.length:=by
   refine Kz (by simp[Ys]) λE x ih=>?_
   rw[Ww]
   unfold addE
   split<;>simp<;>omega
  have:=h5 (Q8 m.tris)
  omega
 ·simp
theorem mem_border {m:Mesh} {e:P2}:e∈m.border↔m.check=0/\e∈Q8 m.tris/\m.use e.rev<m.use e:=by
 unfold Mesh.border Mesh.use
 by_cases hz:m.check=0
 ·simp only[if_pos hz]
  unfold Go.Abs.border bordE
  rw[mem_ascOf,List.mem_filter]
  simp[hz]
 ·simp[hz]
theorem X7 (m:Mesh):asc m.border:=by
 unfold Mesh.border
 split
 ·exact K9 _
 ·simp[asc]
theorem nodup_get {L:List (P2 × Int)} (h:(L.map Prod.fst).Nodup) {i j:Nat} {e:P2} {n n':Int} (hi:L[i]?=some (e,n)) (hj:L[j]?=some (e,n')):i=j:=by
 have h1:=Kn h hi
 have h2:=Kn h hj
 rw[h1]at h2
 simp at h2;exact h2.1
def BInv (m:Mesh) (p:List Nat × List P2):Prop:=p.2.Nodup/\p.2.length<=p.1.length/\p.1.length<=(Z3 m).length-left (Z3 m).length p.1/\(∀i∈p.1,i<(Z3 m).length)/\∀x,x∈p.2↔∃i∈p.1,∃n,(Z3 m)[i]?=some (x,n)/\m.use x.rev<m.use x
section
variable {P:Program} (hm:P.follows .mixedOrders=true)
include hm
set_option maxHeartbeats 4000000 in
theorem topo_Boundary_ok {f fc fr fs fo:FuncId} (hf:Q9 P f (topo_Boundary.c fc fr fs fo) topo_Boundary.r topo_Boundary.n) (hc:CountedC P fc) (hr:RevC P fr) (hs:SortC P fs 2) (ho:OrderC P fo) (hcal:Zq P fo=true):Xd P f:=by
 intro m
 refine PureC.is (Q7 hm hf (Nat.le_of_ble_eq_true rfl) ?_) rfl
 unfold topo_Boundary.c
 have hLl:=tallyM_len m
 simp[go_sem,Mesh.enc,Mesh.cs]
 refine Ws (hc m) rfl ?_
 simp only[List.map_cons,List.map_nil,sh_asV]
 simp[go_sem]
 refine Qq [.t 4 2] (α:=List Nat × List P2) (BInv m)
  (λp=>⟨[(3,.mp 2),(4,.own 4 (p.2.length+1) 0 p.2.length),(10,.p 3 1 0 0)],[.dead,.dead,.mp ((Z3 m).map asV),.it (some 2) (Z3 m).length p.1,.arr (p.2.length+1) 2 (p.2.map P2.cs)]⟩)
  (λp=>left (Z3 m).length p.1) ([],[]) ⟨by simp,by simp,by simp[left],by simp,by simp⟩ ?_ ?_
 ·simp[go_sem]
  exact Zv _ 5
 ·rintro⟨seen,out⟩ ⟨hnd,hol,hsl,hsr,hmem⟩
  simp only at hnd hol hsl hsr hmem
  simp[go_sem,Mnx]
  refine⟨λhall=>?_,?_⟩
  ·obtain⟨ys,hperm,hup,hcall⟩:=hs P2.ints (λ_=>rfl) cmpE swoE fo hcal (λa b=>ho a b) out (by omega)
   have hys:ys=m.border:=by
    rw[asc_of_perm hperm hnd (hup.imp (by intro a b h;rw[ltE]at h;simpa using h))]
    refine asc_ext (K9 _) (X7 m) λx=>?_
    rw[mem_ascOf,hmem,mem_border]
    constructor
    ·rintro⟨i,_,n,h1,h2⟩
     have:=tallyM_get h1
     exact⟨this.1,this.2.1,h2⟩
    ·rintro⟨h1,h2,h3⟩
     obtain⟨i,hi⟩:=tallyM_of h1 h2
     exact⟨i,hall i (List.getElem?_eq_some_iff.1 hi).1,_,hi,h3⟩
   refine Jp (hcall _ 4 _ rfl) ?_
   subst hys
   have hl2:m.border.length=out.length:=hperm.length_eq
   have hy2:m.border.map (λx=>x.ints.map (V.i .i64))=m.border.map P2.cs:=rfl
   rw[hy2]
   have ht:List.take out.length (m.border.map P2.cs)=m.border.map P2.cs:=List.take_of_length_le (by simp[hl2])
   simp[go_sem,topo_Boundary.r,psV,p2_isD,hl2,ht]
  ·rintro i a b e n hi hab hni
   simp only[asV,Prod.mk.injEq]at hab
   obtain⟨rfl,rfl⟩:=hab
   have hil:i<(Z3 m).length:=(List.getElem?_eq_some_iff.1 hi).1
   have hg:=tallyM_get hi
   simp[go_sem,hi,asV]
   refine Q3 (hr e) ?_
   have h1:Qm [1,1] (V.a [V.i .i64 e.y,V.i .i64 e.x]) ((Z3 m).map asV)=_:=Xb e.rev (Z3 m)
   have hv:=val_tallyM m e.rev
   have hleft:=left_lt hil hni
   have hleft2:left (Z3 m).length seen<=(Z3 m).length:=by
    unfold left
    have:=List.length_filter_le (λi=>!seen.contains i) (List.range (Z3 m).length)
    simpa using this
   have hinv:∀out':List P2,(out'.Nodup/\out'.length<=seen.length+1/\∀x,x∈out'↔x∈out∨(x=e/\m.use e.rev<m.use e)) ->
     BInv m (seen++[i],out'):=by
    rintro out' ⟨q1,q2,q3⟩
    refine⟨q1,by simpa using q2,by simp only[List.length_append,List.length_cons,List.length_nil];omega,λj hj=>?_,λx=>?_⟩
    ·rcases List.mem_append.1 hj with h | h
     ·exact hsr j h
     ·simp at h;omega
    ·rw[q3,hmem]
     constructor
     ·rintro (⟨j,h1,n',h2,h3⟩ | ⟨rfl,h3⟩)
      ·exact⟨j,by simp[h1],n',h2,h3⟩
      ·exact⟨i,by simp,n,hi,h3⟩
     ·rintro⟨j,h1,n',h2,h3⟩
      rcases List.mem_append.1 h1 with h | h
      ·exact .inl ⟨j,h,n',h2,h3⟩
      ·simp at h
       subst h
       rw[hi]at h2
       simp at h2
       obtain⟨rfl,rfl⟩:=h2
       exact .inr ⟨rfl,h3⟩
   have hein:e∉out:=by
    rw[hmem]
    rintro⟨j,h1,n',h2,_⟩
    have:=nodup_get (Bn m) hi h2
    subst this
    exact hni h1
   have hn:=hg.2.2
   have hi1:=hinv (out++[e])
   have hi2:=hinv out
   cases hfn:fnd e.rev (Z3 m) with
   | none =>
     rw[hfn]at h1
     rw[val,hfn]at hv
     simp only at hv
     simp only[Option.map_none]at h1
     by_cases hlt:0<n
     ·simp (disch:=omega) [go_sem,h1,P2.rev,P2.enc,P2.cs,hlt]
      refine⟨by omega,seen++[i],out++[e],hi1 ⟨?_,by simp;omega,λx=>?_⟩,hleft,?_⟩
      ·rw[List.nodup_append]
       exact⟨hnd,by simp,λa ha b hb=>by simp at hb;subst hb;rintro rfl;exact hein ha⟩
      ·rw[List.mem_append,List.mem_singleton]
       have:m.use e.rev<m.use e:=by omega
       simp[this]
      ·simp[pcs]
       exact Zv _ 5
     ·simp (disch:=omega) [go_sem,h1,P2.rev,P2.enc,P2.cs,hlt]
      refine⟨seen++[i],out,hi2 ⟨hnd,by omega,λx=>?_⟩,hleft,?_⟩
      ·have:¬ m.use e.rev<m.use e:=by omega
       simp[this]
      ·exact⟨rfl,Zv _ 5,rfl,rfl,rfl⟩
   | some p =>
     obtain⟨j,n'⟩:=p
     rw[hfn]at h1
     rw[val,hfn]at hv
     simp only at hv
     simp only[Option.map_some]at h1
     by_cases hlt:n'<n
     ·simp (disch:=omega) [go_sem,h1,P2.rev,P2.enc,P2.cs,hlt]
      refine⟨by omega,seen++[i],out++[e],hi1 ⟨?_,by simp;omega,λx=>?_⟩,hleft,?_⟩
      ·rw[List.nodup_append]
       exact⟨hnd,by simp,λa ha b hb=>by simp at hb;subst hb;rintro rfl;exact hein ha⟩
      ·rw[List.mem_append,List.mem_singleton]
       have:m.use e.rev<m.use e:=by omega
       simp[this]
      ·simp[pcs]
       exact Zv _ 5
     ·simp (disch:=omega) [go_sem,h1,P2.rev,P2.enc,P2.cs,hlt]
      refine⟨seen++[i],out,hi2 ⟨hnd,by omega,λx=>?_⟩,hleft,?_⟩
      ·have:¬ m.use e.rev<m.use e:=by omega
       simp[this]
      ·exact⟨rfl,Zv _ 5,rfl,rfl,rfl⟩
theorem Ul {f fc fb:FuncId} (hf:Q9 P f (topo_Closed.c fc fb) topo_Closed.r topo_Closed.n) (hc:Z8 P fc) (hb:Xd P fb):W4 P f:=by
 intro m
 refine PureC.is (Q7 hm hf (Nat.le_of_ble_eq_true rfl) ?_) rfl
 unfold topo_Closed.c
 simp[go_sem,Mesh.enc,Mesh.cs]
 refine Q3 (hc m) ?_
 by_cases h:m.check=0
 ·simp[go_sem,h]
  refine Q3 (hb m) ?_
  simp[go_sem,psV,topo_Closed.r,Mesh.closed,h]
  rw[Bool.eq_iff_iff];simp
 ·have h':(m.check == 0)=false:=by simpa using h
  simp[go_sem,h,h',topo_Closed.r,Mesh.closed]
end
end Go.Abs
