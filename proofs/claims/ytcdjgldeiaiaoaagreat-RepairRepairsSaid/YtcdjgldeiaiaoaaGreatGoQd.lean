/- Part of the library on which the proof stands: an abstract machine, its values and its soundness against the model; or what functions of the program do to such values. -/
import Derived.Test.YtcdjgldeiaiaoaaGreatGoHr
import Derived.Test.YtcdjgldeiaiaoaaGreatGoOriD
import Derived.Test.YtcdjgldeiaiaoaaGreatGoOz
set_option linter.unusedVariables false
set_option linter.unusedSimpArgs false
namespace Go.Abs
section
variable {P:Program} (hm:P.follows .mixedOrders=true)
include hm
set_option maxRecDepth 20000 in
set_option maxHeartbeats 4000000 in
theorem ref12_Fill_ok {f fc fl ff:FuncId} (hf:Q9 P f (ref12_Fill.c fc fl ff) ref12_Fill.r ref12_Fill.n) (hc:Z8 P fc) (hl:LoopsC P fl) (hff:FanC P ff):FillC P f:=by
 intro m
 by_cases hz:m.check=0
 case neg =>
  have hlp:m.loops=([],m.check):=by simp[Mesh.loops,hz]
  have hR:Qu m=(Zc,0,m.check):=by unfold Qu;rw[hlp,if_neg hz]
  rw[hR]
  refine CallIs.res ?_ (Wh _)
  refine PureC.is (Q7 hm hf (Nat.le_of_ble_eq_true rfl) ?_) rfl
  unfold ref12_Fill.c
  simp[go_sem,Mesh.enc,Mesh.cs]
  refine Q3 (hc m) ?_
  simp[go_sem,hz,ref12_Fill.r]
 have hl1:=hl m
 by_cases h0:m.loops.2=0
 case neg =>
  have hR:Qu m=(Zc,0,m.loops.2):=by unfold Qu;rw[if_neg h0]
  rw[hR]
  refine CallIs.res ?_ (Wh _)
  refine PureC.is (Q7 hm hf (Nat.le_of_ble_eq_true rfl) ?_) rfl
  unfold ref12_Fill.c
  simp[go_sem,Mesh.enc,Mesh.cs]
  refine Q3 (hc m) ?_
  simp[go_sem,hz]
  refine Q3 hl1 ?_
  simp[go_sem,h0,ref12_Fill.r]
 obtain⟨z1,z2,z3,z4⟩:=Mesh.check_zero.1 hz
 have hnum:=loops_num h0
 have heach:=loops_each h0
 have hflen:=fill_len h0
 have hbl:=Ks m
 have hmain:PureC P f [m.enc] (·=if m.fillM.tris.length<=4096 then Xo (m.fillM,m.loops.1.length,0) else .t [.a [.nil,.nil],.i .i64 0,.i .i64 2]):=by
  refine Q7 hm hf (Nat.le_of_ble_eq_true rfl) ?_
  unfold ref12_Fill.c
  rw[h0]at hl1
  have hfm:m.fillM=⟨m.verts,trK m m.loops.1 m.loops.1.length⟩:=by unfold trK;rw[List.take_length];rfl
  rw[hfm]at hflen ⊢
  generalize m.loops.1=ls at *
  have hok:(trK m ls ls.length).length<=4096->(if (trK m ls ls.length).length<=4096 then Xo (⟨m.verts,trK m ls ls.length⟩,(ls.length:Int),0) else V.t [.a [.nil,.nil],.i .i64 0,.i .i64 2])=Xo (⟨m.verts,trK m ls ls.length⟩,(ls.length:Int),0):=λh=>if_pos h
  have hno:¬ (trK m ls ls.length).length<=4096->(if (trK m ls ls.length).length<=4096 then Xo (⟨m.verts,trK m ls ls.length⟩,(ls.length:Int),0) else V.t [.a [.nil,.nil],.i .i64 0,.i .i64 2])=V.t [.a [.nil,.nil],.i .i64 0,.i .i64 2]:=λh=>if_neg h
  simp only at hflen ⊢
  generalize (if (trK m ls ls.length).length<=4096 then Xo (⟨m.verts,trK m ls ls.length⟩,(ls.length:Int),0) else V.t [.a [.nil,.nil],.i .i64 0,.i .i64 2])=RR at *
  simp[go_sem,Mesh.enc,Mesh.cs,vsV,tsV]
  refine Q3 (hc m) ?_
  simp[go_sem,hz]
  refine Q3 hl1 ?_
  simp[go_sem]
  refine⟨⟨by omega,by omega⟩,?_⟩
  have hcs:m.cs=[.l 3 (m.verts.map V3.cs),.l 3 (m.tris.map T3.cs)]:=rfl
  refine Qe (α:=Nat) (λk=>k<=ls.length)
   (λk=>⟨[(1,.p 0 1 0 0),(2,.p 1 1 0 0),(6,lsV ls),(7,.own 2 (k+1) 0 (trK m ls k).length),(8,.i .i64 k)],
    [.arr 1 2 [m.cs],.arr 1 2 [[.nil,.nil]],.arr (k+1) 3 ((trK m ls k).map T3.cs)]⟩)
   (λk=>ls.length-k) 0 (Nat.zero_le _) ?_ ?_
  ·have h00:trK m ls 0=m.tris:=by simp[trK]
   simp[go_sem,lsV,h00,hcs,Jf,Qp]
  ·rintro k hk
   by_cases hkl:k=ls.length
   ·subst hkl
    have htkl:List.take (trK m ls ls.length).length ((trK m ls ls.length).map T3.cs)=(trK m ls ls.length).map T3.cs:=List.take_of_length_le (by simp)
    generalize trK m ls ls.length=T at *
    by_cases hT:T.length<=4096
    ·rw[hok hT]
     simp (disch:=omega) [go_sem,lsV,hcs,show ¬ (4096:Int)<T.length by omega,ref12_Fill.r,Xo,Mesh.enc,Mesh.cs,vsV,tsV,Y7,Zw,Q0]
     exact⟨by omega,by omega⟩
    ·rw[hno hT]
     simp (disch:=omega) [go_sem,lsV,hcs,show (4096:Int)<T.length by omega,ref12_Fill.r,Q0]
   ·have hlt:k<ls.length:=by omega
    have hp:ls[k]?=some ls[k]:=List.getElem?_eq_getElem hlt
    have hmw:ls[k]∈ls:=List.getElem_mem _
    have htk:=Qd hp
    have hpre:ls.flatMap Yg=(ls.take k).flatMap Yg++(Yg ls[k]++(ls.drop (k+1)).flatMap Yg):=by
     have h1:=List.take_append_drop k ls
     rw[List.drop_eq_getElem_cons hlt]at h1
     have h2:=congrArg (List.flatMap Yg) h1
     rw[List.flatMap_append,List.flatMap_cons]at h2
     exact h2.symm
    generalize ls[k]=w at hp hmw htk hpre
    obtain⟨_,hp'⟩:=List.getElem?_eq_some_iff.1 hp
    have hwl:=heach w hmw
    have hfl:=fanOf_len w
    have hts:trK m ls (k+1)=trK m ls k++Yg w:=by
     unfold trK
     rw[htk,List.flatMap_append,<- List.append_assoc];simp
    have hov:(trK m ls k).length+(Yg w).length<=(trK m ls ls.length).length:=by
     unfold trK
     rw[List.take_length,hpre]
     simp only[List.length_append]
     omega
    have hff1:=hff w (by omega)
    have htkl:List.take (trK m ls k).length ((trK m ls k).map T3.cs)=(trK m ls k).map T3.cs:=List.take_of_length_le (by simp)
    generalize hTk:trK m ls k=T at *
    simp (disch:=omega) [go_sem,lsV,hlt,hp,hp',Q0]
    refine Q3 hff1 ?_
    simp (disch:=omega) [go_sem,lsV,tsV,Q0,htkl]
    refine⟨⟨by omega,by omega⟩,k+1,by omega,by omega,⟨⟨rfl,by rw[hts,List.length_append]⟩,by simp⟩,?_,rfl,by rw[hts,List.map_append]⟩
    intro x hx
    rw[hcs]at hx
    simp at hx
    rcases hx with rfl | rfl<;>rfl
 by_cases hT:m.fillM.tris.length<=4096
 ·have hR:Qu m=(m.fillM,(m.loops.1.length:Int),0):=by unfold Qu;rw[if_pos h0,if_pos hT]
  rw[if_pos hT]at hmain
  rw[hR]
  exact PureC.is hmain rfl
 ·have hR:Qu m=(Zc,0,2):=by unfold Qu;rw[if_pos h0,if_neg hT]
  rw[if_neg hT]at hmain
  rw[hR]
  exact CallIs.res (PureC.is hmain rfl) (Wh _)
end
end Go.Abs
set_option linter.unusedVariables false
set_option linter.unusedSimpArgs false
namespace Go.Abs
def HasEC (P:Program) (f:FuncId):Prop:=∀(l:List P2) (e:P2),l.length<=1000->CallIs P f [psV l,e.enc] (.b (decide (e∈l)))
def IdxEC (P:Program) (f:FuncId):Prop:=∀(l:List P2) (e:P2),l.length<=1000->CallIs P f [psV l,e.enc] (.i .i64 (if e∈l then (l.idxOf e:Int) else -1))
structure HB (H:O->O->O->O->O->List O) (n a sa b tb c d q:Nat):Prop where
 len:∃N,∀s t u v w,(H s t u v w).length=N
 ga:∀s t u v w l,(H s t u v w++l)[a]?=some (.arr 1 1 [[.own sa 1 0 n]])
 gs:∀s t u v w l,(H s t u v w++l)[sa]?=some s
 gb:∀s t u v w l,(H s t u v w++l)[b]?=some (.arr 1 1 [[.own tb 1 0 n]])
 gt:∀s t u v w l,(H s t u v w++l)[tb]?=some t
 gc:∀s t u v w l,(H s t u v w++l)[c]?=some u
 gd:∀s t u v w l,(H s t u v w++l)[d]?=some v
 gq:∀s t u v w l,(H s t u v w++l)[q]?=some w
 ss:∀s t u v w l o,(H s t u v w++l).set sa o=H o t u v w++l
 st:∀s t u v w l o,(H s t u v w++l).set tb o=H s o u v w++l
 sc:∀s t u v w l o,(H s t u v w++l).set c o=H s t o v w++l
 sd:∀s t u v w l o,(H s t u v w++l).set d o=H s t u o w++l
 sq:∀s t u v w l o,(H s t u v w++l).set q o=H s t u v o++l
structure OS where
 X:List Int
 us:List T3
 fl:Nat
 g:Nat
 off:Nat
 Q:List Int
def oH (H:O->O->O->O->O->List O) (n q:Nat) (s:OS):List O :=
 H (.arr 1 1 (mk n s.X)) (.arr 1 3 (s.us.map T3.cs)) (.arr 1 1 [[.i .i64 s.fl]]) (.arr 1 1 [[.own q s.g s.off (s.Q.length-s.off)]]) (.arr s.g 1 (ics s.Q))
def OS.visit (s:OS) (k:Nat) (e:P2):OS :=
 if (k:Int)∈s.X then s
 else if e∈Q2 (tAt s.us k) then ⟨s.X++[(k:Int)],s.us.set k (tAt s.us k).rev,s.fl+1,s.g+1,0,s.Q.drop s.off++[(k:Int)]⟩
 else ⟨s.X++[(k:Int)],s.us,s.fl,s.g+1,0,s.Q.drop s.off++[(k:Int)]⟩
def VisitC (P:Program) (f:FuncId):Prop:=∀(H:O->O->O->O->O->List O) (n a sa b tb c d q:Nat),HB H n a sa b tb c d q->∀(s:OS) (l:List O) (k:Nat) (e:P2),s.us.length=n->k<n->n<=4096->s.fl<=4096->s.off<=s.Q.length->s.Q.length-s.off<=8192 ->
 ACall P f [.i .i64 k,e.enc,.p a 1 0 0,.p b 1 0 0,.p c 1 0 0,.p d 1 0 0] (oH H n q s++l) (λr h'=>r=.t []/\h'=oH H n q (s.visit k e)++(l++[.arr 1 2 [e.cs]]))
theorem idx_at {l:List P2} {e x:P2} {k:Nat} (hp:l[k]?=some x) (hn:e∉l.take k) (h:e=x):e∈l/\l.idxOf e=k:=by
 subst h
 have hlt:=(List.getElem?_eq_some_iff.1 hp).1
 refine⟨List.mem_of_getElem? hp,?_⟩
 have h1:=List.take_append_drop k l
 rw[List.drop_eq_getElem_cons hlt,(List.getElem?_eq_some_iff.1 hp).2]at h1
 have h2:(l.take k++e::l.drop (k+1)).idxOf e=k:=by
  rw[List.idxOf_append,if_neg hn,List.idxOf_cons_self];simp;omega
 rw[h1]at h2
 exact h2
section
variable {P:Program} (hm:P.follows .mixedOrders=true)
include hm
theorem orient_both_ok {f:FuncId} (hf:Q9 P f orient_both.c orient_both.r orient_both.n):UndC P f:=X1 hm hf
set_option maxHeartbeats 4000000 in
theorem slices_IndexE_ok {f:FuncId} (hf:Q9 P f slices_Index_api_Edge_api_Edge.c slices_Index_api_Edge_api_Edge.r slices_Index_api_Edge_api_Edge.n):IdxEC P f:=by
 intro l e hl
 refine PureC.is (Q7 hm hf (Nat.le_of_ble_eq_true rfl) ?_) rfl
 unfold slices_Index_api_Edge_api_Edge.c
 simp[go_sem,psV,P2.enc,P2.cs]
 refine Qe (α:=Nat) (λk=>k<=l.length/\e∉l.take k)
  (λk=>⟨[(0,psV l),(3,.p 0 1 0 0),(6,psV l),(7,.i .i64 l.length),(8,.i .i64 k)],[.arr 1 2 [e.cs]]⟩)
  (λk=>l.length-k) 0 ⟨Nat.zero_le _,by simp⟩ ?_ ?_
 ·simp[go_sem,psV,P2.cs]
 ·rintro k ⟨hk,hn⟩
  by_cases hkl:k=l.length
  ·subst hkl
   rw[List.take_length]at hn
   simp[go_sem,psV,slices_Index_api_Edge_api_Edge.r,hn]
  ·have hlt:k<l.length:=by omega
   have hp:l[k]?=some l[k]:=List.getElem?_eq_getElem hlt
   have htk:=Qd hp
   have hx:=idx_at (e:=e) hp hn
   generalize l[k]=t at hp htk hx
   obtain⟨_,hp'⟩:=List.getElem?_eq_some_iff.1 hp
   simp[go_sem,psV,hlt,hp,hp',pcs]
   refine⟨λh1 h2=>?_,λh=>?_⟩
   ·have het:e=t:=p2_ext h1 h2
    have:=hx het
    simp[go_sem,slices_Index_api_Edge_api_Edge.r,this]
   ·have het:¬ e=t:=λhh=>h (by rw[hh]) (by rw[hh])
    simp (disch:=omega) [go_sem,psV,Q0]
    exact⟨k+1,⟨by omega,by rw[htk];simp[hn,het]⟩,by omega,by omega⟩
theorem Ew {f fi:FuncId} (hf:Q9 P f (slices_Contains_api_Edge_api_Edge.c fi) slices_Contains_api_Edge_api_Edge.r slices_Contains_api_Edge_api_Edge.n) (hi:IdxEC P fi):HasEC P f:=by
 intro l e hl
 refine PureC.is (Q7 hm hf (Nat.le_of_ble_eq_true rfl) ?_) rfl
 unfold slices_Contains_api_Edge_api_Edge.c
 have h1:=hi l e hl
 simp[go_sem,psV,P2.enc,P2.cs]at h1 ⊢
 refine Q3 h1 ?_
 by_cases h:e∈l
 ·simp[go_sem,h,slices_Contains_api_Edge_api_Edge.r]
 ·simp[go_sem,h,slices_Contains_api_Edge_api_Edge.r]
set_option maxHeartbeats 4000000 in
theorem orient_visit_ok {f fe fh fr:FuncId} (hf:Q9 P f (orient_Orient_1.c fe fh fr) orient_Orient_1.r orient_Orient_1.n) (he:Ye P fe) (hh:HasEC P fh) (hr:RevTC P fr):VisitC P f:=by
 intro H n a sa b tb c d q hb s l k e hus hk hn hfl hoff hQ
 refine call_keep hm hf (Nat.le_of_ble_eq_true rfl) ?_
 unfold orient_Orient_1.c
 have ga:=hb.ga
 have gs:=hb.gs
 have gb:=hb.gb
 have gt:=hb.gt
 have gc:=hb.gc
 have gd:=hb.gd
 have gq:=hb.gq
 have ss:=hb.ss
 have st:=hb.st
 have sc:=hb.sc
 have sd:=hb.sd
 have sq:=hb.sq
 obtain⟨N,hN⟩:=hb.len
 have gx:∀s t u v w (o:O),(H s t u v w++(l++[o]))[N+l.length]?=some o:=λs t u v w o=>by
  rw[<- hN s t u v w,Qa,Qc];rfl
 clear hb
 have hmg:=mk_get (n:=n) (d:=s.X) (v:=(k:Int)) (by omega) (by omega)
 have hms:=mk_set (n:=n) (d:=s.X) (v:=(k:Int)) (by omega)
 rw[Int.toNat_natCast]at hmg hms
 obtain⟨hml,hmg'⟩:=List.getElem?_eq_some_iff.1 hmg
 have hlen:(Q2 (tAt s.us k)).length<=3:=Qz _ 3
 have hp:s.us[k]?=some (tAt s.us k):=Ql (by omega)
 have hps:∀t:T3,(s.us.map T3.cs).set k t.cs=(s.us.set k t).map T3.cs:=λt=>by rw[List.map_set]
 unfold oH OS.visit
 have hic:(ics s.Q).drop s.off=ics (s.Q.drop s.off):=by simp[ics]
 have hil:(ics s.Q).length=s.Q.length:=by simp[ics]
 have htk:(ics (s.Q.drop s.off)).take (s.Q.length-s.off)=ics (s.Q.drop s.off):=List.take_of_length_le (by simp[ics])
 have hsn:∀Z:List Int,ics (Z++[(k:Int)])=ics Z++[[.i .i64 (k:Int)]]:=λZ=>by simp[ics]
 have hzl:∀Z:List Int,(Z++[(k:Int)]).length=Z.length+1:=λZ=>by simp
 have hdl:(s.Q.drop s.off).length=s.Q.length-s.off:=by simp
 obtain⟨X,us,fl,g,off,Q⟩:=s
 simp only at *
 generalize hic2:ics Q=C at *
 generalize hD:Q.drop off=D at *
 by_cases hX:(k:Int)∈X
 ·rw[decide_eq_true hX]at hmg hmg'
  simp (disch:=omega) [go_sem,P2.enc,P2.cs,hN,gx,ga,gs,hml,hmg,hmg',hX,orient_Orient_1.r]
  exact⟨hk,by rw[hic2]⟩
 ·rw[decide_eq_false hX]at hmg hmg'
  have he1:=he (tAt us k)
  have hh1:=hh (Q2 (tAt us k)) e (by omega)
  have hr1:=hr (tAt us k)
  generalize tAt us k=t at *
  obtain⟨hpl,hp'⟩:=List.getElem?_eq_some_iff.1 hp
  simp[go_sem,T3.enc,tcs,P2.enc,P2.cs]at he1 hh1 hr1
  simp (disch:=omega) [go_sem,P2.enc,P2.cs,hN,gx,ga,gs,gb,gt,gc,gd,gq,ss,st,sc,sd,sq,hml,hmg,hmg',hms,hX,hpl,hp,hp',tcs]
  refine⟨hk,?_⟩
  refine Qf he1 ?_
  simp[go_sem,hN,gx,ga,gs,gb,gt,gc,gd,gq,ss,st,sc,sd,sq]
  refine Qf hh1 ?_
  by_cases hE:e∈Q2 t
  ·simp (disch:=omega) [go_sem,hE,hN,gx,ga,gs,gb,gt,gc,gd,gq,ss,st,sc,sd,sq,hpl,hp,hp',tcs]
   refine⟨hk,?_⟩
   refine Qf hr1 ?_
   simp (disch:=omega) [go_sem,hN,gx,ga,gs,gb,gt,gc,gd,gq,ss,st,sc,sd,sq,hpl,hp,hp',tcs,hic,hil,htk,hsn,hzl,hdl,Q0,orient_Orient_1.r]
   exact⟨hk,by omega,by omega⟩
  ·simp (disch:=omega) [go_sem,hE,hN,gx,ga,gs,gb,gt,gc,gd,gq,ss,st,sc,sd,sq,hpl,hp,hp',tcs,hic,hil,htk,hsn,hzl,hdl,Q0,orient_Orient_1.r]
   exact⟨by omega,by omega⟩
end
end Go.Abs
set_option linter.unusedVariables false
set_option linter.unusedSimpArgs false
namespace Go.Abs
def evN (b:Nat) (p:Nat × Nat):V:=.own (p.1+b) p.2 0 p.2
theorem UM.clN {hx:List O} {KJ:List (P2 × (Nat × Nat))} {Q:List (P2 × Int)} (h:UM hx KJ Q) {N b:Nat} (hN:hx.length+b<=N):∀e∈KJ.map (asG P2.enc (evN b)),e.1.cl N=true/\e.2.cl N=true:=by
 intro x hx'
 obtain⟨⟨k,j,n⟩,hm,rfl⟩:=List.mem_map.1 hx'
 obtain⟨i,hi⟩:=List.getElem?_of_mem hm
 have:=(List.getElem?_eq_some_iff.1 (h.val i k j n hi).2).1
 refine⟨?_,?_⟩
 ·simp[asG,P2.enc,P2.cs,V.cl,V.cl1,V.cl0]
 ·simp[asG,evN,V.cl,V.cl1,V.cl0];omega
theorem UM.clN2 {hx:List O} {KJ:List (P2 × (Nat × Nat))} {Q:List (P2 × Int)} (h:UM hx KJ Q) {N b:Nat} (hN:hx.length+b<=N):∀(x y:V) (k:P2) (j n:Nat),(k,j,n)∈KJ->asG P2.enc (evN b) (k,j,n)=(x,y)->x.cl N=true/\y.cl N=true:=λx y k j n hm he=>by
 have:=h.clN hN (asG P2.enc (evN b) (k,j,n)) (List.mem_map.2 ⟨_,hm,rfl⟩)
 rw[he]at this
 exact this
theorem BfI.next' {ts:List T3} {D S:List Int} {i k:Nat} {v:Int} {E:List P2} (h:BfI ts D S i k v E) (hE:∀a∈Q2 (tAt ts v.toNat),∃b∈E,b.und=a.und):BfK ts D S (k+1):=λk' w hk' hw j hj=>by
 by_cases hkk:k'=k
 ·subst hkk
  rw[h.at_]at hw
  obtain rfl:=Option.some.inj hw
  obtain⟨e,he,hm⟩:=(adj_us hj.lt.1).1 hj
  obtain⟨b,hb,hbe⟩:=hE e he
  exact h.ed b hb _ (by rw[hbe];exact hm)
 ·exact h.bk k' w (by omega) hw j hj
structure Wk (ts:List T3) (L D S:List Int) (k:Nat) (s:OS):Prop where
 x:s.X=D++S
 len:s.us.length=ts.length
 ori:OrI ts s.us L s.X s.fl
 q:s.Q.drop s.off=S.drop k
 off:s.off<=s.Q.length
theorem Wk.ql {ts:List T3} {L D S:List Int} {k:Nat} {s:OS} (w:Wk ts L D S k s):s.Q.length-s.off=S.length-k:=by
 have:=congrArg List.length w.q
 simpa using this
theorem Wk.top {ts:List T3} {L D:List Int} {s:OS} (w:Wk ts L D [] 0 s) {i:Nat} (hi:i<ts.length) (hLi:L[i]?=some (i:Int)) (hn:(i:Int)∉D):Wk ts L D [(i:Int)] 0 (s.visit i ⟨-1,-1⟩):=by
 have hx:s.X=D:=by rw[w.x];simp
 have hne:(⟨-1,-1⟩:P2)∉Q2 (tAt s.us i):=λh=>absurd rfl (edgesOf_ne h)
 unfold OS.visit
 rw[if_neg (by rw[hx];exact hn),if_neg hne]
 have hq:=w.q
 simp only[List.drop_nil]at hq
 refine⟨by simp only[hx],w.len,w.ori.top hi (by rw[hx];exact hn) hLi,by simp[hq],by simp⟩
theorem Wk.same {ts:List T3} {L D S:List Int} {k:Nat} {s:OS} (w:Wk ts L D S k s) {j:Nat} {e:P2} (h:(j:Int)∈D++S):s.visit j e=s:=by
 unfold OS.visit;rw[if_pos (by rw[w.x];exact h)]
theorem Wk.pop {ts:List T3} {L D S:List Int} {k:Nat} {s:OS} (w:Wk ts L D S k s) {v:Int} (h:S[k]?=some v):Wk ts L D S (k+1) { s with off:=s.off+1 }/\s.Q[s.off]?=some v:=by
 have hk:=(List.getElem?_eq_some_iff.1 h).1
 have hql:=w.ql
 refine⟨⟨w.x,w.len,w.ori,?_,by show s.off+1<=s.Q.length;omega⟩,?_⟩
 ·have:=congrArg (List.drop 1) w.q
  rw[List.drop_drop,List.drop_drop]at this
  exact this
 ·have:(s.Q.drop s.off)[0]?=(S.drop k)[0]?:=by rw[w.q]
  rw[List.getElem?_drop,List.getElem?_drop]at this
  simp only[Nat.add_zero]at this
  rw[this];exact h
theorem Wk.visit {ts:List T3} {L D S:List Int} {i k:Nat} {v:Int} {E:List P2} {s:OS} (hL:IsLab ts L) (hLi:L[i]?=some (i:Int)) (w:Wk ts L D S (k+1) s) (hI:BfI ts D S i k v E) {j:Nat} (hj:j<ts.length) (hadj:adjI ts v.toNat j)
  {e b:P2} (he:e∈Q2 (tAt s.us v.toNat)) (hb:b∈Q2 (tAt ts j)) (hbe:b.und=e.und) (hn:(j:Int)∉D++S) :
  Wk ts L D (S++[(j:Int)]) (k+1) (s.visit j e)/\tAt (s.visit j e).us v.toNat=tAt s.us v.toNat:=by
 obtain⟨v0,vc⟩:=hI.part.mem v (List.mem_of_getElem? hI.at_)
 have hvl:=vc.lt.2
 have hk:=(List.getElem?_eq_some_iff.1 hI.at_).1
 have hvX:((v.toNat:Nat):Int)∈s.X:=by
  rw[w.x,Int.toNat_of_nonneg v0]
  exact List.mem_append.2 (.inr (List.mem_of_getElem? hI.at_))
 have hnX:(j:Int)∉s.X:=by rw[w.x];exact hn
 have hLj:L[j]? ≠ some (j:Int):=by
  intro hh
  have h1:=hL.conn (vc.trans (.tail (.refl hvl) hadj))
  rw[hLi,hh]at h1
  have h2:=Option.some.inj h1
  apply hn
  rw[<- h2]
  exact List.mem_append.2 (.inr hI.part.start)
 have hvj:v.toNat≠j:=by
  rintro rfl
  exact hnX hvX
 have hdr:S.drop (k+1)++[(j:Int)]=(S++[(j:Int)]).drop (k+1):=by rw[List.drop_append_of_le_length (by omega)]
 unfold OS.visit
 rw[if_neg hnX]
 by_cases hE:e∈Q2 (tAt s.us j)
 ·rw[if_pos hE]
  refine⟨⟨by simp only[w.x,List.append_assoc],by simp only[List.length_set,w.len],w.ori.turn hvl hj hvX hnX hLj he hE,by simp only[List.drop_zero,w.q,hdr],by simp⟩,?_⟩
  simp only
  rw[Ek (by rw[w.len];exact hj),if_neg hvj]
 ·rw[if_neg hE]
  exact⟨⟨by simp only[w.x,List.append_assoc],w.len,w.ori.keep hvl hj hvX hnX he hE hb hbe,by simp only[List.drop_zero,w.q,hdr],by simp⟩,rfl⟩
theorem Old.xlen {ts:List T3} {L D:List Int} {i:Nat} (h:Old ts L D i):D.length<=ts.length:=by
 have h2:=K6 (B:=(List.range ts.length).map λ(j:Nat)=>(j:Int)) h.nodup λv hv=>by
  obtain⟨j,rfl,hj,_⟩:=(h.iff v).1 hv
  exact List.mem_map.2 ⟨j,List.mem_range.2 hj,rfl⟩
 simpa using h2
theorem Part.xlen {ts:List T3} {L D S:List Int} {i:Nat} (hD:Old ts L D i) (h:Part ts D S i):(D++S).length<=ts.length:=by
 have h2:=K6 (B:=(List.range ts.length).map λ(j:Nat)=>(j:Int)) h.nodup λv hv=>by
  rcases List.mem_append.1 hv with hv | hv
  ·obtain⟨j,rfl,hj,_⟩:=(hD.iff v).1 hv
   exact List.mem_map.2 ⟨j,List.mem_range.2 hj,rfl⟩
  ·obtain⟨h0,hc⟩:=h.mem v hv
   exact List.mem_map.2 ⟨v.toNat,List.mem_range.2 hc.lt.2,by omega⟩
 simpa using h2
theorem Old.all {ts:List T3} {L D:List Int} (hL:IsLab ts L) (h:Old ts L D ts.length) (i:Nat) (hi:i<ts.length):(i:Int)∈D:=by
 have hv:L[i]?=some (L[i]'(by rw[hL.len];exact hi)):=List.getElem?_eq_getElem _
 generalize L[i]'(by rw[hL.len];exact hi)=v at hv
 have h1:=(hL.con i v hv).2.1
 exact(h.iff _).2 ⟨i,rfl,hi,v,hv,by omega⟩
end Go.Abs
