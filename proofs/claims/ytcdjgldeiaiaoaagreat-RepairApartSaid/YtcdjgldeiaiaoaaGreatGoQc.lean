/- Part of the library on which the proof stands: an abstract machine, its values and its soundness against the model; or what functions of the program do to such values. -/
import Derived.Test.YtcdjgldeiaiaoaaGreatGoRsM
import Derived.Test.YtcdjgldeiaiaoaaGreatGoSkC
import Derived.Test.YtcdjgldeiaiaoaaGreatGoTr
import Derived.Test.YtcdjgldeiaiaoaaGreatGoWeA
import Derived.Test.YtcdjgldeiaiaoaaGreatGoSet
import Derived.Test.YtcdjgldeiaiaoaaGreatGoOriC
import Derived.Test.YtcdjgldeiaiaoaaGreatGoRv
set_option linter.unusedVariables false
set_option linter.unusedSimpArgs false
set_option maxHeartbeats 80000000
set_option maxRecDepth 20000
namespace Go.Abs
section
variable {P:Program} (hm:P.follows .mixedOrders=true)
include hm
theorem Q1t {f:FuncId} (hf:Qc P f L0k.c L0k.r L0k.n):Q5a P f:=by
 intro l hl
 refine PureC.is (Q9 hm hf (qh rfl) ?_) rfl
 unfold L0k.c
 cases l with
 | nil =>
   simp[go_sem,vsV,bLo,bHi,V3.enc,V3.cs,L0k.r]
 | cons v0 vs =>
   generalize hvs:v0::vs=l at hl ⊢
   have hll:0<l.length:=by rw[<- hvs];simp
   have hne:l≠[]:=by rw[<- hvs];simp
   have hq0:l[0]?=some v0:=by rw[<- hvs];rfl
   have eLo:bLo l=Q28 v0 l:=by rw[<- hvs];rfl
   have eHi:bHi l=Q29 v0 l:=by rw[<- hvs];rfl
   obtain⟨_,hq0'⟩:=q8.1 hq0
   clear hvs
   have hlf:((l.length:Int) == 0)=false:=by simp;omega
   rw[eLo,eHi]
   simp (disch:=omega) [go_sem,vsV,hll,hne,hlf,hq0,hq0',V3.cs,show ¬ l.length=0 by omega]
   obtain⟨A,hA⟩:∃A:Nat->V3,∀i,A i=Q28 v0 (l.take i):=⟨_,λ_=>rfl⟩
   obtain⟨B,hB⟩:∃B:Nat->V3,∀i,B i=Q29 v0 (l.take i):=⟨_,λ_=>rfl⟩
   have hA0:A 0=v0:=by rw[hA];rfl
   have hB0:B 0=v0:=by rw[hB];rfl
   have hAn:A l.length=Q28 v0 l:=by rw[hA,qi]
   have hBn:B l.length=Q29 v0 l:=by rw[hB,qi]
   refine Ql (α:=Nat) (λi=>i<=l.length)
    (λi=>⟨[(2,.p 0 1 0 0),(3,.p 1 1 0 0),(5,.p 2 1 0 0),(6,.p 3 1 0 0),(20,vsV l),(21,.i .i64 l.length),(22,.i .i64 i)],[.arr 1 3 [(⟨0,0,0⟩:V3).cs],.arr 1 3 [(⟨0,0,0⟩:V3).cs],.arr 1 3 [(A i).cs],.arr 1 3 [(B i).cs]]⟩)
    (λi=>l.length-i) 0 (Nat.zero_le _) ?_ ?_
   ·simp[go_sem,vsV,V3.cs,hA0,hB0]
   intro i hi
   by_cases hil:i=l.length
   ·subst hil
    rw[hAn,hBn]
    simp[go_sem,vsV,V3.cs,V3.enc,L0k.r]
   have hlt:i<l.length:=by omega
   have hq:l[i]?=some l[i]:=q9 hlt
   have hAs:A (i+1)=⟨min (A i).x (l[i]).x,min (A i).y (l[i]).y,min (A i).z (l[i]).z⟩:=by rw[hA,hA,Qg hq,Qi0]
   have hBs:B (i+1)=⟨max (B i).x (l[i]).x,max (B i).y (l[i]).y,max (B i).z (l[i]).z⟩:=by rw[hB,hB,Qg hq,Qi1]
   generalize l[i]=v at *
   obtain⟨_,hq'⟩:=q8.1 hq
   simp (disch:=omega) [go_sem,vsV,hlt,hq,hq',V3.cs,Q3]
   have e1:∀a b:Int,(if b<a then b else a)=min a b:=by intro a b;split<;>omega
   have e2:∀a b:Int,(if a<b then b else a)=max a b:=by intro a b;split<;>omega
   exact⟨i+1,by omega,by omega,by omega,by rw[hAs];exact⟨e1 _ _,e1 _ _,e1 _ _⟩,by rw[hBs];exact⟨e2 _ _,e2 _ _,e2 _ _⟩⟩
theorem Q7i {f fc fb:FuncId} (hf:Qc P f (L0r.c fc fb) L0r.r L0r.n) (hc:Zp P fc) (hb:Q5a P fb):Qnk P f:=by
 intro m hm0
 have hcc:=hc m
 rw[hm0]at hcc
 have hl:=(Mesh.check_zero.1 hm0).1
 have hbc:=hb m.verts (by omega)
 refine PureC.is (Q9 hm hf (qh rfl) ?_) rfl
 unfold L0r.c
 simp[go_sem,Mesh.enc,Mesh.cs]
 refine Q6 hcc ?_
 simp[go_sem]
 refine Q6 hbc ?_
 simp[go_sem,V3.enc,V3.cs,L0r.r]
theorem Q5k {f fc:FuncId} (hf:Qc P f (L0t.c fc) L0t.r L0t.n) (hc:Zp P fc):Qnm P f:=by
 intro a b
 by_cases hz:a.check=0/\b.check=0
 case neg =>
  have hR:E4 a b=(noMesh,1):=by unfold E4;rw[if_neg hz]
  rw[hR]
  refine CallIs.res ?_ (Qf0 _)
  refine PureC.is (Q9 hm hf (qh rfl) ?_) rfl
  unfold L0t.c
  simp[go_sem,Mesh.enc,Mesh.cs]
  refine Q6 (hc a) ?_
  by_cases h1:a.check=0
  ·have h2:¬ b.check=0:=λh=>hz ⟨h1,h⟩
   have hb:(b.check != 0)=true:=by simpa using h2
   simp[go_sem,h1]
   refine Q6 (hc b) ?_
   simp[go_sem,h2,hb,L0t.r]
  ·have hb:(a.check != 0)=true:=by simpa using h1
   simp[go_sem,h1,hb,L0t.r]
 obtain⟨z1,z2,_,za4⟩:=Mesh.check_zero.1 hz.1
 obtain⟨y1,y2,_,yb4⟩:=Mesh.check_zero.1 hz.2
 by_cases hl:a.verts.length+b.verts.length<=4096/\a.tris.length+b.tris.length<=4096
 case neg =>
  have hR:E4 a b=(noMesh,2):=by unfold E4;rw[if_pos hz,if_neg hl]
  rw[hR]
  refine CallIs.res ?_ (Qf0 _)
  refine PureC.is (Q9 hm hf (qh rfl) ?_) rfl
  unfold L0t.c
  simp[go_sem,Mesh.enc,Mesh.cs,vsV,tsV]
  refine Q6 (hc a) ?_
  simp[go_sem,hz.1]
  refine Q6 (hc b) ?_
  by_cases h1:a.verts.length+b.verts.length<=4096
  ·simp (disch:=omega) [go_sem,hz.2,Q3,show ¬ (4096:Int)<(a.verts.length:Int)+b.verts.length by omega,show (4096:Int)<(a.tris.length:Int)+b.tris.length by omega,L0t.r]
  ·simp (disch:=omega) [go_sem,hz.2,Q3,show (4096:Int)<(a.verts.length:Int)+b.verts.length by omega,L0t.r]
 have hR:E4 a b=(a.join b,0):=by unfold E4;rw[if_pos hz,if_pos hl]
 rw[hR]
 refine PureC.is (Q9 hm hf (qh rfl) ?_) rfl
 unfold L0t.c
 simp[go_sem,Mesh.enc,Mesh.cs,vsV,tsV]
 refine Q6 (hc a) ?_
 simp[go_sem,hz.1]
 refine Q6 (hc b) ?_
 simp (disch:=omega) [go_sem,hz.2,Q3,show ¬ (4096:Int)<(a.verts.length:Int)+b.verts.length by omega,show ¬ (4096:Int)<(a.tris.length:Int)+b.tris.length by omega]
 refine⟨⟨by omega,by omega⟩,⟨by omega,by omega⟩,⟨by omega,by omega⟩,?_⟩
 refine Ql (α:=Nat) (λk=>k<=b.tris.length)
  (λk=>⟨[(4,.p 2 1 0 0),(6,.i .i64 a.verts.length),(7,.p 5 1 0 0),(54,tsV b.tris),(55,.i .i64 b.tris.length),(56,.i .i64 k)],
   [.dead,.dead,.arr 1 2 [[.nil,.nil]],.arr 2 3 (a.verts.map V3.cs++b.verts.map V3.cs),.arr (k+1) 3 ((jtK a b k).map T3.cs),.arr 1 2 [[.own 3 2 0 (a.verts.length+b.verts.length),.own 4 (k+1) 0 (jtK a b k).length]]]⟩)
  (λk=>b.tris.length-k) 0 (Nat.zero_le _) ?_ ?_
 ·have h0:jtK a b 0=a.tris:=by simp[jtK]
  simp[go_sem,tsV,h0,or_imp,forall_and,K5,Zg]
 ·intro k hk
  by_cases hkl:k=b.tris.length
  ·subst hkl
   have hj:a.join b=⟨a.verts++b.verts,jtK a b b.tris.length⟩:=by unfold Mesh.join jtK;rw[qi]
   rw[hj]
   have htk:List.take (jtK a b b.tris.length).length ((jtK a b b.tris.length).map T3.cs)=(jtK a b b.tris.length).map T3.cs:=qe (by simp)
   have htv:List.take (a.verts.length+b.verts.length) (a.verts.map V3.cs++b.verts.map V3.cs)=a.verts.map V3.cs++b.verts.map V3.cs:=qe (by simp)
   generalize jtK a b b.tris.length=T at *
   simp (disch:=omega) [go_sem,tsV,vsV,Mesh.enc,Mesh.cs,L0t.r,Yy,Y4,or_imp,forall_and,htv]
  ·have hlt:k<b.tris.length:=by omega
   have hp:b.tris[k]?=some b.tris[k]:=q9 hlt
   have htm:b.tris[k]∈b.tris:=List.getElem_mem _
   generalize b.tris[k]=t at hp htm
   obtain⟨_,hp'⟩:=q8.1 hp
   obtain⟨a1,a2,b1,b2,c1,c2⟩:=T3.ok_iff.1 (qj.1 yb4 t htm)
   have hjl:=jtK_len (a:=a) (b:=b) (k:=k) (by omega)
   have hjs:=Qkx (a:=a) hp
   have htk:List.take (jtK a b k).length ((jtK a b k).map T3.cs)=(jtK a b k).map T3.cs:=qe (by simp)
   generalize jtK a b k=T at *
   simp (disch:=omega) [go_sem,tsV,hlt,hp,hp',tcs,Q3,htk]
   refine⟨⟨by omega,by omega⟩,k+1,by omega,by omega,?_⟩
   rw[hjs]
   simp[T3.sft,tcs,or_imp,forall_and,K5,Zg]
end
theorem box_x {l:List V3} (h:l≠[]):(∀v∈l,(bLo l).x<=v.x/\v.x<=(bHi l).x)/\(∃u∈l,(bLo l).x=u.x)/\∃u∈l,(bHi l).x=u.x:=by
 cases l with
 | nil=>exact absurd rfl h
 | cons v l =>
   obtain⟨a1,a2,a3⟩:=Qkk V3.x (v::l) v.x
   obtain⟨b1,b2,b3⟩:=Qkj V3.x (v::l) v.x
   have e1:(bLo (v::l)).x=mnF V3.x v.x (v::l):=(Qmr _ _).1
   have e2:(bHi (v::l)).x=mxF V3.x v.x (v::l):=(Qms _ _).1
   rw[e1,e2]
   refine⟨λw hw=>⟨a2 w hw,b2 w hw⟩,?_,?_⟩
   ·rcases a3 with h | ⟨w,hw,h⟩
    ·exact⟨v,by simp,h⟩
    ·exact⟨w,hw,h⟩
   ·rcases b3 with h | ⟨w,hw,h⟩
    ·exact⟨v,by simp,h⟩
    ·exact⟨w,hw,h⟩
theorem Qmu {m:Mesh} (hz:m.check=0) (hf:m.fewR=true) (hne:m.verts≠[]) (hh:¬ 65536<(bHi m.verts).x+((bHi m.verts).x-(bLo m.verts).x+1)) :
  Yb (m.verts.map (·.add ⟨(bHi m.verts).x-(bLo m.verts).x+1,0,0⟩))=true/\Side m ⟨(bHi m.verts).x-(bLo m.verts).x+1,0,0⟩ /\
  E4 m (m.mapV (·.add ⟨(bHi m.verts).x-(bLo m.verts).x+1,0,0⟩))=(m.dbl ⟨(bHi m.verts).x-(bLo m.verts).x+1,0,0⟩,0) /\
  (m.dbl ⟨(bHi m.verts).x-(bLo m.verts).x+1,0,0⟩).check=0/\m.tris.length<=60:=by
 obtain⟨h1,_,_⟩:=box_x hne
 have hv:=(Mesh.check_zero.1 hz).2.2.1
 simp only[Mesh.fewR,Bool.and_eq_true,decide_eq_true_eq]at hf
 generalize (bHi m.verts).x=hi at *
 generalize (bLo m.verts).x=lo at *
 have hmv:Yb (m.verts.map (·.add ⟨hi-lo+1,0,0⟩))=true:=by
  simp only[Yb,qj]
  intro v hv'
  obtain⟨u,hu,rfl⟩:=qp.1 hv'
  have:=V3.valid_iff.1 (qj.1 hv u hu)
  have:=h1 u hu
  refine V3.valid_iff.2 ?_
  simp only[V3.add]
  omega
 have hzm:=Kz hz hmv
 have hl1:(m.mapV (·.add ⟨hi-lo+1,0,0⟩)).verts.length=m.verts.length:=by simp[Mesh.mapV]
 have hl2:(m.mapV (·.add ⟨hi-lo+1,0,0⟩)).tris.length=m.tris.length:=rfl
 have hj:m.join (m.mapV (·.add ⟨hi-lo+1,0,0⟩))=m.dbl ⟨hi-lo+1,0,0⟩:=rfl
 have hjc:=Qd1 hz hzm (by omega) (by omega)
 rw[hj]at hjc
 refine⟨hmv,⟨hz,hmv,λu hu v hv=>?_⟩,?_,hjc,hf.2⟩
 ·have:=h1 u hu
  have:=h1 v hv
  unfold V3.lt V3.add
  simp only[];omega
 ·unfold E4
  rw[if_pos ⟨hz,hzm⟩,if_pos ⟨by omega,by omega⟩,hj]
theorem repR_b (m:Mesh):0<=(Y2 m).2.1.sh/\(Y2 m).2.1.sh<=4096:=by
 rcases Q3a m with⟨h,h2⟩ | ⟨h,hw,hs,hsh⟩
 ·rw[h2];simp only[Rep.zero];omega
 ·have hn:=(Jf hs.z).num
  obtain⟨_,z2,z3,z4⟩:=Mesh.check_zero.1 hs.z
  rw[hsh]
  omega
section
variable {P:Program} (hm:P.follows .mixedOrders=true)
include hm
theorem RepairApart_ok {f ff fc fa fb fv fj fr fo:FuncId} (hf:Qc P f (L06.c ff fc fa fb fv fj fr fo) L06.r L06.n) (hff:Qnz P ff) (hc:Zp P fc) (ha:Qef P fa) (hb:Qnk P fb) (hv:Qnj P fv) (hj:Qnm P fj) (hr:RepC P fr) (ho:Qdz P fo)
  (m:Mesh):PureC P f [m.enc] (·=.b true):=by
 refine Q9 hm hf (qh rfl) ?_
 unfold L06.c
 have f1:=hff m
 have c1:=hc m
 have r1:=hr m
 have o1:=ho (Y2 m).1
 have hrb:=repR_b m
 simp only[Mesh.enc,Mesh.cs]at f1 c1 r1 o1
 simp[go_sem,Mesh.enc,Mesh.cs]
 refine Q6 f1 ?_
 cases h:m.fewR
 ·simp[go_sem]
  refine Q6 ha ?_
  simp[go_sem,L06.r]
 simp[go_sem]
 refine Q6 c1 ?_
 by_cases hz:m.check=0
 case neg =>
  have hz':(m.check != 0)=true:=by simpa using hz
  simp[go_sem,hz,hz']
  refine Q6 ha ?_
  simp[go_sem,L06.r]
 have b1:=hb m hz
 by_cases hne:m.verts=[]
 case pos =>
  simp[go_sem,hz,vsV,hne]
  refine Q6 ha ?_
  simp[go_sem,L06.r]
 rw[show decide (m.verts≠[])=true by simpa using hne]at b1
 have hlf:((m.verts.length:Int) == 0)=false:=by
  simp;exact hne
 have hbx:=box_x hne
 have hap:=Qmu hz h hne
 obtain⟨hx1,⟨u,hu,hul⟩,⟨w,hw,hwl⟩⟩:=hbx
 have hvv:=(Mesh.check_zero.1 hz).2.2.1
 have hvu:=V3.valid_iff.1 (qj.1 hvv u hu)
 have hvw:=V3.valid_iff.1 (qj.1 hvv w hw)
 have hlh:=(hx1 w hw).1
 simp only[Mesh.enc,Mesh.cs]at b1
 generalize bLo m.verts=lo at *
 generalize bHi m.verts=hi at *
 simp[go_sem,hz,vsV,hlf]
 refine Q6 b1 ?_
 simp (disch:=omega) [go_sem,V3.enc,V3.cs,Q3]
 refine⟨λhh=>?_,λhh=>?_⟩
 ·refine Q6 ha ?_
  simp[go_sem,L06.r]
 have hh:¬ 65536<hi.x+(hi.x-lo.x+1):=by omega
 obtain⟨hmv,hS,hjr,hzd,htl⟩:=hap hh
 have v1:=hv m ⟨hi.x-lo.x+1,0,0⟩ (by simp[V3.inR,inI];omega)
 have hmV:E3 m ⟨hi.x-lo.x+1,0,0⟩=Ww (m.mapV (·.add ⟨hi.x-lo.x+1,0,0⟩)) 0:=by
  unfold E3;rw[if_neg (by simpa using hz),if_neg (by simpa using hmv)]
 rw[hmV]at v1
 have j1:=hj m (m.mapV (·.add ⟨hi.x-lo.x+1,0,0⟩))
 rw[hjr]at j1
 have rd:=Qju hS hzd htl
 generalize m.mapV (·.add ⟨hi.x-lo.x+1,0,0⟩)=n at *
 generalize m.dbl ⟨hi.x-lo.x+1,0,0⟩=B at *
 have r2:=hr B
 have o2:=ho (Y2 B).1
 simp only[Mesh.enc,Mesh.cs,V3.enc,V3.cs]at v1 j1 r2 o2
 refine Q6 v1 ?_
 simp[go_sem,Ww,Mesh.enc,Mesh.cs]
 refine Q6 j1 ?_
 simp[go_sem]
 generalize Y2 m=R at *
 generalize Y2 B=S at *
 obtain⟨a,r,e⟩:=R
 obtain⟨b,s,g⟩:=S
 simp only[]at rd hrb r1 r2 o1 o2
 obtain⟨rfl,rd⟩:=rd
 refine Q6 r1 ?_
 simp[go_sem,Q7h,Mesh.enc,Mesh.cs,Rep.cs]
 refine Q6 r2 ?_
 by_cases he:g=0
 case neg =>
  have he':(g != 0)=true:=by simpa using he
  simp[go_sem,Q7h,Mesh.enc,Mesh.cs,Rep.cs,he,he']
  refine Q6 ha ?_
  simp[go_sem,L06.r]
 subst he
 obtain⟨h1,h2,h3,h4,h5,h6,h7⟩:=rd rfl
 simp (config:={maxSteps:=5000000}) (disch:=omega) [go_sem,Q7h,Mesh.enc,Mesh.cs,Rep.cs,Q3,h1,h2]
 refine Qp o2 ?_
 simp (disch:=omega) [go_sem,Q3]
 refine Qp o1 ?_
 simp (disch:=omega) [go_sem,Q3,h3]
 refine Qp ha ?_
 simp[go_sem,L06.r]
end
def Q98 (P:Program) (f:FuncId):Prop:=∀(h:List O) (id id2 g:Nat) (v:V) (ts more:List T3),id≠id2->h[id]?=some (.arr 1 2 [[v,.own id2 g 0 ts.length]])->h[id2]?=some (.arr g 3 (ts.map T3.cs))->ts.length<=4096->more.length<=100000 ->
 ACall P f [.p id 1 0 0,tsV more] h (λr h'=>(4096<ts.length+more.length/\r=.b false/\h'=h) ∨
  (ts.length+more.length<=4096/\r=.b true/\h'=(h.set id2 (.arr (g+1) 3 ((ts++more).map T3.cs))).set id (.arr 1 2 [[v,.own id2 (g+1) 0 (ts++more).length]])))
theorem Q4q (e:Int):Le (.t [.a [.nil,.nil],.i .i64 0,.i .i64 e]) (Bq (noMesh,0,e)) :=
 .inr ⟨_,_,rfl,rfl,.inr ⟨_,_,rfl,rfl,Le0.nil 3,Le0.nil 3,trivial⟩,Le1.refl _,Le1.refl _,trivial⟩
theorem Qj4:∀(ls:List (List Int)) (w:List Int),w∈ls->w.length<=(ls.map List.length).sum
 | [],w,hw=>by simp at hw
 | a::l,w,hw=>by
   rw[List.map_cons,List.sum_cons]
   rcases List.mem_cons.1 hw with rfl | hw
   ·omega
   ·have:=Qj4 l w hw;omega
theorem Qel:∀(ls:List (List Int)),(∀w∈ls,1<=w.length)->ls.length<=(ls.map List.length).sum
 | [],_=>by simp
 | a::l,h=>by
   rw[List.map_cons,List.sum_cons,List.length_cons]
   have:=Qel l (λw hw=>h w (by simp[hw]))
   have:=h a (by simp)
   omega
def trK (m:Mesh) (ls:List (List Int)) (k:Nat):List T3:=m.tris++(ls.take k).flatMap Zk
theorem Qcw {m:Mesh} (h:m.loops.2=0):∀w∈m.loops.1,w.length<=12288:=by
 intro w hw
 have h1:=Ul h
 have h2:=Ih m
 have h3:w.length<=(m.loops.1.map List.length).sum:=by
  exact Qj4 _ w hw
 omega
theorem Qh7 {m:Mesh} (h:m.loops.2=0):m.loops.1.length<=12288:=by
 obtain⟨hz,hs,hls⟩:=Wx h
 have h1:=Ul h
 have h2:=Ih m
 have hL:=Ki hz hs
 rw[<- hls]at hL
 have:m.loops.1.length<=(m.loops.1.map List.length).sum:=by
  have hne:∀w∈m.loops.1,1<=w.length:=λw hw=>List.length_pos_iff.2 (hL.cyc w hw).1
  exact Qel _ hne
 omega
theorem Qhq (w:List Int):(Zk w).length=w.length-2:=by unfold Zk;exact Q4r _ _
section
variable {P:Program} (hm:P.follows .mixedOrders=true)
include hm
theorem Q27 {f:FuncId} (hf:Qc P f L05.c L05.r L05.n):Q98 P f:=by
 intro h id id2 g v ts more hne h1 h2 ht hmo
 refine Q15 hm hf (qh rfl) ?_
 unfold L05.c
 obtain⟨hid2,h2'⟩:=q8.1 h2
 obtain⟨hid,h1'⟩:=q8.1 h1
 have hs1:∀o:O,(h.set id2 o)[id]?=some (.arr 1 2 [[v,.own id2 g 0 ts.length]]):=λo=>by rw[qu (λhh=>hne hh.symm)];exact h1
 have htk:List.take ts.length (ts.map T3.cs)=ts.map T3.cs:=qe (by simp)
 by_cases hlt:4096<ts.length+more.length
 ·simp (disch:=omega) [go_sem,h1,h1',h2,h2',tsV,Q3,show (4096:Int)<(ts.length:Int)+more.length by omega,L05.r]
  exact hlt
 ·simp (disch:=omega) [go_sem,h1,h1',h2,h2',hs1,htk,tsV,Q3,show ¬ (4096:Int)<(ts.length:Int)+more.length by omega,L05.r]
  exact⟨⟨by omega,by omega⟩,by omega⟩
theorem Q5w {f fc fl fcv fct ff fe:FuncId} (hf:Qc P f (L04.c fc fl fcv fct ff fe) L04.r L04.n) (hc:Zp P fc) (hl:Qe8 P fl) (hcv:Yj P fcv 3) (hct:Yj P fct 3) (hff:FanC P ff) (he:Q98 P fe):Qny P f:=by
 intro m
 by_cases hz:m.check=0
 case neg =>
  have hlp:m.loops=([],m.check):=by simp[Mesh.loops,hz]
  have hR:Qt m=(noMesh,0,m.check):=by unfold Qt;rw[hlp,if_neg hz]
  rw[hR]
  refine CallIs.res ?_ (Q4q _)
  refine PureC.is (Q9 hm hf (qh rfl) ?_) rfl
  unfold L04.c
  simp[go_sem,Mesh.enc,Mesh.cs]
  refine Q6 (hc m) ?_
  simp[go_sem,hz,L04.r]
 have hl1:=hl m
 by_cases h0:m.loops.2=0
 case neg =>
  have hR:Qt m=(noMesh,0,m.loops.2):=by unfold Qt;rw[if_neg h0]
  rw[hR]
  refine CallIs.res ?_ (Q4q _)
  refine PureC.is (Q9 hm hf (qh rfl) ?_) rfl
  unfold L04.c
  simp[go_sem,Mesh.enc,Mesh.cs]
  refine Q6 (hc m) ?_
  simp[go_sem,hz]
  refine Q6 hl1 ?_
  simp[go_sem,h0,L04.r]
 obtain⟨z1,z2,z3,z4⟩:=Mesh.check_zero.1 hz
 have hnum:=Qh7 h0
 have heach:=Qcw h0
 have hmain:PureC P f [m.enc] (·=if m.fillM.tris.length<=4096 then Bq (m.fillM,m.loops.1.length,0) else .t [.a [.nil,.nil],.i .i64 0,.i .i64 2]):=by
  refine Q9 hm hf (qh rfl) ?_
  unfold L04.c
  rw[h0]at hl1
  have hfm:m.fillM=⟨m.verts,trK m m.loops.1 m.loops.1.length⟩:=by unfold trK;rw[qi];rfl
  rw[hfm]
  generalize m.loops.1=ls at *
  have hok:(trK m ls ls.length).length<=4096->(if (trK m ls ls.length).length<=4096 then Bq (⟨m.verts,trK m ls ls.length⟩,(ls.length:Int),0) else V.t [.a [.nil,.nil],.i .i64 0,.i .i64 2])=Bq (⟨m.verts,trK m ls ls.length⟩,(ls.length:Int),0):=λh=>if_pos h
  have hno:¬ (trK m ls ls.length).length<=4096->(if (trK m ls ls.length).length<=4096 then Bq (⟨m.verts,trK m ls ls.length⟩,(ls.length:Int),0) else V.t [.a [.nil,.nil],.i .i64 0,.i .i64 2])=V.t [.a [.nil,.nil],.i .i64 0,.i .i64 2]:=λh=>if_neg h
  simp only
  generalize (if (trK m ls ls.length).length<=4096 then Bq (⟨m.verts,trK m ls ls.length⟩,(ls.length:Int),0) else V.t [.a [.nil,.nil],.i .i64 0,.i .i64 2])=RR at *
  simp[go_sem,Mesh.enc,Mesh.cs,vsV,tsV]
  refine Q6 (hc m) ?_
  simp[go_sem,hz]
  refine Q6 hl1 ?_
  simp[go_sem]
  refine Xv (hcv (m.verts.map V3.cs) (by simp[Yy]) (by simp;omega)) (by simp[V.cl,V.cl1,V.cl0]) ?_
  simp[go_sem]
  refine Xv (hct (m.tris.map T3.cs) (by simp[Y4]) (by simp;omega)) (by simp[V.cl,V.cl1,V.cl0]) ?_
  have hsv:∀(n:Nat) (a:V3),List.map (V.sh1 n) a.cs=a.cs:=λn a=>by simp[vcs,V.sh1,V.sh0]
  have hst:∀(n:Nat) (a:T3),List.map (V.sh1 n) a.cs=a.cs:=λn a=>by simp[tcs,V.sh1,V.sh0]
  simp[go_sem,lsV,hsv,hst]
  refine Ql (α:=Nat) (λk=>k<=ls.length/\(trK m ls k).length<=4096)
   (λk=>⟨[(2,.p 1 1 0 0),(6,lsV ls),(8,.p 4 1 0 0),(33,lsV ls),(34,.i .i64 ls.length),(35,.i .i64 k)],
    [.dead,.arr 1 2 [[.nil,.nil]],.arr 1 3 (m.verts.map V3.cs),.arr (k+1) 3 ((trK m ls k).map T3.cs),.arr 1 2 [[.own 2 1 0 m.verts.length,.own 3 (k+1) 0 (trK m ls k).length]]]⟩)
   (λk=>ls.length-k) 0 ⟨Nat.zero_le _,by simpa[trK]using z2⟩ ?_ ?_
  ·have h00:trK m ls 0=m.tris:=by simp[trK]
   simp[go_sem,lsV,h00,hsv,hst,K5,Zg]
  ·rintro k ⟨hk,hT⟩
   by_cases hkl:k=ls.length
   ·subst hkl
    rw[hok hT]
    have htkl:List.take (trK m ls ls.length).length ((trK m ls ls.length).map T3.cs)=(trK m ls ls.length).map T3.cs:=qe (by simp)
    generalize trK m ls ls.length=T at *
    simp[go_sem,lsV,L04.r,Bq,Mesh.enc,Mesh.cs,vsV,tsV,Yy,Y4]
   ·have hlt:k<ls.length:=by omega
    have hp:ls[k]?=some ls[k]:=q9 hlt
    have hmw:ls[k]∈ls:=List.getElem_mem _
    have htk:=Qg hp
    have hpre:ls.flatMap Zk=(ls.take k).flatMap Zk++(Zk ls[k]++(ls.drop (k+1)).flatMap Zk):=by
     have h1:=List.take_append_drop k ls
     rw[List.drop_eq_getElem_cons hlt]at h1
     have h2:=congrArg (List.flatMap Zk) h1
     rw[List.flatMap_append,List.flatMap_cons]at h2
     exact h2.symm
    generalize ls[k]=w at hp hmw htk hpre
    obtain⟨_,hp'⟩:=q8.1 hp
    have hwl:=heach w hmw
    have hfl:=Qhq w
    have hts:trK m ls (k+1)=trK m ls k++Zk w:=by
     unfold trK
     rw[htk,List.flatMap_append,<- j2];simp
    have hov:4096<(trK m ls k).length+(Zk w).length->¬ (trK m ls ls.length).length<=4096:=by
     intro hh
     unfold trK at hh ⊢
     rw[qi,hpre]
     simp only[j3]at hh ⊢
     omega
    have hff1:=hff w (by omega)
    generalize hTk:trK m ls k=T at *
    simp[go_sem,lsV,hlt,hp,hp']
    refine Q6 hff1 ?_
    simp[go_sem]
    refine (he _ 4 3 (k+1) (.own 2 1 0 m.verts.length) T (Zk w) (by omega) rfl rfl hT (by omega)).mono ?_
    rintro r h' (⟨q1,rfl,rfl⟩ | ⟨q1,rfl,rfl⟩)
    ·rw[hno (hov q1)]
     simp[go_sem,lsV,L04.r]
    ·simp (disch:=omega) [go_sem,lsV,Q3]
     refine⟨k+1,⟨by omega,by rw[hts];simpa using q1⟩,by omega,by simp,?_⟩
     rw[hts]
     simp[or_imp,forall_and,K5,Zg]
 by_cases hT:m.fillM.tris.length<=4096
 ·have hR:Qt m=(m.fillM,(m.loops.1.length:Int),0):=by unfold Qt;rw[if_pos h0,if_pos hT]
  rw[if_pos hT]at hmain
  rw[hR]
  exact PureC.is hmain rfl
 ·have hR:Qt m=(noMesh,0,2):=by unfold Qt;rw[if_pos h0,if_neg hT]
  rw[if_neg hT]at hmain
  rw[hR]
  exact CallIs.res (PureC.is hmain rfl) (Q4q _)
end
def Qno (P:Program) (f:FuncId):Prop:=∀(l:List P2) (e:P2),l.length<=1000->CallIs P f [psV l,e.enc] (.b (decide (e∈l)))
def Qnn (P:Program) (f:FuncId):Prop:=∀(l:List P2) (e:P2),l.length<=1000->CallIs P f [psV l,e.enc] (.i .i64 (if e∈l then (l.idxOf e:Int) else -1))
structure HB (H:O->O->O->O->O->List O) (n a sa b tb c d q:Nat):Prop where
 len:∃N,∀s t u v w,(H s t u v w).length=N
 ga:∀s t u v w l,(H s t u v w++l)[a]?=some (.arr 1 1 [[.own sa 1 0 n]])
 gs:∀s t u v w l,(H s t u v w++l)[sa]?=some s
 gb:∀s t u v w l,(H s t u v w++l)[b]?=some (.arr 1 1 [[.own tb 1 0 n]])
 gt:∀s t u v w l,(H s t u v w++l)[tb]?=some t
 gc:∀s t u v w l,(H s t u v w++l)[c]?=some u
 gd:∀s t u v w l,(H s t u v w++l)[d]?=some v
 gq:∀s t u v w l,(H s t u v w++l)[q]?=some w
 ss:∀s t u v w l o,(H s t u v w++l).set sa o=H o t u v w++l
 st:∀s t u v w l o,(H s t u v w++l).set tb o=H s o u v w++l
 sc:∀s t u v w l o,(H s t u v w++l).set c o=H s t o v w++l
 sd:∀s t u v w l o,(H s t u v w++l).set d o=H s t u o w++l
 sq:∀s t u v w l o,(H s t u v w++l).set q o=H s t u v o++l
structure OS where
 X:List Int
 us:List T3
 fl:Nat
 g:Nat
 off:Nat
 Q:List Int
def oH (H:O->O->O->O->O->List O) (n q:Nat) (s:OS):List O :=
 H (.arr 1 1 (mk n s.X)) (.arr 1 3 (s.us.map T3.cs)) (.arr 1 1 [[.i .i64 s.fl]]) (.arr 1 1 [[.own q s.g s.off (s.Q.length-s.off)]]) (.arr s.g 1 (ics s.Q))
def OS.visit (s:OS) (k:Nat) (e:P2):OS :=
 if (k:Int)∈s.X then s
 else if e∈Q5 (tAt s.us k) then ⟨s.X++[(k:Int)],s.us.set k (tAt s.us k).rev,s.fl+1,s.g+1,0,s.Q.drop s.off++[(k:Int)]⟩
 else ⟨s.X++[(k:Int)],s.us,s.fl,s.g+1,0,s.Q.drop s.off++[(k:Int)]⟩
def Qe0 (P:Program) (f:FuncId):Prop:=∀(H:O->O->O->O->O->List O) (n a sa b tb c d q:Nat),HB H n a sa b tb c d q->∀(s:OS) (l:List O) (k:Nat) (e:P2),s.us.length=n->k<n->n<=4096->s.fl<=4096->s.off<=s.Q.length->s.Q.length-s.off<=8192 ->
 ACall P f [.i .i64 k,e.enc,.p a 1 0 0,.p b 1 0 0,.p c 1 0 0,.p d 1 0 0] (oH H n q s++l) (λr h'=>r=.t []/\h'=oH H n q (s.visit k e)++(l++[.arr 1 2 [e.cs]]))
theorem idx_at {l:List P2} {e x:P2} {k:Nat} (hp:l[k]?=some x) (hn:e∉l.take k) (h:e=x):e∈l/\l.idxOf e=k:=by
 subst h
 have hlt:=(q8.1 hp).1
 refine⟨qb hp,?_⟩
 have h1:=List.take_append_drop k l
 rw[List.drop_eq_getElem_cons hlt,(q8.1 hp).2]at h1
 have h2:(l.take k++e::l.drop (k+1)).idxOf e=k:=by
  rw[List.idxOf_append,if_neg hn,List.idxOf_cons_self];simp;omega
 rw[h1]at h2
 exact h2
section
variable {P:Program} (hm:P.follows .mixedOrders=true)
include hm
theorem Q3i {f:FuncId} (hf:Qc P f L0g.c L0g.r L0g.n):Qii P f:=Jm hm hf
theorem Q0b {f:FuncId} (hf:Qc P f L1e.c L1e.r L1e.n):Qnn P f:=by
 intro l e hl
 refine PureC.is (Q9 hm hf (qh rfl) ?_) rfl
 unfold L1e.c
 simp[go_sem,psV,P2.enc,P2.cs]
 refine Ql (α:=Nat) (λk=>k<=l.length/\e∉l.take k)
  (λk=>⟨[(0,psV l),(3,.p 0 1 0 0),(6,psV l),(7,.i .i64 l.length),(8,.i .i64 k)],[.arr 1 2 [e.cs]]⟩)
  (λk=>l.length-k) 0 ⟨Nat.zero_le _,by simp⟩ ?_ ?_
 ·simp[go_sem,psV,P2.cs]
 ·rintro k ⟨hk,hn⟩
  by_cases hkl:k=l.length
  ·subst hkl
   rw[qi]at hn
   simp[go_sem,psV,L1e.r,hn]
  ·have hlt:k<l.length:=by omega
   have hp:l[k]?=some l[k]:=q9 hlt
   have htk:=Qg hp
   have hx:=idx_at (e:=e) hp hn
   generalize l[k]=t at hp htk hx
   obtain⟨_,hp'⟩:=q8.1 hp
   simp[go_sem,psV,hlt,hp,hp',pcs]
   refine⟨λh1 h2=>?_,λh=>?_⟩
   ·have het:e=t:=p2_ext h1 h2
    have:=hx het
    simp[go_sem,L1e.r,this]
   ·have het:¬ e=t:=λhh=>h (by rw[hh]) (by rw[hh])
    simp (disch:=omega) [go_sem,psV,Q3]
    exact⟨k+1,⟨by omega,by rw[htk];simp[hn,het]⟩,by omega,by omega⟩
theorem Uu {f fi:FuncId} (hf:Qc P f (L1d.c fi) L1d.r L1d.n) (hi:Qnn P fi):Qno P f:=by
 intro l e hl
 refine PureC.is (Q9 hm hf (qh rfl) ?_) rfl
 unfold L1d.c
 have h1:=hi l e hl
 simp[go_sem,psV,P2.enc,P2.cs]at h1 ⊢
 refine Q6 h1 ?_
 by_cases h:e∈l
 ·simp[go_sem,h,L1d.r]
 ·simp[go_sem,h,L1d.r]
theorem Q1v {f fe fh fr:FuncId} (hf:Qc P f (L0e.c fe fh fr) L0e.r L0e.n) (he:W9 P fe) (hh:Qno P fh) (hr:Qfj P fr):Qe0 P f:=by
 intro H n a sa b tb c d q hb s l k e hus hk hn hfl hoff hQ
 refine Q15 hm hf (qh rfl) ?_
 unfold L0e.c
 have ga:=hb.ga
 have gs:=hb.gs
 have gb:=hb.gb
 have gt:=hb.gt
 have gc:=hb.gc
 have gd:=hb.gd
 have gq:=hb.gq
 have ss:=hb.ss
 have st:=hb.st
 have sc:=hb.sc
 have sd:=hb.sd
 have sq:=hb.sq
 obtain⟨N,hN⟩:=hb.len
 have gx:∀s t u v w (o:O),(H s t u v w++(l++[o]))[N+l.length]?=some o:=λs t u v w o=>by
  rw[<- hN s t u v w,Qa,Qd];rfl
 clear hb
 have hmg:=Qcv (n:=n) (d:=s.X) (v:=(k:Int)) (by omega) (by omega)
 have hms:=Qcu (n:=n) (d:=s.X) (v:=(k:Int)) (by omega)
 rw[Int.toNat_natCast]at hmg hms
 obtain⟨hml,hmg'⟩:=q8.1 hmg
 have hlen:(Q5 (tAt s.us k)).length<=3:=Ya _ 3
 have hp:s.us[k]?=some (tAt s.us k):=Qk (by omega)
 have hps:∀t:T3,(s.us.map T3.cs).set k t.cs=(s.us.set k t).map T3.cs:=λt=>by rw[List.map_set]
 unfold oH OS.visit
 have hic:(ics s.Q).drop s.off=ics (s.Q.drop s.off):=by simp[ics]
 have hil:(ics s.Q).length=s.Q.length:=by simp[ics]
 have htk:(ics (s.Q.drop s.off)).take (s.Q.length-s.off)=ics (s.Q.drop s.off):=qe (by simp[ics])
 have hsn:∀Z:List Int,ics (Z++[(k:Int)])=ics Z++[[.i .i64 (k:Int)]]:=λZ=>by simp[ics]
 have hzl:∀Z:List Int,(Z++[(k:Int)]).length=Z.length+1:=λZ=>by simp
 have hdl:(s.Q.drop s.off).length=s.Q.length-s.off:=by simp
 obtain⟨X,us,fl,g,off,Q⟩:=s
 simp only at *
 generalize hic2:ics Q=C at *
 generalize hD:Q.drop off=D at *
 by_cases hX:(k:Int)∈X
 ·rw[decide_eq_true hX]at hmg hmg'
  simp (disch:=omega) [go_sem,P2.enc,P2.cs,hN,gx,ga,gs,hml,hmg,hmg',hX,L0e.r]
  exact⟨hk,by rw[hic2]⟩
 ·rw[decide_eq_false hX]at hmg hmg'
  have he1:=he (tAt us k)
  have hh1:=hh (Q5 (tAt us k)) e (by omega)
  have hr1:=hr (tAt us k)
  generalize tAt us k=t at *
  obtain⟨hpl,hp'⟩:=q8.1 hp
  simp[go_sem,T3.enc,tcs,P2.enc,P2.cs]at he1 hh1 hr1
  simp (disch:=omega) [go_sem,P2.enc,P2.cs,hN,gx,ga,gs,gb,gt,gc,gd,gq,ss,st,sc,sd,sq,hml,hmg,hmg',hms,hX,hpl,hp,hp',tcs]
  refine⟨hk,?_⟩
  refine Qp he1 ?_
  simp[go_sem,hN,gx,ga,gs,gb,gt,gc,gd,gq,ss,st,sc,sd,sq]
  refine Qp hh1 ?_
  by_cases hE:e∈Q5 t
  ·simp (disch:=omega) [go_sem,hE,hN,gx,ga,gs,gb,gt,gc,gd,gq,ss,st,sc,sd,sq,hpl,hp,hp',tcs]
   refine⟨hk,?_⟩
   refine Qp hr1 ?_
   simp (disch:=omega) [go_sem,hN,gx,ga,gs,gb,gt,gc,gd,gq,ss,st,sc,sd,sq,hpl,hp,hp',tcs,hic,hil,htk,hsn,hzl,hdl,Q3,L0e.r]
   exact⟨hk,by omega,by omega⟩
  ·simp (disch:=omega) [go_sem,hE,hN,gx,ga,gs,gb,gt,gc,gd,gq,ss,st,sc,sd,sq,hpl,hp,hp',tcs,hic,hil,htk,hsn,hzl,hdl,Q3,L0e.r]
   exact⟨by omega,by omega⟩
end
end Go.Abs
