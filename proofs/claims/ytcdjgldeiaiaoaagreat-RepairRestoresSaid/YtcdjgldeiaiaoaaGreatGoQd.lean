/- Part of the library on which the proof stands: an abstract machine, its values and its soundness against the model; or what functions of the program do to such values. -/
import Derived.Test.YtcdjgldeiaiaoaaGreatGoVs
import Derived.Test.YtcdjgldeiaiaoaaGreatGoShpN
import Derived.Test.YtcdjgldeiaiaoaaGreatGoLq
import Derived.Test.YtcdjgldeiaiaoaaGreatGoWeA
import Derived.Test.YtcdjgldeiaiaoaaGreatGoSet
import Derived.Test.YtcdjgldeiaiaoaaGreatGoOriD
import Derived.Test.YtcdjgldeiaiaoaaGreatGoRpA
set_option linter.unusedVariables false
set_option linter.unusedSimpArgs false
set_option maxHeartbeats 16000000
set_option maxRecDepth 20000
namespace Go.Abs
def bsV (l:List Bool):V:=.l 1 (l.map λb=>[.b b])
theorem Qkd:∀els:List (List V),(∀e∈els,okL [.b] e)->∃l:List Bool,els=l.map λb=>[V.b b] :=
 Qd3 (f:=λb=>[V.b b]) λe h=>by
  simp only[okL,Sch.ok]at h
  obtain⟨_,_,rfl,⟨b,rfl⟩,rfl⟩:=h
  exact⟨b,rfl⟩
theorem par_bs {ps:List (Bool × List Sch)} {us:List V} (h:Xh ((false,[.sl [.b]])::ps) us):∃(l:List Bool) (r:List V),us=bsV l::r/\l.length<=9223372036854775807/\Xh ps r:=by
 simp only[Xh,Q8a]at h
 obtain⟨v,r,rfl,hv,hr⟩:=h
 simp only[okL,Sch.ok]at hv
 obtain⟨x,r',h1,⟨els,rfl,h2,h3⟩,rfl⟩:=hv
 obtain rfl:v=.l 1 els:=by simpa using h1
 obtain⟨l,rfl⟩:=Qkd els h3
 exact⟨l,r,rfl,by simpa using h2,hr⟩
def flF (fs:List Bool) (i:Nat):Bool:=(fs[i]?).getD false
def tk (fs:List Bool) (g:Int) (i:Nat):List T3:=flI (flF fs) boxTris ((List.range i).filter λj=>decide ((j:Int)≠g))
theorem tk_succ (fs:List Bool) (g:Int) (i:Nat):tk fs g (i+1)=tk fs g i++if (i:Int)=g then [] else [fl1 (flF fs i) (tAt boxTris i)]:=by
 unfold tk flI
 rw[List.range_succ,List.filter_append,qx]
 congr 1
 by_cases h:(i:Int)=g<;>simp[h]
theorem tk_12 (fs:List Bool) (g:Int):tk fs g 12=flI (flF fs) boxTris (Qv g):=rfl
theorem tk_len (fs:List Bool) (g:Int) (i:Nat):(tk fs g i).length<=i:=by
 unfold tk flI
 rw[List.length_map]
 have:=j8 (λj:Nat=>decide ((j:Int)≠g)) (List.range i)
 simpa using this
section
variable {P:Program} (hm:P.follows .mixedOrders=true)
include hm
theorem RepairRestores_ok {f fb fa fr fv:FuncId} (hf:Qb P f (L06.c fb fa fr fv) L06.r L06.n) (hb:BoxC P fb) (ha:Qce P fa) (hr:RepC P fr) (hv:Qc0 P fv) (s:V3) (fs:List Bool) (g:Int) (hs:s.inR=true) (hfs:fs.length<=9223372036854775807) :
  PureC P f [s.enc,bsV fs,.i .i64 g] (·=.b true):=by
 have c1:=hb ⟨0,0,0⟩ s (by decide) hs
 refine Q9 hm hf (qh rfl) ?_
 unfold L06.c
 unfold Q9j at c1
 by_cases h1:s.x<1∨s.y<1∨s.z<1
 ·rw[if_pos h1]at c1
  simp only[V3.enc,V3.cs]at c1
  simp[go_sem,V3.enc,V3.cs]
  refine Q6 c1 ?_
  simp[go_sem,Q0r,Z0,Mesh.enc,Mesh.cs]
  refine Q6 ha ?_
  simp[go_sem,L06.r]
 rw[if_neg h1]at c1
 have e0:V3.add ⟨0,0,0⟩ s=s:=by cases s;simp[V3.add]
 rw[e0]at c1
 by_cases h2:s.valid=true
 case neg =>
  rw[if_neg (by simp[h2])]at c1
  simp only[V3.enc,V3.cs]at c1
  simp[go_sem,V3.enc,V3.cs]
  refine Q6 c1 ?_
  simp[go_sem,Q0r,Z0,Mesh.enc,Mesh.cs]
  refine Q6 ha ?_
  simp[go_sem,L06.r]
 rw[if_pos ⟨by decide,h2⟩]at c1
 have hB:Bx s:=⟨by omega,by omega,by omega,h2⟩
 obtain⟨A,r,hrep,hr1,hr2,hr3,hr4⟩:=box_rep hB (flF fs) g
 have c2:=hr ⟨Qk ⟨0,0,0⟩ s,flI (flF fs) boxTris (Qv g)⟩
 rw[hrep]at c2
 have c3:=hv A
 rw[hr2]at c3
 have hval:=V3.valid_iff.1 h2
 have m1:=Qaw (a:=s.x) (b:=s.y) (k:=65536) (m:=65536) (by omega) (by omega)
 simp only[V3.enc,V3.cs,Q0r,Mesh.enc,Mesh.cs]at c1 c2 c3
 have hbl:boxTris.length=12:=rfl
 generalize Qk ⟨0,0,0⟩ s=W at *
 simp[go_sem,V3.enc,V3.cs]
 refine Q6 c1 ?_
 simp[go_sem]
 refine Zv [.t 9 3] (α:=Nat) (λi=>i<=12)
  (λi=>⟨[(1,bsV fs),(2,.i .i64 g),(3,.p 0 1 0 0),(6,.b false),(7,.p 1 1 0 0),(9,.own 2 ((tk fs g i).length+1) 0 (tk fs g i).length),(10,.i .i64 i)],[.arr 1 3 [s.cs],.arr 1 2 [[vsV W,tsV boxTris]],.arr ((tk fs g i).length+1) 3 ((tk fs g i).map T3.cs)]⟩)
  (λi=>12-i) 0 (Nat.zero_le _) ?_ ?_
 ·simp[go_sem,V3.cs,tk,flI]
  exact⟨.inr rfl,rfl,rfl⟩
 intro i hi
 have hTl:=tk_len fs g i
 by_cases hil:i=12
 ·subst hil
  rw[<- tk_12]at c2
  generalize tk fs g 12=T at *
  have hTi:∀el∈T.map T3.cs,∀x∈el,x.isD=true:=λel hel x hx=>by
   obtain⟨t,_,rfl⟩:=qp.1 hel
   simp[T3.cs]at hx
   rcases hx with rfl | rfl | rfl<;>rfl
  have hTa:((T.map T3.cs).all λx=>x.all V.isD)=true:=by
   rw[qj]
   exact λel hel=>qj.2 (hTi el hel)
  have hTt:List.take T.length (T.map T3.cs)=T.map T3.cs:=qe (by simp)
  have hm2:IntKind.i64.wrap (6*s.x)=6*s.x:=Q3 (by omega) (by omega)
  have m2:=Qaw (a:=6*s.x) (b:=s.y) (k:=393216) (m:=65536) (by omega) (by omega)
  have hm3:IntKind.i64.wrap (6*s.x*s.y)=6*s.x*s.y:=Q3 (by omega) (by omega)
  have m3:=Qaw (a:=6*s.x*s.y) (b:=s.z) (k:=25769803776) (m:=65536) (by omega) (by omega)
  have hm4:IntKind.i64.wrap (6*s.x*s.y*s.z)=6*s.x*s.y*s.z:=Q3 (by omega) (by omega)
  simp only[vsV,tsV]at c2 c3
  simp[go_sem,tsV,vsV,hbl]
  refine U6 (vs:=[.a [.l 3 (W.map V3.cs),.l 3 (T.map T3.cs)]]) (by
   simp only[Yq,frz,Jd,List.mapM_cons,List.mapM_nil,List.getElem?_cons_zero,List.getElem?_cons_succ]
   rw[if_pos ⟨trivial,by simp,by rw[List.drop_zero,hTt];exact hTa⟩,List.drop_zero,hTt]
   rfl) c2 ?_
  simp[go_sem,Qag,Mesh.enc,Mesh.cs,Rep.cs,vsV,tsV,hr1,hr3,hbl,V3.cs,hm2,hm3,hm4,V.ids2,V.ids1,V.ids0,Q2q]
  refine Qp c3 ?_
  simp[go_sem,Mesh.enc,Mesh.cs,V3.cs,hm2,hm3,hm4,hr3]
  refine Qp ha ?_
  simp[go_sem,L06.r]
 have hlt:i<boxTris.length:=by omega
 have hq:boxTris[i]?=some boxTris[i]:=q9 hlt
 have hta:tAt boxTris i=boxTris[i]:=by unfold tAt;rw[hq];rfl
 have hsc:=tk_succ fs g i
 rw[hta]at hsc
 generalize boxTris[i]=t at *
 obtain⟨_,hq'⟩:=q8.1 hq
 have hlz:(i:Int)<12:=by omega
 obtain⟨q,hfq,hfq2⟩:∃q,flF fs i=q/\((i<fs.length/\fs[i]?=some q)∨(¬ i<fs.length/\q=false)):=by
  by_cases h:i<fs.length
  ·have:=q9 h
   exact⟨fs[i],by unfold flF;rw[this];rfl,.inl ⟨h,this⟩⟩
  ·exact⟨false,by unfold flF;rw[qk (by omega)];rfl,.inr ⟨h,rfl⟩⟩
 rw[hfq]at hsc
 have htt:List.take (tk fs g i).length ((tk fs g i).map T3.cs)=(tk fs g i).map T3.cs:=qe (by simp)
 generalize tk fs g i=T at *
 by_cases hig:(i:Int)=g
 ·rw[if_pos hig,List.append_nil]at hsc
  subst hig
  rcases hfq2 with⟨hf1,hf2⟩ | ⟨hf1,rfl⟩
  ·obtain⟨_,hf2'⟩:=q8.1 hf2
   cases q<;>simp (disch:=omega) [go_sem,bsV,tsV,T3.cs,hbl,hlt,hq,hq',hlz,hf1,hf2,hf2',Q3]
   all_goals exact⟨i+1,by omega,by omega,⟨by rw[hsc],by omega⟩,rfl,by rw[hsc],by rw[hsc]⟩
  ·simp (disch:=omega) [go_sem,bsV,tsV,T3.cs,hbl,hlt,hq,hq',hlz,hf1,Q3]
   exact⟨i+1,by omega,by omega,⟨by rw[hsc],by omega⟩,rfl,by rw[hsc],by rw[hsc]⟩
 ·rw[if_neg hig]at hsc
  have hne:((i:Int) != g)=true:=by simpa using hig
  rcases hfq2 with⟨hf1,hf2⟩ | ⟨hf1,rfl⟩
  ·obtain⟨_,hf2'⟩:=q8.1 hf2
   cases q<;>simp (disch:=omega) [go_sem,bsV,tsV,T3.cs,hbl,hlt,hq,hq',hlz,hf1,hf2,hf2',hig,hne,htt,Q3]
   all_goals exact⟨⟨by omega,by omega⟩,i+1,by omega,by omega,⟨by rw[hsc];simp,by omega⟩,rfl,by rw[hsc];simp,by rw[hsc];simp[T3.cs,fl1,T3.rev]⟩
  ·simp (disch:=omega) [go_sem,bsV,tsV,T3.cs,hbl,hlt,hq,hq',hlz,hf1,hig,hne,htt,Q3]
   exact⟨⟨by omega,by omega⟩,i+1,by omega,by omega,⟨by rw[hsc];simp,by omega⟩,rfl,by rw[hsc];simp,by rw[hsc];simp[T3.cs,fl1,T3.rev]⟩
end
def Q7g (P:Program) (f:FuncId):Prop:=∀(h:List O) (id id2 g:Nat) (v:V) (ts more:List T3),id≠id2->h[id]?=some (.arr 1 2 [[v,.own id2 g 0 ts.length]])->h[id2]?=some (.arr g 3 (ts.map T3.cs))->ts.length<=4096->more.length<=100000 ->
 ACall P f [.p id 1 0 0,tsV more] h (λr h'=>(4096<ts.length+more.length/\r=.b false/\h'=h) ∨
  (ts.length+more.length<=4096/\r=.b true/\h'=(h.set id2 (.arr (g+1) 3 ((ts++more).map T3.cs))).set id (.arr 1 2 [[v,.own id2 (g+1) 0 (ts++more).length]])))
theorem Q34 (e:Int):Le (.t [.a [.nil,.nil],.i .i64 0,.i .i64 e]) (Ie (Z0,0,e)) :=
 .inr ⟨_,_,rfl,rfl,.inr ⟨_,_,rfl,rfl,Le0.nil 3,Le0.nil 3,trivial⟩,Le1.refl _,Le1.refl _,trivial⟩
theorem Qh2:∀(ls:List (List Int)) (w:List Int),w∈ls->w.length<=(ls.map List.length).sum
 | [],w,hw=>by simp at hw
 | a::l,w,hw=>by
   rw[List.map_cons,List.sum_cons]
   rcases List.mem_cons.1 hw with rfl | hw
   ·omega
   ·have:=Qh2 l w hw;omega
theorem Qco:∀(ls:List (List Int)),(∀w∈ls,1<=w.length)->ls.length<=(ls.map List.length).sum
 | [],_=>by simp
 | a::l,h=>by
   rw[List.map_cons,List.sum_cons,List.length_cons]
   have:=Qco l (λw hw=>h w (by simp[hw]))
   have:=h a (by simp)
   omega
def trK (m:Mesh) (ls:List (List Int)) (k:Nat):List T3:=m.tris++(ls.take k).flatMap Jg
theorem Qb0 {m:Mesh} (h:m.loops.2=0):∀w∈m.loops.1,w.length<=12288:=by
 intro w hw
 have h1:=Q4p h
 have h2:=Eg m
 have h3:w.length<=(m.loops.1.map List.length).sum:=by
  exact Qh2 _ w hw
 omega
theorem Qf3 {m:Mesh} (h:m.loops.2=0):m.loops.1.length<=12288:=by
 obtain⟨hz,hs,hls⟩:=Q8f h
 have h1:=Q4p h
 have h2:=Eg m
 have hL:=Q4q hz hs
 rw[<- hls]at hL
 have:m.loops.1.length<=(m.loops.1.map List.length).sum:=by
  have hne:∀w∈m.loops.1,1<=w.length:=λw hw=>List.length_pos_iff.2 (hL.cyc w hw).1
  exact Qco _ hne
 omega
theorem Qfl (w:List Int):(Jg w).length=w.length-2:=by unfold Jg;exact Q98 _ _
section
variable {P:Program} (hm:P.follows .mixedOrders=true)
include hm
theorem Q0s {f:FuncId} (hf:Qb P f L05.c L05.r L05.n):Q7g P f:=by
 intro h id id2 g v ts more hne h1 h2 ht hmo
 refine Bp hm hf (qh rfl) ?_
 unfold L05.c
 obtain⟨hid2,h2'⟩:=q8.1 h2
 obtain⟨hid,h1'⟩:=q8.1 h1
 have hs1:∀o:O,(h.set id2 o)[id]?=some (.arr 1 2 [[v,.own id2 g 0 ts.length]]):=λo=>by rw[qu (λhh=>hne hh.symm)];exact h1
 have htk:List.take ts.length (ts.map T3.cs)=ts.map T3.cs:=qe (by simp)
 by_cases hlt:4096<ts.length+more.length
 ·simp (disch:=omega) [go_sem,h1,h1',h2,h2',tsV,Q3,show (4096:Int)<(ts.length:Int)+more.length by omega,L05.r]
  exact hlt
 ·simp (disch:=omega) [go_sem,h1,h1',h2,h2',hs1,htk,tsV,Q3,show ¬ (4096:Int)<(ts.length:Int)+more.length by omega,L05.r]
  exact⟨⟨by omega,by omega⟩,by omega⟩
theorem Q45 {f fc fl fcv fct ff fe:FuncId} (hf:Qb P f (L04.c fc fl fcv fct ff fe) L04.r L04.n) (hc:Y3 P fc) (hl:Qc9 P fl) (hcv:Xt P fcv 3) (hct:Xt P fct 3) (hff:FanC P ff) (he:Q7g P fe):Qlh P f:=by
 intro m
 by_cases hz:m.check=0
 case neg =>
  have hlp:m.loops=([],m.check):=by simp[Mesh.loops,hz]
  have hR:Qy m=(Z0,0,m.check):=by unfold Qy;rw[hlp,if_neg hz]
  rw[hR]
  refine CallIs.res ?_ (Q34 _)
  refine PureC.is (Q9 hm hf (qh rfl) ?_) rfl
  unfold L04.c
  simp[go_sem,Mesh.enc,Mesh.cs]
  refine Q6 (hc m) ?_
  simp[go_sem,hz,L04.r]
 have hl1:=hl m
 by_cases h0:m.loops.2=0
 case neg =>
  have hR:Qy m=(Z0,0,m.loops.2):=by unfold Qy;rw[if_neg h0]
  rw[hR]
  refine CallIs.res ?_ (Q34 _)
  refine PureC.is (Q9 hm hf (qh rfl) ?_) rfl
  unfold L04.c
  simp[go_sem,Mesh.enc,Mesh.cs]
  refine Q6 (hc m) ?_
  simp[go_sem,hz]
  refine Q6 hl1 ?_
  simp[go_sem,h0,L04.r]
 obtain⟨z1,z2,z3,z4⟩:=Mesh.check_zero.1 hz
 have hnum:=Qf3 h0
 have heach:=Qb0 h0
 have hmain:PureC P f [m.enc] (·=if m.fillM.tris.length<=4096 then Ie (m.fillM,m.loops.1.length,0) else .t [.a [.nil,.nil],.i .i64 0,.i .i64 2]):=by
  refine Q9 hm hf (qh rfl) ?_
  unfold L04.c
  rw[h0]at hl1
  have hfm:m.fillM=⟨m.verts,trK m m.loops.1 m.loops.1.length⟩:=by unfold trK;rw[qi];rfl
  rw[hfm]
  generalize m.loops.1=ls at *
  have hok:(trK m ls ls.length).length<=4096->(if (trK m ls ls.length).length<=4096 then Ie (⟨m.verts,trK m ls ls.length⟩,(ls.length:Int),0) else V.t [.a [.nil,.nil],.i .i64 0,.i .i64 2])=Ie (⟨m.verts,trK m ls ls.length⟩,(ls.length:Int),0):=λh=>if_pos h
  have hno:¬ (trK m ls ls.length).length<=4096->(if (trK m ls ls.length).length<=4096 then Ie (⟨m.verts,trK m ls ls.length⟩,(ls.length:Int),0) else V.t [.a [.nil,.nil],.i .i64 0,.i .i64 2])=V.t [.a [.nil,.nil],.i .i64 0,.i .i64 2]:=λh=>if_neg h
  simp only
  generalize (if (trK m ls ls.length).length<=4096 then Ie (⟨m.verts,trK m ls ls.length⟩,(ls.length:Int),0) else V.t [.a [.nil,.nil],.i .i64 0,.i .i64 2])=RR at *
  simp[go_sem,Mesh.enc,Mesh.cs,vsV,tsV]
  refine Q6 (hc m) ?_
  simp[go_sem,hz]
  refine Q6 hl1 ?_
  simp[go_sem]
  refine K3 (hcv (m.verts.map V3.cs) (by simp[Jn]) (by simp;omega)) (by simp[V.cl,V.cl1,V.cl0]) ?_
  simp[go_sem]
  refine K3 (hct (m.tris.map T3.cs) (by simp[X0]) (by simp;omega)) (by simp[V.cl,V.cl1,V.cl0]) ?_
  have hsv:∀(n:Nat) (a:V3),List.map (V.sh1 n) a.cs=a.cs:=λn a=>by simp[vcs,V.sh1,V.sh0]
  have hst:∀(n:Nat) (a:T3),List.map (V.sh1 n) a.cs=a.cs:=λn a=>by simp[tcs,V.sh1,V.sh0]
  simp[go_sem,lsV,hsv,hst]
  refine Ql (α:=Nat) (λk=>k<=ls.length/\(trK m ls k).length<=4096)
   (λk=>⟨[(2,.p 1 1 0 0),(6,lsV ls),(8,.p 4 1 0 0),(33,lsV ls),(34,.i .i64 ls.length),(35,.i .i64 k)],
    [.dead,.arr 1 2 [[.nil,.nil]],.arr 1 3 (m.verts.map V3.cs),.arr (k+1) 3 ((trK m ls k).map T3.cs),.arr 1 2 [[.own 2 1 0 m.verts.length,.own 3 (k+1) 0 (trK m ls k).length]]]⟩)
   (λk=>ls.length-k) 0 ⟨Nat.zero_le _,by simpa[trK]using z2⟩ ?_ ?_
  ·have h00:trK m ls 0=m.tris:=by simp[trK]
   simp[go_sem,lsV,h00,hsv,hst,Kp,Zp]
  ·rintro k ⟨hk,hT⟩
   by_cases hkl:k=ls.length
   ·subst hkl
    rw[hok hT]
    have htkl:List.take (trK m ls ls.length).length ((trK m ls ls.length).map T3.cs)=(trK m ls ls.length).map T3.cs:=qe (by simp)
    generalize trK m ls ls.length=T at *
    simp[go_sem,lsV,L04.r,Ie,Mesh.enc,Mesh.cs,vsV,tsV,Jn,X0]
   ·have hlt:k<ls.length:=by omega
    have hp:ls[k]?=some ls[k]:=q9 hlt
    have hmw:ls[k]∈ls:=List.getElem_mem _
    have htk:=Qj hp
    have hpre:ls.flatMap Jg=(ls.take k).flatMap Jg++(Jg ls[k]++(ls.drop (k+1)).flatMap Jg):=by
     have h1:=List.take_append_drop k ls
     rw[List.drop_eq_getElem_cons hlt]at h1
     have h2:=congrArg (List.flatMap Jg) h1
     rw[List.flatMap_append,List.flatMap_cons]at h2
     exact h2.symm
    generalize ls[k]=w at hp hmw htk hpre
    obtain⟨_,hp'⟩:=q8.1 hp
    have hwl:=heach w hmw
    have hfl:=Qfl w
    have hts:trK m ls (k+1)=trK m ls k++Jg w:=by
     unfold trK
     rw[htk,List.flatMap_append,<- j2];simp
    have hov:4096<(trK m ls k).length+(Jg w).length->¬ (trK m ls ls.length).length<=4096:=by
     intro hh
     unfold trK at hh ⊢
     rw[qi,hpre]
     simp only[j3]at hh ⊢
     omega
    have hff1:=hff w (by omega)
    generalize hTk:trK m ls k=T at *
    simp[go_sem,lsV,hlt,hp,hp']
    refine Q6 hff1 ?_
    simp[go_sem]
    refine (he _ 4 3 (k+1) (.own 2 1 0 m.verts.length) T (Jg w) (by omega) rfl rfl hT (by omega)).mono ?_
    rintro r h' (⟨q1,rfl,rfl⟩ | ⟨q1,rfl,rfl⟩)
    ·rw[hno (hov q1)]
     simp[go_sem,lsV,L04.r]
    ·simp (disch:=omega) [go_sem,lsV,Q3]
     refine⟨k+1,⟨by omega,by rw[hts];simpa using q1⟩,by omega,by simp,?_⟩
     rw[hts]
     simp[or_imp,forall_and,Kp,Zp]
 by_cases hT:m.fillM.tris.length<=4096
 ·have hR:Qy m=(m.fillM,(m.loops.1.length:Int),0):=by unfold Qy;rw[if_pos h0,if_pos hT]
  rw[if_pos hT]at hmain
  rw[hR]
  exact PureC.is hmain rfl
 ·have hR:Qy m=(Z0,0,2):=by unfold Qy;rw[if_pos h0,if_neg hT]
  rw[if_neg hT]at hmain
  rw[hR]
  exact CallIs.res (PureC.is hmain rfl) (Q34 _)
end
def Ql6 (P:Program) (f:FuncId):Prop:=∀(l:List P2) (e:P2),l.length<=1000->CallIs P f [psV l,e.enc] (.b (decide (e∈l)))
def Ql5 (P:Program) (f:FuncId):Prop:=∀(l:List P2) (e:P2),l.length<=1000->CallIs P f [psV l,e.enc] (.i .i64 (if e∈l then (l.idxOf e:Int) else -1))
structure HB (H:O->O->O->O->O->List O) (n a sa b tb c d q:Nat):Prop where
 len:∃N,∀s t u v w,(H s t u v w).length=N
 ga:∀s t u v w l,(H s t u v w++l)[a]?=some (.arr 1 1 [[.own sa 1 0 n]])
 gs:∀s t u v w l,(H s t u v w++l)[sa]?=some s
 gb:∀s t u v w l,(H s t u v w++l)[b]?=some (.arr 1 1 [[.own tb 1 0 n]])
 gt:∀s t u v w l,(H s t u v w++l)[tb]?=some t
 gc:∀s t u v w l,(H s t u v w++l)[c]?=some u
 gd:∀s t u v w l,(H s t u v w++l)[d]?=some v
 gq:∀s t u v w l,(H s t u v w++l)[q]?=some w
 ss:∀s t u v w l o,(H s t u v w++l).set sa o=H o t u v w++l
 st:∀s t u v w l o,(H s t u v w++l).set tb o=H s o u v w++l
 sc:∀s t u v w l o,(H s t u v w++l).set c o=H s t o v w++l
 sd:∀s t u v w l o,(H s t u v w++l).set d o=H s t u o w++l
 sq:∀s t u v w l o,(H s t u v w++l).set q o=H s t u v o++l
structure OS where
 X:List Int
 us:List T3
 fl:Nat
 g:Nat
 off:Nat
 Q:List Int
def oH (H:O->O->O->O->O->List O) (n q:Nat) (s:OS):List O :=
 H (.arr 1 1 (mk n s.X)) (.arr 1 3 (s.us.map T3.cs)) (.arr 1 1 [[.i .i64 s.fl]]) (.arr 1 1 [[.own q s.g s.off (s.Q.length-s.off)]]) (.arr s.g 1 (ics s.Q))
def OS.visit (s:OS) (k:Nat) (e:P2):OS :=
 if (k:Int)∈s.X then s
 else if e∈Q5 (tAt s.us k) then ⟨s.X++[(k:Int)],s.us.set k (tAt s.us k).rev,s.fl+1,s.g+1,0,s.Q.drop s.off++[(k:Int)]⟩
 else ⟨s.X++[(k:Int)],s.us,s.fl,s.g+1,0,s.Q.drop s.off++[(k:Int)]⟩
def Qc1 (P:Program) (f:FuncId):Prop:=∀(H:O->O->O->O->O->List O) (n a sa b tb c d q:Nat),HB H n a sa b tb c d q->∀(s:OS) (l:List O) (k:Nat) (e:P2),s.us.length=n->k<n->n<=4096->s.fl<=4096->s.off<=s.Q.length->s.Q.length-s.off<=8192 ->
 ACall P f [.i .i64 k,e.enc,.p a 1 0 0,.p b 1 0 0,.p c 1 0 0,.p d 1 0 0] (oH H n q s++l) (λr h'=>r=.t []/\h'=oH H n q (s.visit k e)++(l++[.arr 1 2 [e.cs]]))
theorem idx_at {l:List P2} {e x:P2} {k:Nat} (hp:l[k]?=some x) (hn:e∉l.take k) (h:e=x):e∈l/\l.idxOf e=k:=by
 subst h
 have hlt:=(q8.1 hp).1
 refine⟨qb hp,?_⟩
 have h1:=List.take_append_drop k l
 rw[List.drop_eq_getElem_cons hlt,(q8.1 hp).2]at h1
 have h2:(l.take k++e::l.drop (k+1)).idxOf e=k:=by
  rw[List.idxOf_append,if_neg hn,List.idxOf_cons_self];simp;omega
 rw[h1]at h2
 exact h2
section
variable {P:Program} (hm:P.follows .mixedOrders=true)
include hm
theorem Q22 {f:FuncId} (hf:Qb P f L0f.c L0f.r L0f.n):Qgg P f:=J4 hm hf
theorem B3 {f:FuncId} (hf:Qb P f L18.c L18.r L18.n):Ql5 P f:=by
 intro l e hl
 refine PureC.is (Q9 hm hf (qh rfl) ?_) rfl
 unfold L18.c
 simp[go_sem,psV,P2.enc,P2.cs]
 refine Ql (α:=Nat) (λk=>k<=l.length/\e∉l.take k)
  (λk=>⟨[(0,psV l),(3,.p 0 1 0 0),(6,psV l),(7,.i .i64 l.length),(8,.i .i64 k)],[.arr 1 2 [e.cs]]⟩)
  (λk=>l.length-k) 0 ⟨Nat.zero_le _,by simp⟩ ?_ ?_
 ·simp[go_sem,psV,P2.cs]
 ·rintro k ⟨hk,hn⟩
  by_cases hkl:k=l.length
  ·subst hkl
   rw[qi]at hn
   simp[go_sem,psV,L18.r,hn]
  ·have hlt:k<l.length:=by omega
   have hp:l[k]?=some l[k]:=q9 hlt
   have htk:=Qj hp
   have hx:=idx_at (e:=e) hp hn
   generalize l[k]=t at hp htk hx
   obtain⟨_,hp'⟩:=q8.1 hp
   simp[go_sem,psV,hlt,hp,hp',pcs]
   refine⟨λh1 h2=>?_,λh=>?_⟩
   ·have het:e=t:=p2_ext h1 h2
    have:=hx het
    simp[go_sem,L18.r,this]
   ·have het:¬ e=t:=λhh=>h (by rw[hh]) (by rw[hh])
    simp (disch:=omega) [go_sem,psV,Q3]
    exact⟨k+1,⟨by omega,by rw[htk];simp[hn,het]⟩,by omega,by omega⟩
theorem U7 {f fi:FuncId} (hf:Qb P f (L17.c fi) L17.r L17.n) (hi:Ql5 P fi):Ql6 P f:=by
 intro l e hl
 refine PureC.is (Q9 hm hf (qh rfl) ?_) rfl
 unfold L17.c
 have h1:=hi l e hl
 simp[go_sem,psV,P2.enc,P2.cs]at h1 ⊢
 refine Q6 h1 ?_
 by_cases h:e∈l
 ·simp[go_sem,h,L17.r]
 ·simp[go_sem,h,L17.r]
theorem Q0g {f fe fh fr:FuncId} (hf:Qb P f (L0d.c fe fh fr) L0d.r L0d.n) (he:Km P fe) (hh:Ql6 P fh) (hr:Qdl P fr):Qc1 P f:=by
 intro H n a sa b tb c d q hb s l k e hus hk hn hfl hoff hQ
 refine Bp hm hf (qh rfl) ?_
 unfold L0d.c
 have ga:=hb.ga
 have gs:=hb.gs
 have gb:=hb.gb
 have gt:=hb.gt
 have gc:=hb.gc
 have gd:=hb.gd
 have gq:=hb.gq
 have ss:=hb.ss
 have st:=hb.st
 have sc:=hb.sc
 have sd:=hb.sd
 have sq:=hb.sq
 obtain⟨N,hN⟩:=hb.len
 have gx:∀s t u v w (o:O),(H s t u v w++(l++[o]))[N+l.length]?=some o:=λs t u v w o=>by
  rw[<- hN s t u v w,Qd,Qf];rfl
 clear hb
 have hmg:=Qaz (n:=n) (d:=s.X) (v:=(k:Int)) (by omega) (by omega)
 have hms:=Qay (n:=n) (d:=s.X) (v:=(k:Int)) (by omega)
 rw[Int.toNat_natCast]at hmg hms
 obtain⟨hml,hmg'⟩:=q8.1 hmg
 have hlen:(Q5 (tAt s.us k)).length<=3:=Y2 _ 3
 have hp:s.us[k]?=some (tAt s.us k):=Qi (by omega)
 have hps:∀t:T3,(s.us.map T3.cs).set k t.cs=(s.us.set k t).map T3.cs:=λt=>by rw[List.map_set]
 unfold oH OS.visit
 have hic:(ics s.Q).drop s.off=ics (s.Q.drop s.off):=by simp[ics]
 have hil:(ics s.Q).length=s.Q.length:=by simp[ics]
 have htk:(ics (s.Q.drop s.off)).take (s.Q.length-s.off)=ics (s.Q.drop s.off):=qe (by simp[ics])
 have hsn:∀Z:List Int,ics (Z++[(k:Int)])=ics Z++[[.i .i64 (k:Int)]]:=λZ=>by simp[ics]
 have hzl:∀Z:List Int,(Z++[(k:Int)]).length=Z.length+1:=λZ=>by simp
 have hdl:(s.Q.drop s.off).length=s.Q.length-s.off:=by simp
 obtain⟨X,us,fl,g,off,Q⟩:=s
 simp only at *
 generalize hic2:ics Q=C at *
 generalize hD:Q.drop off=D at *
 by_cases hX:(k:Int)∈X
 ·rw[decide_eq_true hX]at hmg hmg'
  simp (disch:=omega) [go_sem,P2.enc,P2.cs,hN,gx,ga,gs,hml,hmg,hmg',hX,L0d.r]
  exact⟨hk,by rw[hic2]⟩
 ·rw[decide_eq_false hX]at hmg hmg'
  have he1:=he (tAt us k)
  have hh1:=hh (Q5 (tAt us k)) e (by omega)
  have hr1:=hr (tAt us k)
  generalize tAt us k=t at *
  obtain⟨hpl,hp'⟩:=q8.1 hp
  simp[go_sem,T3.enc,tcs,P2.enc,P2.cs]at he1 hh1 hr1
  simp (disch:=omega) [go_sem,P2.enc,P2.cs,hN,gx,ga,gs,gb,gt,gc,gd,gq,ss,st,sc,sd,sq,hml,hmg,hmg',hms,hX,hpl,hp,hp',tcs]
  refine⟨hk,?_⟩
  refine Qp he1 ?_
  simp[go_sem,hN,gx,ga,gs,gb,gt,gc,gd,gq,ss,st,sc,sd,sq]
  refine Qp hh1 ?_
  by_cases hE:e∈Q5 t
  ·simp (disch:=omega) [go_sem,hE,hN,gx,ga,gs,gb,gt,gc,gd,gq,ss,st,sc,sd,sq,hpl,hp,hp',tcs]
   refine⟨hk,?_⟩
   refine Qp hr1 ?_
   simp (disch:=omega) [go_sem,hN,gx,ga,gs,gb,gt,gc,gd,gq,ss,st,sc,sd,sq,hpl,hp,hp',tcs,hic,hil,htk,hsn,hzl,hdl,Q3,L0d.r]
   exact⟨hk,by omega,by omega⟩
  ·simp (disch:=omega) [go_sem,hE,hN,gx,ga,gs,gb,gt,gc,gd,gq,ss,st,sc,sd,sq,hpl,hp,hp',tcs,hic,hil,htk,hsn,hzl,hdl,Q3,L0d.r]
   exact⟨by omega,by omega⟩
end
def evN (b:Nat) (p:Nat × Nat):V:=.own (p.1+b) p.2 0 p.2
theorem UM.clN {hx:List O} {KJ:List (P2 × (Nat × Nat))} {Q:List (P2 × Int)} (h:UM hx KJ Q) {N b:Nat} (hN:hx.length+b<=N):∀e∈KJ.map (asG P2.enc (evN b)),e.1.cl N=true/\e.2.cl N=true:=by
 intro x hx'
 obtain⟨⟨k,j,n⟩,hm,rfl⟩:=qp.1 hx'
 obtain⟨i,hi⟩:=qr hm
 have:=(q8.1 (h.val i k j n hi).2).1
 refine⟨?_,?_⟩
 ·simp[asG,P2.enc,P2.cs,V.cl,V.cl1,V.cl0]
 ·simp[asG,evN,V.cl,V.cl1,V.cl0];omega
theorem UM.clN2 {hx:List O} {KJ:List (P2 × (Nat × Nat))} {Q:List (P2 × Int)} (h:UM hx KJ Q) {N b:Nat} (hN:hx.length+b<=N):∀(x y:V) (k:P2) (j n:Nat),(k,j,n)∈KJ->asG P2.enc (evN b) (k,j,n)=(x,y)->x.cl N=true/\y.cl N=true:=λx y k j n hm he=>by
 have:=h.clN hN (asG P2.enc (evN b) (k,j,n)) (qp.2 ⟨_,hm,rfl⟩)
 rw[he]at this
 exact this
theorem BfI.next' {ts:List T3} {D S:List Int} {i k:Nat} {v:Int} {E:List P2} (h:BfI ts D S i k v E) (hE:∀a∈Q5 (tAt ts v.toNat),∃b∈E,b.und=a.und):BfK ts D S (k+1):=λk' w hk' hw j hj=>by
 by_cases hkk:k'=k
 ·subst hkk
  rw[h.at_]at hw
  obtain rfl:=Option.some.inj hw
  obtain⟨e,he,hm⟩:=(Qkg hj.lt.1).1 hj
  obtain⟨b,hb,hbe⟩:=hE e he
  exact h.ed b hb _ (by rw[hbe];exact hm)
 ·exact h.bk k' w (by omega) hw j hj
structure Wk (ts:List T3) (L D S:List Int) (k:Nat) (s:OS):Prop where
 x:s.X=D++S
 len:s.us.length=ts.length
 ori:OrI ts s.us L s.X s.fl
 q:s.Q.drop s.off=S.drop k
 off:s.off<=s.Q.length
theorem Wk.ql {ts:List T3} {L D S:List Int} {k:Nat} {s:OS} (w:Wk ts L D S k s):s.Q.length-s.off=S.length-k:=by
 have:=congrArg List.length w.q
 simpa using this
theorem Wk.top {ts:List T3} {L D:List Int} {s:OS} (w:Wk ts L D [] 0 s) {i:Nat} (hi:i<ts.length) (hLi:L[i]?=some (i:Int)) (hn:(i:Int)∉D):Wk ts L D [(i:Int)] 0 (s.visit i ⟨-1,-1⟩):=by
 have hx:s.X=D:=by rw[w.x];simp
 have hne:(⟨-1,-1⟩:P2)∉Q5 (tAt s.us i):=λh=>absurd rfl (Qbl h)
 unfold OS.visit
 rw[if_neg (by rw[hx];exact hn),if_neg hne]
 have hq:=w.q
 simp only[List.drop_nil]at hq
 refine⟨by simp only[hx],w.len,w.ori.top hi (by rw[hx];exact hn) hLi,by simp[hq],by simp⟩
theorem Wk.same {ts:List T3} {L D S:List Int} {k:Nat} {s:OS} (w:Wk ts L D S k s) {j:Nat} {e:P2} (h:(j:Int)∈D++S):s.visit j e=s:=by
 unfold OS.visit;rw[if_pos (by rw[w.x];exact h)]
theorem Wk.pop {ts:List T3} {L D S:List Int} {k:Nat} {s:OS} (w:Wk ts L D S k s) {v:Int} (h:S[k]?=some v):Wk ts L D S (k+1) { s with off:=s.off+1 }/\s.Q[s.off]?=some v:=by
 have hk:=(q8.1 h).1
 have hql:=w.ql
 refine⟨⟨w.x,w.len,w.ori,?_,by show s.off+1<=s.Q.length;omega⟩,?_⟩
 ·have:=congrArg (List.drop 1) w.q
  rw[List.drop_drop,List.drop_drop]at this
  exact this
 ·have:(s.Q.drop s.off)[0]?=(S.drop k)[0]?:=by rw[w.q]
  rw[jc,jc]at this
  simp only[Nat.add_zero]at this
  rw[this];exact h
theorem Wk.visit {ts:List T3} {L D S:List Int} {i k:Nat} {v:Int} {E:List P2} {s:OS} (hL:IsLab ts L) (hLi:L[i]?=some (i:Int)) (w:Wk ts L D S (k+1) s) (hI:BfI ts D S i k v E) {j:Nat} (hj:j<ts.length) (hadj:adjI ts v.toNat j)
  {e b:P2} (he:e∈Q5 (tAt s.us v.toNat)) (hb:b∈Q5 (tAt ts j)) (hbe:b.und=e.und) (hn:(j:Int)∉D++S) :
  Wk ts L D (S++[(j:Int)]) (k+1) (s.visit j e)/\tAt (s.visit j e).us v.toNat=tAt s.us v.toNat:=by
 obtain⟨v0,vc⟩:=hI.part.mem v (qb hI.at_)
 have hvl:=vc.lt.2
 have hk:=(q8.1 hI.at_).1
 have hvX:((v.toNat:Nat):Int)∈s.X:=by
  rw[w.x,Int.toNat_of_nonneg v0]
  exact qg.2 (.inr (qb hI.at_))
 have hnX:(j:Int)∉s.X:=by rw[w.x];exact hn
 have hLj:L[j]? ≠ some (j:Int):=by
  intro hh
  have h1:=hL.conn (vc.trans (.tail (.refl hvl) hadj))
  rw[hLi,hh]at h1
  have h2:=Option.some.inj h1
  apply hn
  rw[<- h2]
  exact qg.2 (.inr hI.part.start)
 have hvj:v.toNat≠j:=by
  rintro rfl
  exact hnX hvX
 have hdr:S.drop (k+1)++[(j:Int)]=(S++[(j:Int)]).drop (k+1):=by rw[List.drop_append_of_le_length (by omega)]
 unfold OS.visit
 rw[if_neg hnX]
 by_cases hE:e∈Q5 (tAt s.us j)
 ·rw[if_pos hE]
  refine⟨⟨by simp only[w.x,j2],by simp only[List.length_set,w.len],w.ori.turn hvl hj hvX hnX hLj he hE,by simp only[List.drop_zero,w.q,hdr],by simp⟩,?_⟩
  simp only
  rw[Wt (by rw[w.len];exact hj),if_neg hvj]
 ·rw[if_neg hE]
  exact⟨⟨by simp only[w.x,j2],w.len,w.ori.keep hvl hj hvX hnX he hE hb hbe,by simp only[List.drop_zero,w.q,hdr],by simp⟩,rfl⟩
theorem Old.xlen {ts:List T3} {L D:List Int} {i:Nat} (h:Old ts L D i):D.length<=ts.length:=by
 have h2:=Wx (B:=(List.range ts.length).map λ(j:Nat)=>(j:Int)) h.nodup λv hv=>by
  obtain⟨j,rfl,hj,_⟩:=(h.iff v).1 hv
  exact qp.2 ⟨j,qz.2 hj,rfl⟩
 simpa using h2
theorem Part.xlen {ts:List T3} {L D S:List Int} {i:Nat} (hD:Old ts L D i) (h:Part ts D S i):(D++S).length<=ts.length:=by
 have h2:=Wx (B:=(List.range ts.length).map λ(j:Nat)=>(j:Int)) h.nodup λv hv=>by
  rcases qg.1 hv with hv | hv
  ·obtain⟨j,rfl,hj,_⟩:=(hD.iff v).1 hv
   exact qp.2 ⟨j,qz.2 hj,rfl⟩
  ·obtain⟨h0,hc⟩:=h.mem v hv
   exact qp.2 ⟨v.toNat,qz.2 hc.lt.2,by omega⟩
 simpa using h2
theorem Old.all {ts:List T3} {L D:List Int} (hL:IsLab ts L) (h:Old ts L D ts.length) (i:Nat) (hi:i<ts.length):(i:Int)∈D:=by
 have hv:L[i]?=some (L[i]'(by rw[hL.len];exact hi)):=q9 _
 generalize L[i]'(by rw[hL.len];exact hi)=v at hv
 have h1:=(hL.con i v hv).2.1
 exact(h.iff _).2 ⟨i,rfl,hi,v,hv,by omega⟩
end Go.Abs
