/- Part of the library on which the proof stands: an abstract machine, its values and its soundness against the model; or what functions of the program do to such values. -/
import Derived.Test.YtjggbpiapinceaaGreatGoSc
import Derived.Test.YtjggbpiapinceaaGreatGoDet
import Derived.Test.YtjggbpiapinceaaGreatGoShp
import Derived.Test.YtjggbpiapinceaaGreatGoMap
import Derived.Test.YtjggbpiapinceaaGreatGoRevC
import Derived.Test.YtjggbpiapinceaaGreatGoRw
import Derived.Test.YtjggbpiapinceaaGreatGoTpD
import Derived.Test.YtjggbpiapinceaaGreatGoSet
set_option linter.unusedVariables false
set_option linter.unusedSimpArgs false
set_option maxHeartbeats 4000000
set_option maxRecDepth 20000
namespace Go.Abs
theorem Qdq (p s:V3):Yy (Qd p s) Qk=6*s.x*s.y*s.z:=by
 have h:∀i:Nat,i<8->vAt (Qd p s) (i:Int)=(Qd p s).getD i ⟨0,0,0⟩:=λi _=>by
  unfold vAt;rw[Int.toNat_natCast,List.getD_eq_getElem?_getD]
 have h0:vAt (Qd p s) 0=⟨p.x,p.y,p.z⟩:=h 0 (by omega)
 have h1:vAt (Qd p s) 1=⟨p.x+s.x,p.y,p.z⟩:=h 1 (by omega)
 have h2:vAt (Qd p s) 2=⟨p.x,p.y+s.y,p.z⟩:=h 2 (by omega)
 have h3:vAt (Qd p s) 3=⟨p.x+s.x,p.y+s.y,p.z⟩:=h 3 (by omega)
 have h4:vAt (Qd p s) 4=⟨p.x,p.y,p.z+s.z⟩:=h 4 (by omega)
 have h5:vAt (Qd p s) 5=⟨p.x+s.x,p.y,p.z+s.z⟩:=h 5 (by omega)
 have h6:vAt (Qd p s) 6=⟨p.x,p.y+s.y,p.z+s.z⟩:=h 6 (by omega)
 have h7:vAt (Qd p s) 7=⟨p.x+s.x,p.y+s.y,p.z+s.z⟩:=h 7 (by omega)
 simp only[Yy,Qk,List.map_cons,List.map_nil,List.sum_cons,List.sum_nil,Q8f,h0,h1,h2,h3,h4,h5,h6,h7,Qa5,Qmk,crs]
 grind
def cr (p q:P2):Int:=p.x*q.y-p.y*q.x
def Im (P:Program) (f:FuncId):Prop:=∀v:V3,CallIs P f [v.enc] (.b (v.within 131072))
def Qez (P:Program) (f:FuncId):Prop:=∀b c:V3,b.valid=true->c.valid=true->CallIs P f [b.enc,c.enc] (crs b c).enc
def DotVC (P:Program) (f:FuncId):Prop:=∀a b:V3,a.valid=true->b.within 8589934592=true->CallIs P f [a.enc,b.enc] (.i .i64 (Qmk a b))
theorem Xa {v:V3} (h:v.valid=true):v.within 131072=true:=by
 have:=V3.valid_iff.1 h
 simp[V3.within];omega
theorem Q8c {v:V3} {a b:Int} (hab:a<=b) (h:v.within a=true):v.within b=true:=by
 simp[V3.within]at h ⊢;omega
theorem Qct {b c:V3} (hb:b.valid=true) (hc:c.valid=true):(crs b c).within 8589934592=true:=by
 have:=crs_b hb hc
 simp[V3.within];omega
section
variable {P:Program} (hm:P.follows .mixedOrders=true)
include hm
theorem Q5w {f fw:FuncId} (hf:Q9 P f (L23.c fw) L23.r L23.n) (hw:Wy P fw):Im P f:=by
 intro v
 refine PureC.is (Q8 hm hf (qh rfl) ?_) rfl
 unfold L23.c
 simp[go_sem,V3.enc,V3.cs]
 refine Q5 ((hw v 131072 (by omega) (by omega)).is rfl) ?_
 simp[go_sem,L23.r]
theorem Q5y {f fs:FuncId} (hf:Q9 P f (L1y.c fs) L1y.r L1y.n) (hs:Im P fs):Qez P f:=by
 intro b c hb hc
 refine PureC.is (Q8 hm hf (qh rfl) ?_) rfl
 unfold L1y.c
 have h1:=hs b
 have h2:=hs c
 rw[Xa hb]at h1
 rw[Xa hc]at h2
 obtain⟨b1,b2,b3,b4,b5,b6⟩:=V3.valid_iff.1 hb
 obtain⟨c1,c2,c3,c4,c5,c6⟩:=V3.valid_iff.1 hc
 have m1:=Kp b3 b4 c5 c6
 have m2:=Kp b5 b6 c3 c4
 have m3:=Kp b5 b6 c1 c2
 have m4:=Kp b1 b2 c5 c6
 have m5:=Kp b1 b2 c3 c4
 have m6:=Kp b3 b4 c1 c2
 have hcr:crs b c=⟨b.y*c.z-b.z*c.y,b.z*c.x-b.x*c.z,b.x*c.y-b.y*c.x⟩:=rfl
 rw[hcr]
 simp[go_sem,V3.enc,V3.cs]at h1 h2 ⊢
 refine Q5 h1 ?_
 simp[go_sem]
 refine Q5 h2 ?_
 simp (disch:=omega) [go_sem,Q3,L1y.r]
theorem Qaw {f fs fw:FuncId} (hf:Q9 P f (L20.c fs fw) L20.r L20.n) (hs:Im P fs) (hw:Wy P fw):DotVC P f:=by
 intro a b ha hb
 refine PureC.is (Q8 hm hf (qh rfl) ?_) rfl
 unfold L20.c
 have h1:=hs a
 have h2:=(hw b 1099511627776 (by omega) (by omega)).is rfl
 rw[Xa ha]at h1
 rw[Q8c (by omega) hb]at h2
 obtain⟨b1,b2,b3,b4,b5,b6⟩:=V3.valid_iff.1 ha
 simp only[V3.within,Bool.and_eq_true,decide_eq_true_eq]at hb
 obtain⟨⟨⟨⟨⟨c1,c2⟩,c3⟩,c4⟩,c5⟩,c6⟩:=hb
 have m1:=Qby b1 b2 c1 c2
 have m2:=Qby b3 b4 c3 c4
 have m3:=Qby b5 b6 c5 c6
 have hd:Qmk a b=a.x*b.x+a.y*b.y+a.z*b.z:=rfl
 rw[hd]
 simp[go_sem,V3.enc,V3.cs]at h1 h2 ⊢
 refine Q5 h1 ?_
 simp[go_sem]
 refine Q5 h2 ?_
 simp (disch:=omega) [go_sem,Q3,L20.r]
theorem Qax {f fs fc fd:FuncId} (hf:Q9 P f (L1z.c fs fc fd) L1z.r L1z.n) (hs:Im P fs) (hc:Qez P fc) (hd:DotVC P fd):DetC P f:=by
 intro x y z hx hy hz
 refine PureC.is (Q8 hm hf (qh rfl) ?_) rfl
 unfold L1z.c
 have h1:=hs y
 have h2:=hs z
 rw[Xa hy]at h1
 rw[Xa hz]at h2
 simp[go_sem,V3.enc,V3.cs]at h1 h2 ⊢
 refine Q5 h1 ?_
 simp[go_sem]
 refine Q5 h2 ?_
 simp[go_sem]
 refine Ql (hc y z hy hz) ?_
 simp[go_sem]
 refine Ql (hd x (crs y z) hx (Qct hy hz)) ?_
 simp[go_sem,L1z.r,Qa5]
theorem Q17 {f fc fd:FuncId} (hf:Q9 P f (L0f.c fc fd) L0f.r L0f.n) (hc:Jl P fc) (hd:DetC P fd):VolC P f:=by
 intro m
 refine PureC.is (Q8 hm hf (qh rfl) ?_) rfl
 unfold L0f.c
 have hv:m.vol6=if m.check=0 then Yy m.verts m.tris else 0:=rfl
 by_cases hz:m.check=0
 case neg =>
  rw[hv,if_neg hz]
  simp[go_sem,Mesh.enc,Mesh.cs]
  refine Q5 (hc m) ?_
  simp[go_sem,hz,L0f.r]
 rw[hv,if_pos hz]
 obtain⟨z1,z2,z3,z4⟩:=Mesh.check_zero.1 hz
 simp[go_sem,Mesh.enc,Mesh.cs]
 refine Q5 (hc m) ?_
 simp[go_sem,hz,vsV,tsV]
 refine Qj (α:=Nat) (λk=>k<=m.tris.length)
  (λk=>⟨[(1,.p 0 1 0 0),(3,.i .i64 (Yy m.verts (m.tris.take k))),(10,tsV m.tris),(11,.i .i64 m.tris.length),(12,.i .i64 k)],[.arr 1 2 [m.cs]]⟩)
  (λk=>m.tris.length-k) 0 (Nat.zero_le _) ?_ ?_
 ·simp[go_sem,Mesh.cs,vsV,tsV,Eb]
 ·intro k hk
  by_cases hkl:k=m.tris.length
  ·subst hkl
   rw[qi]
   simp[go_sem,Mesh.cs,vsV,tsV,L0f.r]
  ·have hlt:k<m.tris.length:=by omega
   have hp:m.tris[k]?=some m.tris[k]:=q9 hlt
   generalize m.tris[k]=t at hp
   obtain⟨_,hp'⟩:=q8.1 hp
   have hok:=Ec z4 hp
   obtain⟨a1,a2,b1,b2,c1,c2⟩:=T3.ok_iff.1 hok
   have ga:=Q1c a1 a2
   have gb:=Q1c b1 b2
   have gc:=Q1c c1 c2
   have va:=Xw z3 a1 a2
   have vb:=Xw z3 b1 b2
   have vc:=Xw z3 c1 c2
   have hb1:=Qie z3 (ts:=m.tris.take k) (by
    simp only[Kr,qj]at z4 ⊢
    exact λx hx=>z4 x (jk hx))
   have hb2:=Qid z3 hok
   have hln:((m.tris.take k).length:Int)<=4096:=by rw[qv];omega
   have hs:Yy m.verts (m.tris.take (k+1))=Yy m.verts (m.tris.take k)+Q8f m.verts t:=by
    rw[List.take_add_one,hp,Qif,Option.toList_some,Wo,Eb];omega
   have hvt:Q8f m.verts t=Qa5 (vAt m.verts t.a) (vAt m.verts t.b) (vAt m.verts t.c):=rfl
   have hdd:=hd _ _ _ va vb vc
   rw[<- hvt]at hdd
   clear hvt
   generalize vAt m.verts t.a=A at *
   generalize vAt m.verts t.b=B at *
   generalize vAt m.verts t.c=C at *
   generalize Yy m.verts (m.tris.take k)=S at *
   generalize Q8f m.verts t=T at *
   obtain⟨ia,ga'⟩:=q8.1 ga
   obtain⟨ib,gb'⟩:=q8.1 gb
   obtain⟨ic,gc'⟩:=q8.1 gc
   simp[go_sem,Mesh.cs,vsV,tsV,hlt,hp,hp',tcs,a1,b1,c1,ga,gb,gc,ia,ib,ic,ga',gb',gc',vcs]
   simp[go_sem,V3.enc,vcs]at hdd
   refine Ql hdd ?_
   simp (disch:=omega) [go_sem,Q3]
   refine⟨k+1,by omega,by omega,?_⟩
   exact⟨hs.symm,by omega⟩
end
structure SoundM (m:Mesh) (v:Int):Prop where
 a:m.closed=true
 b:m.coh=true
 c:m.shells.length=1
 d:m.euler=2
 e:m.vol6=v
 f:0<v
theorem Qj4 {m:Mesh} {v:Int} (hv:Jm m.verts=true) (h:Sphere m.tris m.verts.length) (hl:m.verts.length<=200) (he:Yy m.verts m.tris=v) (hp:0<v):SoundM m v:=by
 have hn:=h.num
 have hz:m.check=0:=Mesh.check_zero.2 ⟨by omega,by omega,hv,h.ok⟩
 obtain⟨a,b,c,d⟩:=h.all hz
 exact⟨a,b,c,d,by unfold Mesh.vol6;rw[if_pos hz,he],hp⟩
theorem Q5n {p s:V3} (h1:1<=s.x) (h2:1<=s.y) (h3:1<=s.z) (hp:p.valid=true) (hs:(p.add s).valid=true):SoundM ⟨Qd p s,Qk⟩ (6*s.x*s.y*s.z):=by
 have q1:=V3.valid_iff.1 hp
 have q2:=V3.valid_iff.1 hs
 simp only[V3.add]at q2
 refine Qj4 ?_ box_sphere (by simp[Qd]) (Qdq p s) ?_
 ·simp only[Jm,Qd,List.all_cons,List.all_nil,Bool.and_true,Bool.and_eq_true]
  refine⟨?_,?_,?_,?_,?_,?_,?_,?_⟩<;>rw[V3.valid_iff]<;>simp only<;>omega
 ·have a1:=Int.mul_pos (show (0:Int)<6*s.x by omega) (show (0:Int)<s.y by omega)
  exact Int.mul_pos a1 (by omega)
def upAt (m:Mesh) (z:Int) (e:P2):Option (Int × Int):=point (m.v e.x) (m.v e.y) z
theorem Qdt {m:Mesh} {z:Int} {e:P2} {p:Int × Int} (h:upAt m z e=some p):e.x≠e.y:=by
 intro he
 unfold upAt point at h
 rw[he]at h
 split at h
 ·rename_i hh;omega
 ·simp at h
theorem Uc {t:T3} {q:P2->Bool} (hq:∀e,q e=true->e.x≠e.y):(Q7 t).countP q=(Js t).countP q:=by
 unfold Q7 Zn
 rw[List.countP_filter,qe (by simp[Js])]
 refine List.countP_congr λe _=>?_
 have:=hq e
 by_cases h:q e=true
 ·simp[h,this h]
 ·simp[h]
theorem Qcs {a b c:V3} {z:Int} (ha:a.valid=true) (hb:b.valid=true) (hc:c.valid=true) (p:Int × Int) :
  ([Q4h z a b c].filter (·.found)).countP (λs=>decide (s.b=p))=[point a b z,point b c z,point c a z].countP (λo=>decide (o=some p)) /\
  ([Q4h z a b c].filter (·.found)).countP (λs=>decide (s.a=p))=[point b a z,point c b z,point a c z].countP (λo=>decide (o=some p)):=by
 by_cases h1:a.z<=z<;>by_cases h2:b.z<=z<;>by_cases h3:c.z<=z <;>
  simp[Q4h,Jf,Sg4.init,Sg4.step,point,ha,hb,hc,h1,h2,h3,Int.not_lt.2,Int.not_le.1,show (z<a.z)=¬ (a.z<=z) by simp,show (z<b.z)=¬ (b.z<=z) by simp,show (z<c.z)=¬ (c.z<=z) by simp,List.countP_cons]
theorem P2.rev_rev (e:P2):e.rev.rev=e:=rfl
theorem Q24 {m:Mesh} {z:Int} (hv:Jm m.verts=true) (p:Int × Int):∀ts:List T3,Kr m.verts.length ts=true ->
  (Qs m z ts).countP (λs=>decide (s.b=p))=(Qa ts).countP (λe=>decide (upAt m z e=some p)) /\
  (Qs m z ts).countP (λs=>decide (s.a=p))=(Qa ts).countP (λe=>decide (upAt m z e.rev=some p))
 | [],_=>⟨rfl,rfl⟩
 | t::ts,h=>by
   simp only[Kr,List.all_cons,Bool.and_eq_true]at h
   have ih:=Q24 (z:=z) hv p ts h.2
   obtain⟨_,h1,_,h2,_,h3⟩:=T3.ok_iff.1 h.1
   have hs:Qs m z (t::ts)=[Yn m z t].filter (·.found)++Qs m z ts:=by
    simp only[Qs,List.map_cons,List.filter_cons,List.filter_nil]
    split<;>rfl
   have ha:Qa (t::ts)=Q7 t++Qa ts:=rfl
   have hc:=Qcs (z:=z) (Mesh.v_valid hv h1) (Mesh.v_valid hv h2) (Mesh.v_valid hv h3) p
   rw[hs,ha,List.countP_append,List.countP_append,List.countP_append,List.countP_append,ih.1,ih.2,
    Uc (λe he=>Qdt (of_decide_eq_true he)),Uc (λe he=>λhh=>Qdt (of_decide_eq_true he) hh.symm)]
   unfold Yn
   rw[hc.1,hc.2]
   exact⟨rfl,rfl⟩
theorem Q7j {m:Mesh} (h:m.closed=true) (e:P2):(Qa m.tris).count e=(Qa m.tris).count e.rev:=by
 simp only[Mesh.closed,Bool.and_eq_true,decide_eq_true_eq]at h
 obtain⟨hz,hb⟩:=h
 have key:∀e:P2,(Qa m.tris).count e<=(Qa m.tris).count e.rev:=by
  intro e
  by_cases he:e∈Qa m.tris
  ·refine j7 λhlt=>?_
   have:e∈m.border:=mem_border.2 ⟨hz,he,by simp only[Mesh.use,hz,if_true];omega⟩
   rw[hb]at this;simp at this
  ·rw[List.count_eq_zero.2 he];omega
 have h1:=key e
 have h2:=key e.rev
 rw[P2.rev_rev]at h2
 omega
theorem Qa7 {m:Mesh} (h:m.closed=true):(Qa m.tris).Perm ((Qa m.tris).map P2.rev):=by
 rw[List.perm_iff_count]
 intro e
 rw[Q7j h e,List.count,List.count,List.countP_map]
 refine List.countP_congr λx _=>?_
 simp only[Function.comp,beq_iff_eq]
 constructor
 ·rintro rfl;rfl
 ·rintro rfl;rfl
theorem Q3v {m:Mesh} {z:Int} (h:m.closed=true) (p:Int × Int) :
  (Ze m z).1.countP (λs=>decide (s.a=p))=(Ze m z).1.countP (λs=>decide (s.b=p)):=by
 have hz:m.check=0:=by
  simp only[Mesh.closed,Bool.and_eq_true,decide_eq_true_eq]at h;exact h.1
 obtain⟨z1,z2,z3,z4⟩:=Mesh.check_zero.1 hz
 unfold Ze
 rw[if_pos hz]
 split
 ·rfl
 ·have hc:=Q24 (z:=z) z3 p m.tris z4
  simp only
  rw[hc.1,hc.2,(Qa7 h).countP_eq,List.countP_map]
  rfl
theorem Qk0 {m:Mesh} {n:Nat} (h:Sphere m.tris n) (hz:m.check=0) {sh:List Int} (hs:sh∈m.shells):Zj m.tris sh=m.tris:=by
 obtain⟨L,hL⟩:=Q6t m.tris
 have hR:m.shells=Xr L m.tris.length:=by unfold Mesh.shells;rw[if_pos hz,I7 hL,hL.len]
 rw[hR]at hs
 obtain⟨i,hi,hLi,rfl⟩:=shsK_mem.1 hs
 have hall:∀j,j<m.tris.length->L[j]?=some (i:Int):=λj hj=>by
  rw[<- hL.conn (h.one j hj),hL.conn (h.one i hi)];exact hLi
 have hsh:shK L i L.length=(List.range m.tris.length).map λ(j:Nat)=>(j:Int):=by
  unfold shK
  rw[hL.len]
  congr 1
  refine List.filter_eq_self.2 λj hj=>?_
  simpa using hall j (qy.1 hj)
 rw[hsh]
 unfold Zj
 rw[List.map_map]
 refine qx λj=>?_
 rw[qp]
 by_cases hj:j<m.tris.length
 ·rw[ji hj,Zq hj];rfl
 ·rw[qk (by simpa using hj),qk (by simpa using hj)];rfl
theorem box_ok {p s:V3} (h1:1<=s.x) (h2:1<=s.y) (h3:1<=s.z) (hp:p.valid=true) (hs:(p.add s).valid=true):(Mesh.mk (Qd p s) Qk).check=0/\Bw ⟨Qd p s,Qk⟩=0:=by
 have q1:=V3.valid_iff.1 hp
 have q2:=V3.valid_iff.1 hs
 simp only[V3.add]at q2
 have hv:Jm (Qd p s)=true:=by
  simp only[Jm,Qd,List.all_cons,List.all_nil,Bool.and_true,Bool.and_eq_true]
  refine⟨?_,?_,?_,?_,?_,?_,?_,?_⟩<;>rw[V3.valid_iff]<;>simp only<;>omega
 have hz:(Mesh.mk (Qd p s) Qk).check=0:=Mesh.check_zero.2 ⟨by simp[Qd],by simp[Qk],hv,box_sphere.ok⟩
 have hb:=Q5n h1 h2 h3 hp hs
 refine⟨hz,snd_iff.2 ⟨hz,hb.a,box_sphere.coh,λt ht=>?_,λsh hsh=>?_⟩⟩
 ·have hxy:s.x*s.y≠0:=Int.mul_ne_zero (by omega) (by omega)
  have hxz:s.x*s.z≠0:=Int.mul_ne_zero (by omega) (by omega)
  have hyz:s.y*s.z≠0:=Int.mul_ne_zero (by omega) (by omega)
  have key:∀a b c:V3,(b.sub a).crs (c.sub a)≠⟨0,0,0⟩->We a b c=false:=λa b c h=>by
   unfold We
   rw[decide_eq_false h]
   simp
  unfold Mesh.deg
  simp only[Qk,List.mem_cons,List.not_mem_nil,or_false]at ht
  rcases ht with rfl | rfl | rfl | rfl | rfl | rfl | rfl | rfl | rfl | rfl | rfl | rfl<;>refine key _ _ _ λhe=>?_<;>simp[Mesh.v,Qd,V3.sub,V3.crs]at he<;>(rcases Int.mul_eq_zero.1 he with he | he)<;>omega
 ·rw[Qk0 (m:=Mesh.mk (Qd p s) Qk) box_sphere hz hsh]
  have:=hb.e
  have hf:=hb.f
  have e:Yy (Qd p s) Qk=6*s.x*s.y*s.z:=Qdq p s
  show 0<=Yy (Qd p s) Qk
  rw[e];omega
theorem Qmw {l:List Sg4} (h:∀p:Int × Int,l.countP (λs=>decide (s.a=p))=l.countP (λs=>decide (s.b=p))):BalE (egs l):=by
 intro q
 have:=h (q.x,q.y)
 unfold egs
 rw[List.countP_map,List.countP_map]
 have e1:∀s:Sg4,decide (s.a=(q.x,q.y))=decide (s.eg.1=q):=λs=>by
  refine decide_eq_decide.2 ?_
  unfold Sg4.eg
  cases q
  simp[Prod.ext_iff]
 have e2:∀s:Sg4,decide (s.b=(q.x,q.y))=decide (s.eg.2=q):=λs=>by
  refine decide_eq_decide.2 ?_
  unfold Sg4.eg
  cases q
  simp[Prod.ext_iff]
 rw[List.countP_congr (p:=λs:Sg4=>decide (s.a=(q.x,q.y))) (q:=(λe=>decide (e.1=q)) ∘ Sg4.eg) (λs _=>by simp only[e1,Function.comp])]at this
 rw[List.countP_congr (p:=λs:Sg4=>decide (s.b=(q.x,q.y))) (q:=(λe=>decide (e.2=q)) ∘ Sg4.eg) (λs _=>by simp only[e2,Function.comp])]at this
 exact this
theorem Q67 {m:Mesh} (hc:m.closed=true) {z k:Int} (hz:-65536<=z/\z<=65536) (hk:Yq k 32 1024=true):Qn m z k=(Jz (egs (Qs m z m.tris)) k,0):=by
 have hz0:m.check=0:=by
  simp only[Mesh.closed,Bool.and_eq_true,decide_eq_true_eq]at hc;exact hc.1
 have hs:Ze m z=(Qs m z m.tris,0):=by
  unfold Ze
  rw[if_pos hz0,if_neg (by omega)]
 have hb:=Qmw (l:=(Ze m z).1) (Q3v hc)
 unfold Qn
 rw[hs]at hb ⊢
 rw[if_neg (by rw[hk];simp),if_neg (by simp),if_pos hb]
theorem Qhb (c z0 z1 z:Int) (h1:z0<=z) (h2:z<z1):Q4i c c z0 z1 z=c:=by
 have:=Q7h (c0:=c) (c1:=c) h1 h2
 omega
theorem Wv {c d e:Int} (P:P2):Q1a (⟨c,e⟩,⟨d,e⟩) P=0:=by
 unfold Q1a
 rw[if_neg (by simp only[];omega),if_neg (by simp only[];omega)]
theorem Qel {c a b:Int} (h:a<=b) (P:P2):Q1a (⟨c,a⟩,⟨c,b⟩) P=if a<=P.y/\P.y<b/\P.x<c then 1 else 0:=by
 unfold Q1a
 simp only[]
 have e:Jg ⟨c,a⟩ ⟨c,b⟩ P=(b-a)*(c-P.x):=by unfold Jg;simp only[];grind
 rw[e]
 by_cases h1:a<=P.y/\P.y<b
 ·by_cases h2:P.x<c
  ·rw[if_pos ⟨h1.1,h1.2,Int.mul_pos (by omega) (by omega)⟩,if_pos ⟨h1.1,h1.2,h2⟩]
  ·have:(b-a)*(c-P.x)<=0:=Int.mul_nonpos_of_nonneg_of_nonpos (by omega) (by omega)
   rw[if_neg (by omega),if_neg (by omega),if_neg (by omega)]
 ·rw[if_neg (by omega),if_neg (by omega),if_neg (by omega)]
theorem Qem {c a b:Int} (h:b<=a) (P:P2):Q1a (⟨c,a⟩,⟨c,b⟩) P=if b<=P.y/\P.y<a/\P.x<c then -1 else 0:=by
 unfold Q1a
 simp only[]
 have e:Jg ⟨c,a⟩ ⟨c,b⟩ P=-((a-b)*(c-P.x)):=by unfold Jg;simp only[];grind
 rw[e]
 by_cases h1:b<=P.y/\P.y<a
 ·by_cases h2:P.x<c
  ·have:=Int.mul_pos (show 0<a-b by omega) (show 0<c-P.x by omega)
   rw[if_neg (by omega),if_pos (by omega),if_pos ⟨h1.1,h1.2,h2⟩]
  ·have:(a-b)*(c-P.x)<=0:=Int.mul_nonpos_of_nonneg_of_nonpos (by omega) (by omega)
   rw[if_neg (by omega),if_neg (by omega),if_neg (by omega)]
 ·rw[if_neg (by omega),if_neg (by omega),if_neg (by omega)]
theorem box_wnd {p s:V3} (h1:1<=s.x) (h2:1<=s.y) (h3:1<=s.z) (hp:p.valid=true) (hs:(p.add s).valid=true) {z:Int} (z1:p.z<=z) (z2:z<p.z+s.z) (P:P2) :
  0<wnd (egs (Qs ⟨Qd p s,Qk⟩ z Qk)) P↔(p.x<=P.x/\P.x<p.x+s.x)/\p.y<=P.y/\P.y<p.y+s.y:=by
 have q1:=V3.valid_iff.1 hp
 have q2:=V3.valid_iff.1 hs
 simp only[V3.add]at q2
 have val:∀x y w:Int,(p.x<=x/\x<=p.x+s.x)->(p.y<=y/\y<=p.y+s.y)->(p.z<=w/\w<=p.z+s.z)->(⟨x,y,w⟩:V3).valid=true:=λx y w a b c=>by
  rw[V3.valid_iff];simp only;omega
 have v0:=val p.x p.y p.z (by omega) (by omega) (by omega)
 have v1:=val (p.x+s.x) p.y p.z (by omega) (by omega) (by omega)
 have v2:=val p.x (p.y+s.y) p.z (by omega) (by omega) (by omega)
 have v3:=val (p.x+s.x) (p.y+s.y) p.z (by omega) (by omega) (by omega)
 have v4:=val p.x p.y (p.z+s.z) (by omega) (by omega) (by omega)
 have v5:=val (p.x+s.x) p.y (p.z+s.z) (by omega) (by omega) (by omega)
 have v6:=val p.x (p.y+s.y) (p.z+s.z) (by omega) (by omega) (by omega)
 have v7:=val (p.x+s.x) (p.y+s.y) (p.z+s.z) (by omega) (by omega) (by omega)
 have n1:¬ z<p.z:=by omega
 have n2:¬ p.z+s.z<=z:=by omega
 have sm:=λc=>Qhb c p.z (p.z+s.z) z z1 z2
 obtain⟨L,hL⟩:∃L,egs (Qs ⟨Qd p s,Qk⟩ z Qk)=L:=⟨_,rfl⟩
 rw[hL]
 simp[egs,Qs,Yn,Qk,Mesh.v,Qd,Q4h,Jf,Sg4.init,Sg4.step,Sg4.eg,point,v0,v1,v2,v3,v4,v5,v6,v7,z1,z2,n1,n2,sm]at hL
 have hy:=Q7h (c0:=p.y) (c1:=p.y+s.y) z1 z2
 generalize Q4i p.x (p.x+s.x) p.z (p.z+s.z) z=a at hL
 generalize Q4i p.y (p.y+s.y) p.z (p.z+s.z) z=q at hL hy
 rw[<- hL]
 simp only[Ea,wnd_nil]
 rw[Wv,Wv,Wv,Wv,Qem (by omega),Qem (by omega),Qel (by omega),Qel (by omega)]
 constructor
 ·intro h
  by_cases c1:p.y<=P.y/\P.y<q<;>by_cases c2:q<=P.y/\P.y<p.y+s.y<;>by_cases c3:P.x<p.x<;>by_cases c4:P.x<p.x+s.x<;>simp[c1,c2,c3,c4]at h<;>omega
 ·rintro⟨⟨c3,c4⟩,c1,c2⟩
  by_cases c5:P.y<q
  ·rw[if_neg (by omega),if_neg (by omega),if_neg (by omega),if_pos ⟨c1,c5,c4⟩];omega
  ·rw[if_neg (by omega),if_neg (by omega),if_pos ⟨by omega,c2,c4⟩,if_neg (by omega)];omega
def W2 (x y w d:Int):List Rw:=(List.range d.toNat).map λ(i:Nat)=>⟨y+i,[⟨x,x+w⟩]⟩
theorem Qe0 {x y w d:Int} (hw:1<=w):RgV (W2 x y w d):=by
 refine⟨λr hr=>?_,λr hr=>?_,?_⟩
 ·obtain⟨i,_,rfl⟩:=qo.1 hr
  exact⟨by simp;omega,by simp⟩
 ·obtain⟨i,_,rfl⟩:=qo.1 hr
  simp
 ·unfold W2
  rw[jd]
  exact List.pairwise_lt_range.imp λ{a b} h=>by simp only[];omega
theorem in_rectR {x y w d b a:Int}:Z0 (W2 x y w d) b a↔(y<=b/\b<y+d)/\x<=a/\a<x+w:=by
 constructor
 ·rintro⟨r,hr,rfl,hx⟩
  obtain⟨i,hi,rfl⟩:=qo.1 hr
  have:=qy.1 hi
  rw[inRns_cons]at hx
  simp only[Qi,or_false]at hx
  exact⟨by simp only[];omega,hx⟩
 ·rintro⟨h1,h2⟩
  refine⟨⟨y+((b-y).toNat:Int),[⟨x,x+w⟩]⟩,qo.2 ⟨(b-y).toNat,qy.2 (by omega),rfl⟩,by simp only[];omega,inRns_cons.2 (.inl h2)⟩
theorem Q1k {x X k:Int} (hk:2<=k):x*k<=X*k+k / 2↔x<=X:=by
 constructor
 ·intro h
  refine j7 λhn=>?_
  have h2:=jh (show X+1<=x by omega) (show 0<=k by omega)
  have e:(X+1)*k=X*k+k:=by grind
  omega
 ·intro h
  have h2:=jh h (show 0<=k by omega)
  omega
theorem box_ras {x y w d k:Int} {p s:V3} (hw:1<=w) (hd:1<=d) (hk:32<=k) (hx:-4096<=x/\x+w<=4096) (hy:-4096<=y/\y+d<=4096) (px:p.x=x*k) (py:p.y=y*k) (sx:s.x=w*k) (sy:s.y=d*k)
  (h3:1<=s.z) (hp:p.valid=true) (hs:(p.add s).valid=true) {z:Int} (z1:p.z<=z) (z2:z<p.z+s.z):Jz (egs (Qs ⟨Qd p s,Qk⟩ z Qk)) k=W2 x y w d:=by
 have hwk:k<=w*k:=by have:=jh hw (show 0<=k by omega);omega
 have hdk:k<=d*k:=by have:=jh hd (show 0<=k by omega);omega
 unfold Jz
 refine (Q5m (Qe0 hw) λb a=>?_).symm
 rw[decide_eq_true_eq,box_wnd (by omega) (by omega) h3 hp hs z1 z2,in_rectR]
 have e1:(ctr k b a).x=a*k+k / 2:=rfl
 have e2:(ctr k b a).y=b*k+k / 2:=rfl
 rw[e1,e2,px,py,sx,sy,Q1k (by omega),Q1k (by omega)]
 have f1:x*k+w*k=(x+w)*k:=by grind
 have f2:y*k+d*k=(y+d)*k:=by grind
 have g1:a*k+k / 2<(x+w)*k↔a<x+w:=by
  have:=Q1k (x:=x+w) (X:=a) (k:=k) (by omega)
  omega
 have g2:b*k+k / 2<(y+d)*k↔b<y+d:=by
  have:=Q1k (x:=y+d) (X:=b) (k:=k) (by omega)
  omega
 rw[f1,f2,g1,g2]
 constructor
 ·rintro⟨c1,c2⟩
  exact⟨by omega,by omega,c2,c1⟩
 ·rintro⟨_,_,c2,c1⟩
  exact⟨c1,c2⟩
structure OpI (op:Int) (a b:List Rw) (i k:Nat) (Y:Int) (out:List Rw):Prop where
 i_le:i<=a.length
 k_le:k<=b.length
 alo:∀w∈a.take i,w.y<=Y
 ahi:∀w∈a.drop i,Y<w.y
 blo:∀w∈b.take k,w.y<=Y
 bhi:∀w∈b.drop k,Y<w.y
 v:RgV out
 le:∀w∈out,w.y<=Y
 mem:∀y x,Z0 out y x↔y<=Y/\Z0 (opR op a b) y x
 len:out.length<=i+k
theorem OpI.start {op:Int} {a b:List Rw} (ha:RgV a) (hb:RgV b) (ba:RgB a) (bb:RgB b):OpI op a b 0 0 (-5000) [] where
 i_le:=by omega
 k_le:=by omega
 alo:=by simp
 ahi w hw:=by have:=ba.yb ha (by simpa using hw);omega
 blo:=by simp
 bhi w hw:=by have:=bb.yb hb (by simpa using hw);omega
 v:=RgV.nil
 le:=by simp
 mem y x:=by
  constructor
  ·rintro⟨w,hw,_⟩;simp at hw
  ·rintro⟨h1,h2⟩;have:=Q9b op a b y x h2;omega
 len:=by simp
open Classical in
theorem OpI.done {op:Int} {a b out:List Rw} {Y:Int} (ha:RgV a) (hb:RgV b) (ba:RgB a) (bb:RgB b) (h:OpI op a b a.length b.length Y out):out=opR op a b:=by
 refine h.v.ext (Q09 op a b) λy x=>?_
 rw[h.mem]
 constructor
 ·exact λh=>h.2
 ·intro h2
  refine⟨?_,h2⟩
  have h3:=(Bm ba bb).1 h2
  by_cases c1:Z0 a y x
  ·obtain⟨w,hw,rfl,_⟩:=c1
   exact h.alo w (by rw[qi];exact hw)
  ·by_cases c2:Z0 b y x
   ·obtain⟨w,hw,rfl,_⟩:=c2
    exact h.blo w (by rw[qi];exact hw)
   ·rw[decide_eq_false c1,decide_eq_false c2,K3]at h3
    simp at h3
def Jx (g:List Rw) (y:Int):List Rn:=((g.find? λw=>decide (w.y=y)).map Rw.rs).getD []
theorem B3 {g:List Rw} (hg:RgV g) {w:Rw} (hw:w∈g):Jx g w.y=w.rs:=by
 unfold Jx
 cases hf:g.find? λv=>decide (v.y=w.y) with
 | none =>
   have:=List.find?_eq_none.1 hf w hw
   simp at this
 | some v =>
   have h1:=List.mem_of_find?_eq_some hf
   have h2:v.y=w.y:=by simpa using List.find?_some hf
   rw[hg.uniq h1 hw h2];rfl
theorem B4 {g:List Rw} {y:Int} (h:∀w∈g,w.y≠y):Jx g y=[]:=by
 unfold Jx
 rw[List.find?_eq_none.2 λw hw=>by simpa using h w hw];rfl
theorem Q1g {g:List Rw} (hg:RgV g) {y x:Int}:Qb (Jx g y) x↔Z0 g y x:=by
 by_cases h:∃w∈g,w.y=y
 ·obtain⟨w,hw,rfl⟩:=h
  rw[B3 hg hw,hg.row hw]
 ·have h2:∀w∈g,w.y≠y:=λw hw he=>h ⟨w,hw,he⟩
  rw[B4 h2]
  constructor
  ·intro h3;exact absurd h3 (Qi _)
  ·rintro⟨w,hw,he,_⟩;exact absurd he (h2 w hw)
theorem Q6d {g:List Rw} (hg:RgV g) (hb:RgB g) (y:Int):RnsV (Jx g y)/\RnI (Jx g y):=by
 by_cases h:∃w∈g,w.y=y
 ·obtain⟨w,hw,rfl⟩:=h
  rw[B3 hg hw]
  exact⟨hg.rs w hw,hb.rnb hg hw⟩
 ·rw[B4 λw hw he=>h ⟨w,hw,he⟩]
  exact⟨RnsV.nil,by simp[RnI]⟩
open Classical in
theorem Qe5 {op:Int} {a b:List Rw} (ha:RgV a) (hb:RgV b) (ba:RgB a) (bb:RgB b) (y:Int) :
  RnsV (Jx (opR op a b) y)/\∀x,Qb (Jx (opR op a b) y) x↔Y7 op (decide (Qb (Jx a y) x)) (decide (Qb (Jx b y) x))=true:=by
 refine⟨(Q6d (Q09 op a b) (Q9b op a b) y).1,λx=>?_⟩
 rw[Q1g (Q09 op a b),Bm ba bb]
 have e1:decide (Qb (Jx a y) x)=decide (Z0 a y x):=decide_eq_decide.2 (Q1g ha)
 have e2:decide (Qb (Jx b y) x)=decide (Z0 b y x):=decide_eq_decide.2 (Q1g hb)
 rw[e1,e2]
theorem Q8h {α:Type} {l:List α} {i:Nat} {x w:α} (h:l[i]?=some w):x∈l.take (i+1)↔x∈l.take i∨x=w:=by
 rw[Qf h,qg,qn]
theorem Ie {l:List Rw} (hl:RgV l) {i:Nat} {w:Rw} (h:l[i]?=some w):∀v∈l.drop (i+1),w.y<v.y:=λv hv=>by
 obtain⟨j,hj⟩:=qq hv
 rw[jc]at hj
 obtain⟨h1,h1'⟩:=q8.1 h
 obtain⟨h2,h2'⟩:=q8.1 hj
 have:=j4.1 hl.asc i (i+1+j) h1 h2 (by omega)
 rw[h1',h2']at this
 exact this
theorem Y9 {l:List Rw} {i:Nat} {w:Rw} (h:l[i]?=some w):w∈l.drop i:=qb (i:=0) (by rw[jc];exact h)
open Classical in
theorem OpI.step {op:Int} {a b out:List Rw} {i k:Nat} {Y y:Int} (ha:RgV a) (hb:RgV b) (ba:RgB a) (bb:RgB b) (h:OpI op a b i k Y out) {i' k':Nat}
  (hy:Y<y) (h1:(i'=i/\∀w∈a.drop i,y<w.y)∨(i'=i+1/\∃w,a[i]?=some w/\w.y=y)) (h2:(k'=k/\∀w∈b.drop k,y<w.y)∨(k'=k+1/\∃w,b[k]?=some w/\w.y=y)) (h3:i+k<i'+k') :
  OpI op a b i' k' y (if Jx (opR op a b) y=[] then out else out++[⟨y,Jx (opR op a b) y⟩]) /\
   Jx a y=(if i'=i then [] else ((a[i]?).map Rw.rs).getD [])/\Jx b y=(if k'=k then [] else ((b[k]?).map Rw.rs).getD []):=by
 have nosplit:∀{l:List Rw} {i:Nat},RgV l->(∀w∈l.take i,w.y<=Y)->(∀w∈l.drop i,y<w.y)->∀w∈l,w.y≠y:=by
  intro l i hl q1 q2 w hw he
  rw[<- List.take_append_drop i l]at hw
  rcases qg.1 hw with hw | hw
  ·have:=q1 w hw;omega
  ·have:=q2 w hw;omega
 have gap:∀z,Y<z->z<y->∀x,¬ Z0 (opR op a b) z x:=by
  have g1:∀{l:List Rw} {i i':Nat},RgV l->(∀w∈l.take i,w.y<=Y)->((i'=i/\∀w∈l.drop i,y<w.y)∨(i'=i+1/\∃w,l[i]?=some w/\w.y=y))->∀z,Y<z->z<y->∀x,¬ Z0 l z x:=by
   rintro l i i' hl q1 q2 z hz1 hz2 x ⟨w,hw,rfl,_⟩
   rcases q2 with⟨_,q2⟩ | ⟨_,v,hv,hvy⟩
   ·rw[<- List.take_append_drop i l]at hw
    rcases qg.1 hw with hw | hw
    ·have:=q1 w hw;omega
    ·have:=q2 w hw;omega
   ·rw[<- List.take_append_drop (i+1) l]at hw
    rcases qg.1 hw with hw | hw
    ·rcases (Q8h hv).1 hw with hw | rfl
     ·have:=q1 w hw;omega
     ·omega
    ·have:=Ie hl hv w hw;omega
  intro z hz1 hz2 x hx
  have h4:=(Bm ba bb).1 hx
  rw[decide_eq_false (g1 ha h.alo h1 z hz1 hz2 x),decide_eq_false (g1 hb h.blo h2 z hz1 hz2 x),K3]at h4
  simp at h4
 have hrow:∀{l:List Rw} {i i':Nat},RgV l->(∀w∈l.take i,w.y<=Y)->((i'=i/\∀w∈l.drop i,y<w.y)∨(i'=i+1/\∃w,l[i]?=some w/\w.y=y))->Jx l y=(if i'=i then [] else ((l[i]?).map Rw.rs).getD []):=by
  rintro l i i' hl q1 (⟨rfl,q2⟩ | ⟨rfl,v,hv,rfl⟩)
  ·rw[if_pos rfl,B4 (nosplit hl q1 q2)]
  ·rw[if_neg (by omega),hv,B3 hl (qb hv)];rfl
 have hlo:∀{l:List Rw} {i i':Nat},i<=l.length->(∀w∈l.take i,w.y<=Y)->((i'=i/\∀w∈l.drop i,y<w.y)∨(i'=i+1/\∃w,l[i]?=some w/\w.y=y))->RgV l->i'<=l.length/\(∀w∈l.take i',w.y<=y)/\∀w∈l.drop i',y<w.y:=by
  rintro l i i' hle q1 (⟨rfl,q2⟩ | ⟨rfl,v,hv,rfl⟩) hl
  ·exact⟨hle,λw hw=>by have:=q1 w hw;omega,q2⟩
  ·refine⟨(q8.1 hv).1,λw hw=>?_,Ie hl hv⟩
   rcases (Q8h hv).1 hw with hw | rfl
   ·have:=q1 w hw;omega
   ·omega
 obtain⟨a1,a2,a3⟩:=hlo h.i_le h.alo h1 ha
 obtain⟨b1,b2,b3⟩:=hlo h.k_le h.blo h2 hb
 have hlen:=h.len
 refine⟨?_,hrow ha h.alo h1,hrow hb h.blo h2⟩
 have hv:=Qe5 (op:=op) ha hb ba bb y
 have hin:∀x,Qb (Jx (opR op a b) y) x↔Z0 (opR op a b) y x:=λx=>Q1g (Q09 op a b)
 by_cases he:Jx (opR op a b) y=[]
 ·rw[if_pos he]
  refine⟨a1,b1,a2,a3,b2,b3,h.v,λw hw=>by have:=h.le w hw;omega,λz x=>?_,by omega⟩
  rw[h.mem]
  constructor
  ·rintro⟨c1,c2⟩;exact⟨by omega,c2⟩
  ·rintro⟨c1,c2⟩
   refine⟨j7 λhn=>?_,c2⟩
   by_cases hz:z=y
   ·subst hz
    rw[<- hin,he]at c2
    exact Qi _ c2
   ·exact gap z (by omega) (by omega) x c2
 ·rw[if_neg he]
  refine⟨a1,b1,a2,a3,b2,b3,h.v.snocW hv.1 he λu hu=>by have:=h.le u hu;simp only[];omega,λw hw=>?_,λz x=>?_,by simp;omega⟩
  ·rcases qg.1 hw with hw | hw
   ·have:=h.le w hw;omega
   ·rw[qn.1 hw];exact Int.le_refl _
  ·rw[Ql7,Ql6,h.mem]
   simp only[hin]
   constructor
   ·rintro (⟨c1,c2⟩ | ⟨rfl,c2⟩)
    ·exact⟨by omega,c2⟩
    ·exact⟨Int.le_refl _,c2⟩
   ·rintro⟨c1,c2⟩
    by_cases hz:z=y
    ·subst hz;exact .inr ⟨rfl,c2⟩
    ·refine .inl ⟨j7 λhn=>?_,c2⟩
     exact gap z (by omega) (by omega) x c2
end Go.Abs
