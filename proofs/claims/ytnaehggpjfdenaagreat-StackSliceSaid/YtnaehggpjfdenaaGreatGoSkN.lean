/- Part of the library on which the proof stands: an abstract machine, its values and its soundness against the model; or what functions of the program do to such values. -/
import Derived.Test.YtnaehggpjfdenaaGreatGoSkB
import Derived.Test.YtnaehggpjfdenaaGreatGoEu
import Derived.Test.YtnaehggpjfdenaaGreatGoShpD
import Derived.Test.YtnaehggpjfdenaaGreatGoRevC
import Derived.Test.YtnaehggpjfdenaaGreatGoOy
import Derived.Test.YtnaehggpjfdenaaGreatGoRsD
import Derived.Test.YtnaehggpjfdenaaGreatAbsCP
set_option linter.unusedVariables false
set_option linter.unusedSimpArgs false
set_option maxHeartbeats 8000000
set_option maxRecDepth 20000
namespace Go.Abs
structure Sphere (T:List T3) (n:Nat):Prop where
 pos:0<T.length
 own:∃f:P2->Nat,∀p,p<T.length->∀e∈Q8 (tAt T p),f e=p
 clo:∀p,p<T.length->∀e∈Q8 (tAt T p),∃q,q<T.length/\e.rev∈Q8 (tAt T q)
 one:∀i,i<T.length->Conn T 0 i
 ok:Wp n T=true
 flat:∀t∈T,t.a≠t.b/\t.b≠t.c/\t.c≠t.a
 used:∀v:Nat,v<n->∃t∈T,(v:Int)=t.a∨(v:Int)=t.b∨(v:Int)=t.c
 num:T.length+4=2*n
theorem Sphere.coh {T:List T3} {n:Nat} (h:Sphere T n):Coh T:=by
 obtain⟨f,hf⟩:=h.own
 intro i j e hi hj h1 h2
 rw[<- hf i hi e h1,hf j hj e h2]
theorem Sphere.Clo {T:List T3} {n:Nat} (h:Sphere T n):Go.Abs.Clo T:=by
 intro e he
 obtain⟨p,hp,h1⟩:=mem_all.1 he
 obtain⟨q,hq,h2⟩:=h.clo p hp e h1
 exact mem_all.2 ⟨q,hq,h2⟩
theorem Q5l:∀n,0<n->((List.range n).filter λi=>decide (i=0)).length=1
 | 0,h=>by omega
 | 1,_=>by simp
 | n+2,_=>by
   rw[List.range_succ,List.filter_append,j7,Q5l (n+1) (by omega)]
   simp
theorem Sphere.shells {m:Mesh} {n:Nat} (h:Sphere m.tris n) (hz:m.check=0):m.shells.length=1:=by
 obtain⟨L,hL⟩:=Qbn m.tris
 have hR:m.shells=Ja L m.tris.length:=by unfold Mesh.shells;rw[if_pos hz,Bw hL,hL.len]
 have h0:L[0]?=some 0:=by
  have h1:L[0]?=some (L[0]'(by rw[hL.len];exact h.pos)):=q9 _
  obtain⟨a,b,_⟩:=hL.con 0 _ h1
  rw[h1];congr 1;omega
 rw[hR]
 unfold Ja
 rw[List.length_map]
 have:(List.range m.tris.length).filter (λ(i:Nat)=>decide (L[i]?=some (i:Int)))=(List.range m.tris.length).filter λi=>decide (i=0):=by
  refine List.filter_congr λi hi=>?_
  rw[decide_eq_decide,<- hL.conn (h.one i (qz.1 hi)),h0]
  constructor
  ·intro hh;have:=Option.some.inj hh;omega
  ·rintro rfl;rfl
 rw[this]
 exact Q5l _ h.pos
theorem Qcc {t:T3} (h:t.a≠t.b/\t.b≠t.c/\t.c≠t.a):Q8 t=Kh t:=by
 have h2:Q8 t=(Kh t).filter λe=>decide (e.x≠e.y):=rfl
 rw[h2]
 unfold Kh
 simp[h.1,h.2.1,h.2.2]
theorem Q07:∀{T:List T3},(∀t∈T,t.a≠t.b/\t.b≠t.c/\t.c≠t.a)->(Qd T).length=3*T.length
 | [],_=>rfl
 | t::T,h=>by
   have h0:Qd (t::T)=Q8 t++Qd T:=rfl
   rw[h0,j7,Q07 (λx hx=>h x (by simp[hx])),Qcc (h t (by simp)),List.length_cons]
   simp only[Kh,List.length_cons,List.length_nil];omega
theorem Qnh {l:List P2} (h:asc l):l.Nodup:=by
 unfold asc at h
 exact h.imp λ{a b} hab=>by rintro rfl;exact P2.lt_irrefl a hab
theorem Sphere.edges {m:Mesh} {n:Nat} (h:Sphere m.tris n) (hz:m.check=0):2*m.edgesL.length=3*m.tris.length:=by
 rw[<- Q07 h.flat]
 have hnd:=coh_iff.2 h.coh
 have hcl:∀e∈Qd m.tris,e.rev∈Qd m.tris:=h.Clo
 have hne:∀e∈Qd m.tris,e.x≠e.y:=λe he=>Qig he
 have hE:m.edgesL=Uh ((Qd m.tris).map P2.und):=by unfold Mesh.edgesL;rw[if_pos hz]
 rw[hE]
 generalize Qd m.tris=A at *
 have hB1:(Uh (A.map P2.und)).length=(A.filter λe=>decide (e.x<e.y)).length:=by
  have hm:∀a,a∈Uh (A.map P2.und)↔a∈A.filter λe=>decide (e.x<e.y):=λa=>by
   rw[Ur,qo,qu,decide_eq_true_eq]
   constructor
   ·rintro⟨e,he,rfl⟩
    by_cases hlt:e.x<e.y
    ·rw[Qom hlt];exact⟨he,hlt⟩
    ·rw[und_gt hlt]
     have:=hne e he
     exact⟨hcl e he,by show e.y<e.x;omega⟩
   ·rintro⟨he,hlt⟩
    exact⟨a,he,Qom hlt⟩
  refine Nat.le_antisymm (Jn (Qnh (E9 _)) λa ha=>(hm a).1 ha) (Jn (hnd.filter _) λa ha=>(hm a).2 ha)
 have hB2:(A.filter λe=>decide (e.x<e.y)).length=(A.filter λe=>!decide (e.x<e.y)).length:=by
  have hinj:∀l:List P2,l.Nodup->(l.map P2.rev).Nodup:=λl hl=>by
   rw[List.nodup_iff_pairwise_ne,ji]
   exact hl.imp λ{a b} hab hh=>hab (by have:=congrArg P2.rev hh;exact this)
  refine Nat.le_antisymm ?_ ?_
  ·have:=Jn (hinj _ (hnd.filter λe=>decide (e.x<e.y))) (B:=A.filter λe=>!decide (e.x<e.y)) λa ha=>by
    obtain⟨b,hb,rfl⟩:=qo.1 ha
    obtain⟨h1,h2⟩:=qu.1 hb
    rw[decide_eq_true_eq]at h2
    refine qu.2 ⟨hcl b h1,?_⟩
    have:¬ b.rev.x<b.rev.y:=by show ¬ b.y<b.x;omega
    simp[this]
   simpa using this
  ·have:=Jn (hinj _ (hnd.filter λe=>!decide (e.x<e.y))) (B:=A.filter λe=>decide (e.x<e.y)) λa ha=>by
    obtain⟨b,hb,rfl⟩:=qo.1 ha
    obtain⟨h1,h2⟩:=qu.1 hb
    have h3:¬ b.x<b.y:=by simpa using h2
    have h4:=hne b h1
    refine qu.2 ⟨hcl b h1,?_⟩
    have:b.rev.x<b.rev.y:=by show b.y<b.x;omega
    simpa using this
   simpa using this
 have hsum:A.length=(A.filter λe=>decide (e.x<e.y)).length+(A.filter λe=>!decide (e.x<e.y)).length:=by
  generalize A=l
  induction l with
  | nil=>rfl
  | cons a l ih =>
    rw[List.filter_cons,List.filter_cons,List.length_cons]
    by_cases hh:a.x<a.y<;>simp[hh]<;>omega
 omega
theorem Sphere.euler {m:Mesh} (h:Sphere m.tris m.verts.length) (hz:m.check=0):m.euler=2:=by
 have hE:=h.edges hz
 obtain⟨u1,u2,_⟩:=Qoj m.tris
 have hU:(Kk m.tris).length=m.verts.length:=by
  have hp:(Kk m.tris).Perm ((List.range m.verts.length).map λ(j:Nat)=>(j:Int)):=by
   refine Qef u1 ?_ λv=>?_
   ·rw[List.nodup_iff_pairwise_ne,ji]
    have h0:(List.range m.verts.length).Nodup:=List.nodup_range
    rw[List.nodup_iff_pairwise_ne]at h0
    exact h0.imp λ{a b:Nat} (h:a≠b) (hh:(a:Int)=(b:Int))=>h (by omega)
   ·rw[u2,qo]
    constructor
    ·rintro⟨t,ht,hv⟩
     obtain⟨a1,a2,b1,b2,c1,c2⟩:=T3.ok_iff.1 (qj.1 h.ok t ht)
     exact⟨v.toNat,qz.2 (by omega),by omega⟩
    ·rintro⟨j,hj,rfl⟩
     exact h.used j (qz.1 hj)
  have:=hp.length_eq
  simpa using this
 have hn:=h.num
 unfold Mesh.euler
 rw[if_pos hz,hU]
 omega
theorem Sphere.all {m:Mesh} (h:Sphere m.tris m.verts.length) (hz:m.check=0):m.closed=true/\m.coh=true/\m.shells.length=1/\m.euler=2 :=
 ⟨Qi8 hz h.coh h.Clo,by unfold Mesh.coh;rw[hz,cohB_iff.2 h.coh];rfl,h.shells hz,h.euler hz⟩
def boxOwn (e:P2):Nat:=((List.range 12).find? λp=>decide (e∈Q8 (tAt Ql p))).getD 0
theorem X4 {i j:Nat} (h:((decide (i<12) && decide (j<12)) && (Q8 (tAt Ql i)).any λa=>(Q8 (tAt Ql j)).any λb=>decide (a.und=b.und))=true):adjI Ql i j:=by
 simp only[Bool.and_eq_true,decide_eq_true_eq,List.any_eq_true]at h
 obtain⟨⟨h1,h2⟩,a,ha,b,hb,hab⟩:=h
 exact Qte h1 h2 ha hb hab
theorem box_sphere:Sphere Ql 8 where
 pos:=by decide
 own:=⟨boxOwn,by decide⟩
 clo:=by decide
 one:=by
  have c0:Conn Ql 0 0:=.refl (by decide)
  have c1:Conn Ql 0 1:=c0.tail (X4 (by decide))
  have c4:Conn Ql 0 4:=c1.tail (X4 (by decide))
  have c5:Conn Ql 0 5:=c4.tail (X4 (by decide))
  have c2:Conn Ql 0 2:=c5.tail (X4 (by decide))
  have c3:Conn Ql 0 3:=c2.tail (X4 (by decide))
  have c6:Conn Ql 0 6:=c3.tail (X4 (by decide))
  have c7:Conn Ql 0 7:=c6.tail (X4 (by decide))
  have c8:Conn Ql 0 8:=c5.tail (X4 (by decide))
  have c9:Conn Ql 0 9:=c8.tail (X4 (by decide))
  have c10:Conn Ql 0 10:=c7.tail (X4 (by decide))
  have c11:Conn Ql 0 11:=c10.tail (X4 (by decide))
  intro i hi
  have hi:i<12:=hi
  match i,hi with
  | 0,_=>exact c0
  | 1,_=>exact c1
  | 2,_=>exact c2
  | 3,_=>exact c3
  | 4,_=>exact c4
  | 5,_=>exact c5
  | 6,_=>exact c6
  | 7,_=>exact c7
  | 8,_=>exact c8
  | 9,_=>exact c9
  | 10,_=>exact c10
  | 11,_=>exact c11
 ok:=by decide
 flat:=by decide
 used:=by decide
 num:=by decide
theorem Qj4 (p s:V3):Xa (Qe p s) Ql=6*s.x*s.y*s.z:=by
 have h:∀i:Nat,i<8->vAt (Qe p s) (i:Int)=(Qe p s).getD i ⟨0,0,0⟩:=λi _=>by
  unfold vAt;rw[Int.toNat_natCast,List.getD_eq_getElem?_getD]
 have h0:vAt (Qe p s) 0=⟨p.x,p.y,p.z⟩:=h 0 (by omega)
 have h1:vAt (Qe p s) 1=⟨p.x+s.x,p.y,p.z⟩:=h 1 (by omega)
 have h2:vAt (Qe p s) 2=⟨p.x,p.y+s.y,p.z⟩:=h 2 (by omega)
 have h3:vAt (Qe p s) 3=⟨p.x+s.x,p.y+s.y,p.z⟩:=h 3 (by omega)
 have h4:vAt (Qe p s) 4=⟨p.x,p.y,p.z+s.z⟩:=h 4 (by omega)
 have h5:vAt (Qe p s) 5=⟨p.x+s.x,p.y,p.z+s.z⟩:=h 5 (by omega)
 have h6:vAt (Qe p s) 6=⟨p.x,p.y+s.y,p.z+s.z⟩:=h 6 (by omega)
 have h7:vAt (Qe p s) 7=⟨p.x+s.x,p.y+s.y,p.z+s.z⟩:=h 7 (by omega)
 simp only[Xa,Ql,List.map_cons,List.map_nil,List.sum_cons,List.sum_nil,Qdg,h0,h1,h2,h3,h4,h5,h6,h7,Qfi,Qsp,crs]
 grind
def cr (p q:P2):Int:=p.x*q.y-p.y*q.x
structure SoundM (m:Mesh) (v:Int):Prop where
 a:m.closed=true
 b:m.coh=true
 c:m.shells.length=1
 d:m.euler=2
 e:m.vol6=v
 f:0<v
theorem Qp3 {m:Mesh} {v:Int} (hv:J9 m.verts=true) (h:Sphere m.tris m.verts.length) (hl:m.verts.length<=200) (he:Xa m.verts m.tris=v) (hp:0<v):SoundM m v:=by
 have hn:=h.num
 have hz:m.check=0:=Mesh.check_zero.2 ⟨by omega,by omega,hv,h.ok⟩
 obtain⟨a,b,c,d⟩:=h.all hz
 exact⟨a,b,c,d,by unfold Mesh.vol6;rw[if_pos hz,he],hp⟩
theorem Q9y {p s:V3} (h1:1<=s.x) (h2:1<=s.y) (h3:1<=s.z) (hp:p.valid=true) (hs:(p.add s).valid=true):SoundM ⟨Qe p s,Ql⟩ (6*s.x*s.y*s.z):=by
 have q1:=V3.valid_iff.1 hp
 have q2:=V3.valid_iff.1 hs
 simp only[V3.add]at q2
 refine Qp3 ?_ box_sphere (by simp[Qe]) (Qj4 p s) ?_
 ·simp only[J9,Qe,List.all_cons,List.all_nil,Bool.and_true,Bool.and_eq_true]
  refine⟨?_,?_,?_,?_,?_,?_,?_,?_⟩<;>rw[V3.valid_iff]<;>simp only<;>omega
 ·have a1:=Int.mul_pos (show (0:Int)<6*s.x by omega) (show (0:Int)<s.y by omega)
  exact Int.mul_pos a1 (by omega)
def upAt (m:Mesh) (z:Int) (e:P2):Option (Int × Int):=point (m.v e.x) (m.v e.y) z
theorem Qj6 {m:Mesh} {z:Int} {e:P2} {p:Int × Int} (h:upAt m z e=some p):e.x≠e.y:=by
 intro he
 unfold upAt point at h
 rw[he]at h
 split at h
 ·rename_i hh;omega
 ·simp at h
theorem Ew {t:T3} {q:P2->Bool} (hq:∀e,q e=true->e.x≠e.y):(Q8 t).countP q=(Kh t).countP q:=by
 unfold Q8 Zq
 rw[List.countP_filter,qe (by simp[Kh])]
 refine List.countP_congr λe _=>?_
 have:=hq e
 by_cases h:q e=true
 ·simp[h,this h]
 ·simp[h]
theorem Qi5 {a b c:V3} {z:Int} (ha:a.valid=true) (hb:b.valid=true) (hc:c.valid=true) (p:Int × Int) :
  ([Q8r z a b c].filter (·.found)).countP (λs=>decide (s.b=p))=[point a b z,point b c z,point c a z].countP (λo=>decide (o=some p)) /\
  ([Q8r z a b c].filter (·.found)).countP (λs=>decide (s.a=p))=[point b a z,point c b z,point a c z].countP (λo=>decide (o=some p)):=by
 by_cases h1:a.z<=z<;>by_cases h2:b.z<=z<;>by_cases h3:c.z<=z <;>
  simp[Q8r,Z6,Sg4.init,Sg4.step,point,ha,hb,hc,h1,h2,h3,Int.not_lt.2,Int.not_le.1,show (z<a.z)=¬ (a.z<=z) by simp,show (z<b.z)=¬ (b.z<=z) by simp,show (z<c.z)=¬ (c.z<=z) by simp,List.countP_cons]
theorem P2.rev_rev (e:P2):e.rev.rev=e:=rfl
theorem Q4x {m:Mesh} {z:Int} (hv:J9 m.verts=true) (p:Int × Int):∀ts:List T3,Wp m.verts.length ts=true ->
  (Zu m z ts).countP (λs=>decide (s.b=p))=(Qd ts).countP (λe=>decide (upAt m z e=some p)) /\
  (Zu m z ts).countP (λs=>decide (s.a=p))=(Qd ts).countP (λe=>decide (upAt m z e.rev=some p))
 | [],_=>⟨rfl,rfl⟩
 | t::ts,h=>by
   simp only[Wp,List.all_cons,Bool.and_eq_true]at h
   have ih:=Q4x (z:=z) hv p ts h.2
   obtain⟨_,h1,_,h2,_,h3⟩:=T3.ok_iff.1 h.1
   have hs:Zu m z (t::ts)=[Xb m z t].filter (·.found)++Zu m z ts:=by
    simp only[Zu,List.map_cons,List.filter_cons,List.filter_nil]
    split<;>rfl
   have ha:Qd (t::ts)=Q8 t++Qd ts:=rfl
   have hc:=Qi5 (z:=z) (Mesh.v_valid hv h1) (Mesh.v_valid hv h2) (Mesh.v_valid hv h3) p
   rw[hs,ha,List.countP_append,List.countP_append,List.countP_append,List.countP_append,ih.1,ih.2,
    Ew (λe he=>Qj6 (of_decide_eq_true he)),Ew (λe he=>λhh=>Qj6 (of_decide_eq_true he) hh.symm)]
   unfold Xb
   rw[hc.1,hc.2]
   exact⟨rfl,rfl⟩
theorem Qcf {m:Mesh} (h:m.closed=true) (e:P2):(Qd m.tris).count e=(Qd m.tris).count e.rev:=by
 simp only[Mesh.closed,Bool.and_eq_true,decide_eq_true_eq]at h
 obtain⟨hz,hb⟩:=h
 have key:∀e:P2,(Qd m.tris).count e<=(Qd m.tris).count e.rev:=by
  intro e
  by_cases he:e∈Qd m.tris
  ·refine jb λhlt=>?_
   have:e∈m.border:=mem_border.2 ⟨hz,he,by simp only[Mesh.use,hz,if_true];omega⟩
   rw[hb]at this;simp at this
  ·rw[List.count_eq_zero.2 he];omega
 have h1:=key e
 have h2:=key e.rev
 rw[P2.rev_rev]at h2
 omega
theorem Qfl {m:Mesh} (h:m.closed=true):(Qd m.tris).Perm ((Qd m.tris).map P2.rev):=by
 rw[List.perm_iff_count]
 intro e
 rw[Qcf h e,List.count,List.count,List.countP_map]
 refine List.countP_congr λx _=>?_
 simp only[Function.comp,beq_iff_eq]
 constructor
 ·rintro rfl;rfl
 ·rintro rfl;rfl
theorem Q7p {m:Mesh} {z:Int} (h:m.closed=true) (p:Int × Int) :
  (Ze m z).1.countP (λs=>decide (s.a=p))=(Ze m z).1.countP (λs=>decide (s.b=p)):=by
 have hz:m.check=0:=by
  simp only[Mesh.closed,Bool.and_eq_true,decide_eq_true_eq]at h;exact h.1
 obtain⟨z1,z2,z3,z4⟩:=Mesh.check_zero.1 hz
 unfold Ze
 rw[if_pos hz]
 split
 ·rfl
 ·have hc:=Q4x (z:=z) z3 p m.tris z4
  simp only
  rw[hc.1,hc.2,(Qfl h).countP_eq,List.countP_map]
  rfl
theorem Qpr {m:Mesh} {n:Nat} (h:Sphere m.tris n) (hz:m.check=0) {sh:List Int} (hs:sh∈m.shells):Zm m.tris sh=m.tris:=by
 obtain⟨L,hL⟩:=Qbn m.tris
 have hR:m.shells=Ja L m.tris.length:=by unfold Mesh.shells;rw[if_pos hz,Bw hL,hL.len]
 rw[hR]at hs
 obtain⟨i,hi,hLi,rfl⟩:=shsK_mem.1 hs
 have hall:∀j,j<m.tris.length->L[j]?=some (i:Int):=λj hj=>by
  rw[<- hL.conn (h.one j hj),hL.conn (h.one i hi)];exact hLi
 have hsh:shK L i L.length=(List.range m.tris.length).map λ(j:Nat)=>(j:Int):=by
  unfold shK
  rw[hL.len]
  congr 1
  refine List.filter_eq_self.2 λj hj=>?_
  simpa using hall j (qz.1 hj)
 rw[hsh]
 unfold Zm
 rw[List.map_map]
 refine qy λj=>?_
 rw[qp]
 by_cases hj:j<m.tris.length
 ·rw[jn hj,Zr hj];rfl
 ·rw[qk (by simpa using hj),qk (by simpa using hj)];rfl
theorem box_ok {p s:V3} (h1:1<=s.x) (h2:1<=s.y) (h3:1<=s.z) (hp:p.valid=true) (hs:(p.add s).valid=true):(Mesh.mk (Qe p s) Ql).check=0/\Ue ⟨Qe p s,Ql⟩=0:=by
 have q1:=V3.valid_iff.1 hp
 have q2:=V3.valid_iff.1 hs
 simp only[V3.add]at q2
 have hv:J9 (Qe p s)=true:=by
  simp only[J9,Qe,List.all_cons,List.all_nil,Bool.and_true,Bool.and_eq_true]
  refine⟨?_,?_,?_,?_,?_,?_,?_,?_⟩<;>rw[V3.valid_iff]<;>simp only<;>omega
 have hz:(Mesh.mk (Qe p s) Ql).check=0:=Mesh.check_zero.2 ⟨by simp[Qe],by simp[Ql],hv,box_sphere.ok⟩
 have hb:=Q9y h1 h2 h3 hp hs
 refine⟨hz,snd_iff.2 ⟨hz,hb.a,box_sphere.coh,λt ht=>?_,λsh hsh=>?_⟩⟩
 ·have hxy:s.x*s.y≠0:=Int.mul_ne_zero (by omega) (by omega)
  have hxz:s.x*s.z≠0:=Int.mul_ne_zero (by omega) (by omega)
  have hyz:s.y*s.z≠0:=Int.mul_ne_zero (by omega) (by omega)
  have key:∀a b c:V3,(b.sub a).crs (c.sub a)≠⟨0,0,0⟩->Ud a b c=false:=λa b c h=>by
   unfold Ud
   rw[decide_eq_false h]
   simp
  unfold Mesh.deg
  simp only[Ql,List.mem_cons,List.not_mem_nil,or_false]at ht
  rcases ht with rfl | rfl | rfl | rfl | rfl | rfl | rfl | rfl | rfl | rfl | rfl | rfl<;>refine key _ _ _ λhe=>?_<;>simp[Mesh.v,Qe,V3.sub,V3.crs]at he<;>(rcases Int.mul_eq_zero.1 he with he | he)<;>omega
 ·rw[Qpr (m:=Mesh.mk (Qe p s) Ql) box_sphere hz hsh]
  have:=hb.e
  have hf:=hb.f
  have e:Xa (Qe p s) Ql=6*s.x*s.y*s.z:=Qj4 p s
  show 0<=Xa (Qe p s) Ql
  rw[e];omega
theorem Qt8 {l:List Sg4} (h:∀p:Int × Int,l.countP (λs=>decide (s.a=p))=l.countP (λs=>decide (s.b=p))):Kj (egs l):=by
 intro q
 have:=h (q.x,q.y)
 unfold egs
 rw[List.countP_map,List.countP_map]
 have e1:∀s:Sg4,decide (s.a=(q.x,q.y))=decide (s.eg.1=q):=λs=>by
  refine decide_eq_decide.2 ?_
  unfold Sg4.eg
  cases q
  simp[Prod.ext_iff]
 have e2:∀s:Sg4,decide (s.b=(q.x,q.y))=decide (s.eg.2=q):=λs=>by
  refine decide_eq_decide.2 ?_
  unfold Sg4.eg
  cases q
  simp[Prod.ext_iff]
 rw[List.countP_congr (p:=λs:Sg4=>decide (s.a=(q.x,q.y))) (q:=(λe=>decide (e.1=q)) ∘ Sg4.eg) (λs _=>by simp only[e1,Function.comp])]at this
 rw[List.countP_congr (p:=λs:Sg4=>decide (s.b=(q.x,q.y))) (q:=(λe=>decide (e.2=q)) ∘ Sg4.eg) (λs _=>by simp only[e2,Function.comp])]at this
 exact this
theorem Qak {m:Mesh} (hc:m.closed=true) {z k:Int} (hz:-65536<=z/\z<=65536) (hk:Za k 32 1024=true):Zd m z k=(W7 (egs (Zu m z m.tris)) k,0):=by
 have hz0:m.check=0:=by
  simp only[Mesh.closed,Bool.and_eq_true,decide_eq_true_eq]at hc;exact hc.1
 have hs:Ze m z=(Zu m z m.tris,0):=by
  unfold Ze
  rw[if_pos hz0,if_neg (by omega)]
 have hb:=Qt8 (l:=(Ze m z).1) (Q7p hc)
 unfold Zd
 rw[hs]at hb ⊢
 rw[if_neg (by rw[hk];simp),if_neg (by simp),if_pos hb]
theorem Qn5 (c z0 z1 z:Int) (h1:z0<=z) (h2:z<z1):Q72 c c z0 z1 z=c:=by
 have:=Qcd (c0:=c) (c1:=c) h1 h2
 omega
theorem Uz {c d e:Int} (P:P2):K9 (⟨c,e⟩,⟨d,e⟩) P=0:=by
 unfold K9
 rw[if_neg (by simp only[];omega),if_neg (by simp only[];omega)]
theorem Qk2 {c a b:Int} (h:a<=b) (P:P2):K9 (⟨c,a⟩,⟨c,b⟩) P=if a<=P.y/\P.y<b/\P.x<c then 1 else 0:=by
 unfold K9
 simp only[]
 have e:Y1 ⟨c,a⟩ ⟨c,b⟩ P=(b-a)*(c-P.x):=by unfold Y1;simp only[];grind
 rw[e]
 by_cases h1:a<=P.y/\P.y<b
 ·by_cases h2:P.x<c
  ·rw[if_pos ⟨h1.1,h1.2,Int.mul_pos (by omega) (by omega)⟩,if_pos ⟨h1.1,h1.2,h2⟩]
  ·have:(b-a)*(c-P.x)<=0:=Int.mul_nonpos_of_nonneg_of_nonpos (by omega) (by omega)
   rw[if_neg (by omega),if_neg (by omega),if_neg (by omega)]
 ·rw[if_neg (by omega),if_neg (by omega),if_neg (by omega)]
theorem Qk3 {c a b:Int} (h:b<=a) (P:P2):K9 (⟨c,a⟩,⟨c,b⟩) P=if b<=P.y/\P.y<a/\P.x<c then -1 else 0:=by
 unfold K9
 simp only[]
 have e:Y1 ⟨c,a⟩ ⟨c,b⟩ P=-((a-b)*(c-P.x)):=by unfold Y1;simp only[];grind
 rw[e]
 by_cases h1:b<=P.y/\P.y<a
 ·by_cases h2:P.x<c
  ·have:=Int.mul_pos (show 0<a-b by omega) (show 0<c-P.x by omega)
   rw[if_neg (by omega),if_pos (by omega),if_pos ⟨h1.1,h1.2,h2⟩]
  ·have:(a-b)*(c-P.x)<=0:=Int.mul_nonpos_of_nonneg_of_nonpos (by omega) (by omega)
   rw[if_neg (by omega),if_neg (by omega),if_neg (by omega)]
 ·rw[if_neg (by omega),if_neg (by omega),if_neg (by omega)]
theorem box_wnd {p s:V3} (h1:1<=s.x) (h2:1<=s.y) (h3:1<=s.z) (hp:p.valid=true) (hs:(p.add s).valid=true) {z:Int} (z1:p.z<=z) (z2:z<p.z+s.z) (P:P2) :
  0<wnd (egs (Zu ⟨Qe p s,Ql⟩ z Ql)) P↔(p.x<=P.x/\P.x<p.x+s.x)/\p.y<=P.y/\P.y<p.y+s.y:=by
 have q1:=V3.valid_iff.1 hp
 have q2:=V3.valid_iff.1 hs
 simp only[V3.add]at q2
 have val:∀x y w:Int,(p.x<=x/\x<=p.x+s.x)->(p.y<=y/\y<=p.y+s.y)->(p.z<=w/\w<=p.z+s.z)->(⟨x,y,w⟩:V3).valid=true:=λx y w a b c=>by
  rw[V3.valid_iff];simp only;omega
 have v0:=val p.x p.y p.z (by omega) (by omega) (by omega)
 have v1:=val (p.x+s.x) p.y p.z (by omega) (by omega) (by omega)
 have v2:=val p.x (p.y+s.y) p.z (by omega) (by omega) (by omega)
 have v3:=val (p.x+s.x) (p.y+s.y) p.z (by omega) (by omega) (by omega)
 have v4:=val p.x p.y (p.z+s.z) (by omega) (by omega) (by omega)
 have v5:=val (p.x+s.x) p.y (p.z+s.z) (by omega) (by omega) (by omega)
 have v6:=val p.x (p.y+s.y) (p.z+s.z) (by omega) (by omega) (by omega)
 have v7:=val (p.x+s.x) (p.y+s.y) (p.z+s.z) (by omega) (by omega) (by omega)
 have n1:¬ z<p.z:=by omega
 have n2:¬ p.z+s.z<=z:=by omega
 have sm:=λc=>Qn5 c p.z (p.z+s.z) z z1 z2
 obtain⟨L,hL⟩:∃L,egs (Zu ⟨Qe p s,Ql⟩ z Ql)=L:=⟨_,rfl⟩
 rw[hL]
 simp[egs,Zu,Xb,Ql,Mesh.v,Qe,Q8r,Z6,Sg4.init,Sg4.step,Sg4.eg,point,v0,v1,v2,v3,v4,v5,v6,v7,z1,z2,n1,n2,sm]at hL
 have hy:=Qcd (c0:=p.y) (c1:=p.y+s.y) z1 z2
 generalize Q72 p.x (p.x+s.x) p.z (p.z+s.z) z=a at hL
 generalize Q72 p.y (p.y+s.y) p.z (p.z+s.z) z=q at hL hy
 rw[<- hL]
 simp only[Jr,Q42]
 rw[Uz,Uz,Uz,Uz,Qk3 (by omega),Qk3 (by omega),Qk2 (by omega),Qk2 (by omega)]
 constructor
 ·intro h
  by_cases c1:p.y<=P.y/\P.y<q<;>by_cases c2:q<=P.y/\P.y<p.y+s.y<;>by_cases c3:P.x<p.x<;>by_cases c4:P.x<p.x+s.x<;>simp[c1,c2,c3,c4]at h<;>omega
 ·rintro⟨⟨c3,c4⟩,c1,c2⟩
  by_cases c5:P.y<q
  ·rw[if_neg (by omega),if_neg (by omega),if_neg (by omega),if_pos ⟨c1,c5,c4⟩];omega
  ·rw[if_neg (by omega),if_neg (by omega),if_pos ⟨by omega,c2,c4⟩,if_neg (by omega)];omega
def Yk (x y w d:Int):List Rw:=(List.range d.toNat).map λ(i:Nat)=>⟨y+i,[⟨x,x+w⟩]⟩
theorem Qb0 {x y w d:Int} (hw:1<=w):RgV (Yk x y w d):=by
 refine⟨λr hr=>?_,λr hr=>?_,?_⟩
 ·obtain⟨i,_,rfl⟩:=qo.1 hr
  exact⟨by simp;omega,by simp⟩
 ·obtain⟨i,_,rfl⟩:=qo.1 hr
  simp
 ·unfold Yk
  rw[ji]
  exact List.pairwise_lt_range.imp λ{a b} h=>by simp only[];omega
theorem in_rectR {x y w d b a:Int}:Xx (Yk x y w d) b a↔(y<=b/\b<y+d)/\x<=a/\a<x+w:=by
 constructor
 ·rintro⟨r,hr,rfl,hx⟩
  obtain⟨i,hi,rfl⟩:=qo.1 hr
  have:=qz.1 hi
  rw[inRns_cons]at hx
  simp only[Qm,or_false]at hx
  exact⟨by simp only[];omega,hx⟩
 ·rintro⟨h1,h2⟩
  refine⟨⟨y+((b-y).toNat:Int),[⟨x,x+w⟩]⟩,qo.2 ⟨(b-y).toNat,qz.2 (by omega),rfl⟩,by simp only[];omega,inRns_cons.2 (.inl h2)⟩
theorem E3 {x X k:Int} (hk:2<=k):x*k<=X*k+k / 2↔x<=X:=by
 constructor
 ·intro h
  refine jb λhn=>?_
  have h2:=jm (show X+1<=x by omega) (show 0<=k by omega)
  have e:(X+1)*k=X*k+k:=by grind
  omega
 ·intro h
  have h2:=jm h (show 0<=k by omega)
  omega
theorem box_ras {x y w d k:Int} {p s:V3} (hw:1<=w) (hd:1<=d) (hk:32<=k) (hx:-4096<=x/\x+w<=4096) (hy:-4096<=y/\y+d<=4096) (px:p.x=x*k) (py:p.y=y*k) (sx:s.x=w*k) (sy:s.y=d*k)
  (h3:1<=s.z) (hp:p.valid=true) (hs:(p.add s).valid=true) {z:Int} (z1:p.z<=z) (z2:z<p.z+s.z):W7 (egs (Zu ⟨Qe p s,Ql⟩ z Ql)) k=Yk x y w d:=by
 have hwk:k<=w*k:=by have:=jm hw (show 0<=k by omega);omega
 have hdk:k<=d*k:=by have:=jm hd (show 0<=k by omega);omega
 unfold W7
 refine (Q1v (Qb0 hw) λb a=>?_).symm
 rw[decide_eq_true_eq,box_wnd (by omega) (by omega) h3 hp hs z1 z2,in_rectR]
 have e1:(ctr k b a).x=a*k+k / 2:=rfl
 have e2:(ctr k b a).y=b*k+k / 2:=rfl
 rw[e1,e2,px,py,sx,sy,E3 (by omega),E3 (by omega)]
 have f1:x*k+w*k=(x+w)*k:=by grind
 have f2:y*k+d*k=(y+d)*k:=by grind
 have g1:a*k+k / 2<(x+w)*k↔a<x+w:=by
  have:=E3 (x:=x+w) (X:=a) (k:=k) (by omega)
  omega
 have g2:b*k+k / 2<(y+d)*k↔b<y+d:=by
  have:=E3 (x:=y+d) (X:=b) (k:=k) (by omega)
  omega
 rw[f1,f2,g1,g2]
 constructor
 ·rintro⟨c1,c2⟩
  exact⟨by omega,by omega,c2,c1⟩
 ·rintro⟨_,_,c2,c1⟩
  exact⟨c1,c2⟩
theorem Qrf {h n:Int} (hh:4<=h) (hev:h % 2=0) (hn:1<=n):Qf3 (n*h) h=n.toNat:=by
 have key:∀i:Nat,i<Qf3 (n*h) h↔i<n.toNat:=λi=>by
  rw[Qjw (by omega)]
  have:=E3 (x:=n) (X:=(i:Int)) (k:=h) (by omega)
  omega
 have a:=key (Qf3 (n*h) h)
 have b:=key n.toNat
 omega
theorem Qie {x y w d n k h:Int} {p s:V3} (hw:1<=w) (hd:1<=d) (hk:Za k 32 1024=true) (hh:Za h 4 1024=true) (hx:-4096<=x/\x+w<=4096) (hy:-4096<=y/\y+d<=4096) (px:p.x=x*k) (py:p.y=y*k) (pz:p.z=0) (sx:s.x=w*k) (sy:s.y=d*k) (sz:s.z=n*h)
  (hn:1<=n) (hn2:n<=256) (hp:p.valid=true) (hs:(p.add s).valid=true):Uo [⟨Qe p s,Ql⟩] k h=(List.replicate n.toNat (Yk x y w d),0):=by
 have hk2:32<=k:=by
  unfold Za at hk
  simp only[Bool.and_eq_true,decide_eq_true_eq]at hk
  exact hk.1.1
 have hh2:4<=h/\h % 2=0:=by
  unfold Za at hh
  simp only[Bool.and_eq_true,decide_eq_true_eq]at hh
  exact⟨hh.1.1,hh.2⟩
 have hwk:k<=w*k:=by have:=jm hw (show 0<=k by omega);omega
 have hdk:k<=d*k:=by have:=jm hd (show 0<=k by omega);omega
 have hnh:h<=n*h:=by have:=jm hn (show 0<=h by omega);omega
 obtain⟨b1,b2⟩:=box_ok (p:=p) (s:=s) (by omega) (by omega) (by omega) hp hs
 have hclo:=(Q9y (p:=p) (s:=s) (by omega) (by omega) (by omega) hp hs).a
 have q2:=V3.valid_iff.1 hs
 simp only[V3.add]at q2
 have hzs:∀z∈Wa h n.toNat,0<=z/\z<n*h:=λz hz=>by
  unfold Wa at hz
  obtain⟨i,hi,rfl⟩:=qo.1 hz
  have:=qz.1 hi
  have h1:0<=(i:Int)*h:=Int.mul_nonneg (by omega) (by omega)
  have h2:=E3 (x:=n) (X:=(i:Int)) (k:=h) (by omega)
  omega
 have hsl:∀z∈Wa h n.toNat,Zd ⟨Qe p s,Ql⟩ z k=(Yk x y w d,0):=λz hz=>by
  have:=hzs z hz
  rw[Qak hclo (by omega) hk]
  rw[box_ras hw hd hk2 hx hy px py sx sy (by omega) hp hs (by omega) (by omega)]
 have hlo:(bLo (Qe p s)).z=0:=by
  simp[Qe,bLo,Q8u,pz]
  omega
 have hhi:(bHi (Qe p s)).z=n*h:=by
  simp[Qe,bHi,Q1z,pz,sz]
  omega
 have hpart:Jx ⟨Qe p s,Ql⟩ k h=(List.replicate n.toNat (Yk x y w d),0):=by
  have hg:Q1m (n*h) h=(Wa h n.toNat,0):=by
   unfold Q1m
   rw[if_neg (by rw[hh];simp),Qrf hh2.1 hh2.2 hn,if_neg (by omega)]
  unfold Jx
  rw[if_neg (by simp[b2]),if_neg (by simp[Qe]),hlo,hhi,if_neg (by omega),hg,if_neg (by simp)]
  rw[Ba λz hz=>by rw[hsl z hz]]
  congr 1
  refine qy λi=>?_
  rw[qp,jk]
  by_cases hi:i<n.toNat
  ·obtain⟨z,hq⟩:∃z,(Wa h n.toNat)[i]?=some z:=⟨_,q9 (by rw[U6];exact hi)⟩
   rw[if_pos hi,hq]
   simp only[Option.map_some]
   rw[hsl _ (qb hq)]
  ·rw[if_neg hi,qk (by rw[U6];omega)];rfl
 have hrb:RgB (Yk x y w d):=λb a hba=>by
  have:=in_rectR.1 hba
  omega
 unfold Uo
 rw[if_neg (by rw[hk,hh];simp)]
 unfold Q77
 rw[hpart,if_neg (by simp)]
 unfold Q77
 simp only
 rw[Qol λg hg=>by rw[(List.mem_replicate.1 hg).2];exact⟨Qb0 hw,hrb⟩]
def Qty (P:Program) (f:FuncId):Prop:=∀x y w d:Int,(-10000<=x/\x<=10000)->(-10000<=y/\y<=10000)->(0<=w/\w<=10000)->(0<=d/\d<=10000)->CallIs P f [.i .i64 x,.i .i64 y,.i .i64 w,.i .i64 d] (rgV (Yk x y w d))
theorem Q9f {α β γ:Type} {f:β->Option γ} {g:α->β} {k:α->γ}:∀{l:List α},(∀a∈l,f (g a)=some (k a))->(l.map g).mapM f=some (l.map k)
 | [],_=>rfl
 | a::l,h=>by
   have ih:=Q9f (f:=f) (g:=g) (k:=k) (l:=l) λb hb=>h b (by simp[hb])
   simp only[List.map_cons,List.mapM_cons,h a (by simp),ih]
   rfl
def rcE (x y w:Int) (j:Nat):List V:=[.i .i64 (y+j),.own (3+j) 1 0 1]
def rcO (x w:Int):O:=.arr 1 2 [[.i .i64 x,.i .i64 (x+w)]]
theorem rcE_cl (x y w:Int) {i n:Nat} (h:i+3<=n):∀el∈(List.range i).map (rcE x y w),∀c∈el,c.cl n=true:=λel hel c hc=>by
 obtain⟨j,hj,rfl⟩:=qo.1 hel
 have:=qz.1 hj
 simp[rcE]at hc
 rcases hc with rfl | rfl
 ·rfl
 ·simp[V.cl,V.cl1,V.cl0];omega
theorem Qpj (x w:Int):∀(i n:Nat) (l:List O),WeakH n (List.replicate i (rcO x w)++l) (List.replicate i (rcO x w))
 | 0,n,l=>by simp[WeakH]
 | i+1,n,l=>by
   rw[List.replicate_succ]
   exact⟨.inr ⟨rfl,by simp[rcO,O.cl,V.cl,V.cl1,V.cl0]⟩,Qpj x w i n l⟩
section
variable {P:Program} (hm:P.follows .mixedOrders=true)
include hm
theorem Im {f:FuncId} (hf:Q9 P f L0a.c L0a.r L0a.n):Qty P f:=by
 intro x y w d hx hy hw hd
 obtain⟨D,rfl⟩:∃D:Nat,d=D:=⟨d.toNat,by omega⟩
 refine PureC.is (Qpl hm hf (qh rfl) ?_) rfl
 unfold L0a.c
 simp[go_sem]
 refine Qx [.c 1 0 0 2] (α:=Nat) (λi=>i<=D)
  (λi=>⟨[(0,.i .i64 x),(1,.i .i64 y),(2,.i .i64 w),(3,.i .i64 D),(8,.p 0 1 0 0),(9,.p 1 1 0 0),(10,.i .i64 i)],.arr 1 1 [[.nil]]::.arr 1 1 [[.own 2 (i+1) 0 i]]::.arr (i+1) 2 ((List.range i).map (rcE x y w))::List.replicate i (rcO x w)⟩)
  (λi=>D-i) 0 (Nat.zero_le _) ?_ ?_
 ·simp[go_sem]
 intro i hi
 by_cases hil:i=D
 ·subst hil
  simp[go_sem,L0a.r]
  have ht:List.take i ((List.range i).map (rcE x y w))=(List.range i).map (rcE x y w):=qe (by simp)
  rw[ht,Q9f (k:=λ(j:Nat)=>[.i .i64 (y+j),.l 2 [[.i .i64 x,.i .i64 (x+w)]]]) λj hj=>by
   have hji:=qz.1 hj
   have hg:∀A B C:O,(A::B::C::List.replicate i (rcO x w))[3+j]?=some (rcO x w):=λA B C=>by
    rw[show 3+j=j+1+1+1 by omega]
    simp[hji]
   simp only[rcE,List.mapM_cons,List.mapM_nil,Em,X1,hg,V.isD]
   simp[rcO,V.isD]]
  simp[rgV,Yk,Rw.cs,Qk,Rn.cs,Yh]
 have hlt:i<D:=by omega
 have ht:List.take i ((List.range i).map (rcE x y w))=(List.range i).map (rcE x y w):=qe (by simp)
 have hgi:∀a b:O,(List.replicate i (rcO x w)++[a,b])[i+1]?=some b:=λa b=>by
  rw[qf (by simp)];simp
 simp (disch:=omega) [go_sem,hlt,ht,hgi,Q0]
 refine⟨⟨by omega,by omega⟩,i+1,by omega,by omega,by omega,by omega,rfl,⟨⟨rfl,?_⟩,λa ha c hc=>rcE_cl x y w (i:=i+1) (by omega) _ (jt (qz.2 ha)) c hc⟩,?_⟩
 ·rw[List.range_succ,qx]
  simp[rcE]
  omega
 ·have e:∀b:O,List.replicate i (rcO x w)++[rcO x w,b]=List.replicate (i+1) (rcO x w)++[b]:=λb=>by
   rw[List.replicate_succ'];simp
  have e2:=e (O.arr 1 2 [[V.i IntKind.i64 (y+↑i),V.own (i+1+1+1) 1 0 1]])
  have:=Qpj x w (i+1) (i+1+1+1+1) [O.arr 1 2 [[V.i IntKind.i64 (y+↑i),V.own (i+1+1+1) 1 0 1]]]
  rw[<- e2]at this
  exact this
end
theorem rectR_b {x y w d:Int} (hx:-4096<=x/\x+w<=4096) (hy:-4096<=y/\y+d<=4096):RgB (Yk x y w d):=λb a hba=>by
 have:=in_rectR.1 hba
 omega
def exMesh:Mesh:=⟨Qe ⟨0,0,0⟩ ⟨80,40,40⟩,Ql⟩
theorem Q8p (s:Sett) (h1:s.pitch=40) (h2:s.height=20):Uo [exMesh] s.pitch s.height=([Yk 0 0 2 1,Yk 0 0 2 1],0):=by
 rw[h1,h2]
 exact Qie (x:=0) (y:=0) (w:=2) (d:=1) (n:=2) (p:=⟨0,0,0⟩) (s:=⟨80,40,40⟩) (by omega) (by omega) (by decide) (by decide) (by omega) (by omega) rfl rfl rfl rfl rfl rfl (by omega) (by omega) (by decide) (by decide)
section
variable {P:Program} (hm:P.follows .mixedOrders=true)
include hm
theorem Q6j {f fh fb fs fr fe:FuncId} (hf:Q9 P f (L0b.c fh fb fs fr fe) L0b.r L0b.n) (hh:HgtC P fh) (hb:BoxC P fb) (hs:Qcs P fs) (hr:Qty P fr) (he:Qip P fe):Qj2 P f:=by
 have c1:=hh 40 20 (by omega) (by omega)
 rw[show Q1m 40 20=([10,30],0) by decide]at c1
 have c2:=hb ⟨0,0,0⟩ ⟨80,40,40⟩ (by decide) (by decide)
 rw[show Qfr ⟨0,0,0⟩ ⟨80,40,40⟩=Q6d exMesh 0 by rfl]at c2
 have c3:=hs [exMesh] ⟨40,20,0,0,0,0,0,false,0,0,0,0,0,0,0,0,0,0,0,0⟩ (by simp)
 rw[Q8p _ rfl rfl]at c3
 have c4:=hr 0 0 2 1 (by omega) (by omega) (by omega) (by omega)
 have hv:RgV (Yk 0 0 2 1)/\RgB (Yk 0 0 2 1):=⟨Qb0 (by omega),rectR_b (by omega) (by omega)⟩
 have hvs:Wr [Yk 0 0 2 1,Yk 0 0 2 1]:=λg hg=>by
  simp at hg
  rw[hg];exact hv
 have c5:=he [Yk 0 0 2 1,Yk 0 0 2 1] [Yk 0 0 2 1,Yk 0 0 2 1] hvs hvs (by simp) (by simp)
 rw[decide_eq_true rfl]at c5
 have hmc:exMesh.cs.length=2:=rfl
 have hmt:List.take 2 exMesh.cs=exMesh.cs:=rfl
 have hmd:∀x∈exMesh.cs,x.isD=true:=by
  intro x hx
  simp[Mesh.cs]at hx
  rcases hx with rfl | rfl<;>rfl
 have hmcl:∀n,∀x∈exMesh.cs,x.cl n=true:=λn x hx=>Kg n (hmd x hx)
 unfold Q6d Mesh.enc at c2
 unfold msV Sett.enc Sett.cs at c3
 simp only at c3
 generalize exMesh=m at *
 generalize Yk 0 0 2 1=R at *
 refine PureC.is (Q6 hm hf (qh rfl) ?_) rfl
 unfold L0b.c
 simp[go_sem]
 refine Q4 c1 ?_
 simp[go_sem,isV]
 refine Q4 c2 ?_
 simp[go_sem,V.cells,V.okA,hmc,hmt]
 have hma:∀x∈m.cs,x.isD=true:=hmd
 refine Y8 (vs:=[.l 2 [m.cs],.a [.i .i64 40,.i .i64 20,.i .i64 0,.i .i64 0,.i .i64 0,.i .i64 0,.i .i64 0,.b false,.i .i64 0,.i .i64 0,.i .i64 0,.i .i64 0,.i .i64 0,.i .i64 0,.i .i64 0,.i .i64 0,.i .i64 0,.i .i64 0,.i .i64 0,.i .i64 0]]) (by
  simp[Y9,frz,X1]
  rw[if_pos hma];rfl) c3 ?_
 simp[go_sem,V.ids2,V.ids1,V.ids0,Q2f,Jb]
 refine Q4 c4 ?_
 simp[go_sem]
 refine Q4 c4 ?_
 simp[go_sem,rgV]
 refine Y8 (vs:=[Kd [R,R],Kd [R,R]]) (by simp[Y9,frz,X1,Jb,rgE,rwL,V.isD]) c5 ?_
 simp[go_sem,L0b.r]
end
end Go.Abs
