/- Part of the library on which the proof stands: an abstract machine, its values and its soundness against the model; or what functions of the program do to such values. -/
import Derived.Test.YtnaehggpjfdenaaGreatGoSkB
import Derived.Test.YtnaehggpjfdenaaGreatGoEu
import Derived.Test.YtnaehggpjfdenaaGreatGoHeap
import Derived.Test.YtnaehggpjfdenaaGreatGoRevC
import Derived.Test.YtnaehggpjfdenaaGreatGoRpA
import Derived.Test.YtnaehggpjfdenaaGreatGoTk
import Derived.Test.YtnaehggpjfdenaaGreatAbsCP
set_option linter.unusedVariables false
set_option linter.unusedSimpArgs false
set_option maxHeartbeats 8000000
set_option maxRecDepth 20000
namespace Go.Abs
structure Sphere (T:List T3) (n:Nat):Prop where
 pos:0<T.length
 own:∃f:P2->Nat,∀p,p<T.length->∀e∈Q4 (tAt T p),f e=p
 clo:∀p,p<T.length->∀e∈Q4 (tAt T p),∃q,q<T.length/\e.rev∈Q4 (tAt T q)
 one:∀i,i<T.length->Conn T 0 i
 ok:Ec n T=true
 flat:∀t∈T,t.a≠t.b/\t.b≠t.c/\t.c≠t.a
 used:∀v:Nat,v<n->∃t∈T,(v:Int)=t.a∨(v:Int)=t.b∨(v:Int)=t.c
 num:T.length+4=2*n
theorem Sphere.coh {T:List T3} {n:Nat} (h:Sphere T n):Coh T:=by
 obtain⟨f,hf⟩:=h.own;intro i j e hi hj h1 h2;rw[<- hf i hi e h1,hf j hj e h2]
theorem Sphere.Clo {T:List T3} {n:Nat} (h:Sphere T n):Go.Abs.Clo T:=by
 intro e he;obtain⟨p,hp,h1⟩:=mem_all.1 he;obtain⟨q,hq,h2⟩:=h.clo p hp e h1;exact mem_all.2 ⟨q,hq,h2⟩
theorem Q9l:∀n,0<n->((List.range n).filter λi=>decide (i=0)).length=1
 | 0,h=>by omega
 | 1,_=>by simp
 | n+2,_=>by
   rw[List.range_succ,List.filter_append,j7,Q9l (n+1) (by omega)];simp
theorem Sphere.shells {m:Mesh} {n:Nat} (h:Sphere m.tris n) (hz:m.check=0):m.shells.length=1:=by
 obtain⟨L,hL⟩:=Qgt m.tris;have hR:m.shells=Yf L m.tris.length:=by unfold Mesh.shells;rw[if_pos hz,Ey hL,hL.len]
 have h0:L[0]?=some 0:=by
  have h1:L[0]?=some (L[0]'(by rw[hL.len];exact h.pos)):=q9 _;obtain⟨a,b,_⟩:=hL.con 0 _ h1;rw[h1];congr 1;omega
 rw[hR];unfold Yf;rw[List.length_map];have:(List.range m.tris.length).filter (λ(i:Nat)=>decide (L[i]?=some (i:Int)))=(List.range m.tris.length).filter λi=>decide (i=0):=by
  refine List.filter_congr λi hi=>?_
  rw[decide_eq_decide,<- hL.conn (h.one i (qz.1 hi)),h0];constructor
  ·intro hh;have:=Option.some.inj hh;omega
  ·rintro rfl;rfl
 rw[this];exact Q9l _ h.pos
theorem Qhl {t:T3} (h:t.a≠t.b/\t.b≠t.c/\t.c≠t.a):Q4 t=Wo t:=by
 have h2:Q4 t=(Wo t).filter λe=>decide (e.x≠e.y):=rfl
 rw[h2];unfold Wo;simp[h.1,h.2.1,h.2.2]
theorem Q2x:∀{T:List T3},(∀t∈T,t.a≠t.b/\t.b≠t.c/\t.c≠t.a)->(Q7 T).length=3*T.length
 | [],_=>rfl
 | t::T,h=>by
   have h0:Q7 (t::T)=Q4 t++Q7 T:=rfl;rw[h0,j7,Q2x (λx hx=>h x (by simp[hx])),Qhl (h t (by simp)),List.length_cons];simp only[Wo,List.length_cons,List.length_nil];omega
theorem Qt3 {l:List P2} (h:asc l):l.Nodup:=by
 unfold asc at h;exact h.imp λ{a b} hab=>by rintro rfl;exact P2.lt_irrefl a hab
theorem Sphere.edges {m:Mesh} {n:Nat} (h:Sphere m.tris n) (hz:m.check=0):2*m.edgesL.length=3*m.tris.length:=by
 rw[<- Q2x h.flat];have hnd:=coh_iff.2 h.coh;have hcl:∀e∈Q7 m.tris,e.rev∈Q7 m.tris:=h.Clo;have hne:∀e∈Q7 m.tris,e.x≠e.y:=λe he=>Qnq he
 have hE:m.edgesL=Jv ((Q7 m.tris).map P2.und):=by unfold Mesh.edgesL;rw[if_pos hz]
 rw[hE];generalize Q7 m.tris=A at *
 have hB1:(Jv (A.map P2.und)).length=(A.filter λe=>decide (e.x<e.y)).length:=by
  have hm:∀a,a∈Jv (A.map P2.und)↔a∈A.filter λe=>decide (e.x<e.y):=λa=>by
   rw[mem_ascOf,qo,qu,decide_eq_true_eq];constructor
   ·rintro⟨e,he,rfl⟩;by_cases hlt:e.x<e.y
    ·rw[Que hlt];exact⟨he,hlt⟩
    ·rw[und_gt hlt];have:=hne e he;exact⟨hcl e he,by show e.y<e.x;omega⟩
   ·rintro⟨he,hlt⟩;exact⟨a,he,Que hlt⟩
  refine Nat.le_antisymm (Kn (Qt3 (Jc _)) λa ha=>(hm a).1 ha) (Kn (hnd.filter _) λa ha=>(hm a).2 ha)
 have hB2:(A.filter λe=>decide (e.x<e.y)).length=(A.filter λe=>!decide (e.x<e.y)).length:=by
  have hinj:∀l:List P2,l.Nodup->(l.map P2.rev).Nodup:=λl hl=>by
   rw[List.nodup_iff_pairwise_ne,ji];exact hl.imp λ{a b} hab hh=>hab (by have:=congrArg P2.rev hh;exact this)
  refine Nat.le_antisymm ?_ ?_
  ·have:=Kn (hinj _ (hnd.filter λe=>decide (e.x<e.y))) (B:=A.filter λe=>!decide (e.x<e.y)) λa ha=>by
    obtain⟨b,hb,rfl⟩:=qo.1 ha;obtain⟨h1,h2⟩:=qu.1 hb;rw[decide_eq_true_eq]at h2
    refine qu.2 ⟨hcl b h1,?_⟩;have:¬ b.rev.x<b.rev.y:=by show ¬ b.y<b.x;omega
    simp[this]
   simpa using this
  ·have:=Kn (hinj _ (hnd.filter λe=>!decide (e.x<e.y))) (B:=A.filter λe=>decide (e.x<e.y)) λa ha=>by
    obtain⟨b,hb,rfl⟩:=qo.1 ha;obtain⟨h1,h2⟩:=qu.1 hb;have h3:¬ b.x<b.y:=by simpa using h2
    have h4:=hne b h1;refine qu.2 ⟨hcl b h1,?_⟩;have:b.rev.x<b.rev.y:=by show b.y<b.x;omega
    simpa using this
   simpa using this
 have hsum:A.length=(A.filter λe=>decide (e.x<e.y)).length+(A.filter λe=>!decide (e.x<e.y)).length:=by
  generalize A=l
  induction l with
  | nil=>rfl
  | cons a l ih =>
    rw[List.filter_cons,List.filter_cons,List.length_cons];by_cases hh:a.x<a.y<;>simp[hh]<;>omega
 omega
theorem Sphere.euler {m:Mesh} (h:Sphere m.tris m.verts.length) (hz:m.check=0):m.euler=2:=by
 have hE:=h.edges hz;obtain⟨u1,u2,_⟩:=Qub m.tris;have hU:(Ws m.tris).length=m.verts.length:=by
  have hp:(Ws m.tris).Perm ((List.range m.verts.length).map λ(j:Nat)=>(j:Int)):=by
   refine Qji u1 ?_ λv=>?_
   ·rw[List.nodup_iff_pairwise_ne,ji];have h0:(List.range m.verts.length).Nodup:=List.nodup_range;rw[List.nodup_iff_pairwise_ne]at h0
    exact h0.imp λ{a b:Nat} (h:a≠b) (hh:(a:Int)=(b:Int))=>h (by omega)
   ·rw[u2,qo];constructor
    ·rintro⟨t,ht,hv⟩;obtain⟨a1,a2,b1,b2,c1,c2⟩:=T3.ok_iff.1 (qj.1 h.ok t ht);exact⟨v.toNat,qz.2 (by omega),by omega⟩
    ·rintro⟨j,hj,rfl⟩;exact h.used j (qz.1 hj)
  have:=hp.length_eq;simpa using this
 have hn:=h.num;unfold Mesh.euler;rw[if_pos hz,hU];omega
theorem Sphere.all {m:Mesh} (h:Sphere m.tris m.verts.length) (hz:m.check=0):m.closed=true/\m.coh=true/\m.shells.length=1/\m.euler=2 :=
 ⟨Qni hz h.coh h.Clo,by unfold Mesh.coh;rw[hz,cohB_iff.2 h.coh];rfl,h.shells hz,h.euler hz⟩
def boxOwn (e:P2):Nat:=((List.range 12).find? λp=>decide (e∈Q4 (tAt Ql p))).getD 0
theorem Xw {i j:Nat} (h:((decide (i<12) && decide (j<12)) && (Q4 (tAt Ql i)).any λa=>(Q4 (tAt Ql j)).any λb=>decide (a.und=b.und))=true):adjI Ql i j:=by
 simp only[Bool.and_eq_true,decide_eq_true_eq,List.any_eq_true]at h;obtain⟨⟨h1,h2⟩,a,ha,b,hb,hab⟩:=h;exact Qzq h1 h2 ha hb hab
theorem box_sphere:Sphere Ql 8 where
 pos:=by decide
 own:=⟨boxOwn,by decide⟩
 clo:=by decide
 one:=by
  have c0:Conn Ql 0 0:=.refl (by decide);have c1:Conn Ql 0 1:=c0.tail (Xw (by decide));have c4:Conn Ql 0 4:=c1.tail (Xw (by decide));have c5:Conn Ql 0 5:=c4.tail (Xw (by decide));have c2:Conn Ql 0 2:=c5.tail (Xw (by decide));have c3:Conn Ql 0 3:=c2.tail (Xw (by decide));have c6:Conn Ql 0 6:=c3.tail (Xw (by decide));have c7:Conn Ql 0 7:=c6.tail (Xw (by decide))
  have c8:Conn Ql 0 8:=c5.tail (Xw (by decide));have c9:Conn Ql 0 9:=c8.tail (Xw (by decide));have c10:Conn Ql 0 10:=c7.tail (Xw (by decide));have c11:Conn Ql 0 11:=c10.tail (Xw (by decide));intro i hi;have hi:i<12:=hi
  match i,hi with
  | 0,_=>exact c0
  | 1,_=>exact c1
  | 2,_=>exact c2
  | 3,_=>exact c3
  | 4,_=>exact c4
  | 5,_=>exact c5
  | 6,_=>exact c6
  | 7,_=>exact c7
  | 8,_=>exact c8
  | 9,_=>exact c9
  | 10,_=>exact c10
  | 11,_=>exact c11
 ok:=by decide
 flat:=by decide
 used:=by decide
 num:=by decide
theorem Qoh (p s:V3):Xb (Qg p s) Ql=6*s.x*s.y*s.z:=by
 have h:∀i:Nat,i<8->vAt (Qg p s) (i:Int)=(Qg p s).getD i ⟨0,0,0⟩:=λi _=>by
  unfold vAt;rw[Int.toNat_natCast,List.getD_eq_getElem?_getD]
 have h0:vAt (Qg p s) 0=⟨p.x,p.y,p.z⟩:=h 0 (by omega);have h1:vAt (Qg p s) 1=⟨p.x+s.x,p.y,p.z⟩:=h 1 (by omega);have h2:vAt (Qg p s) 2=⟨p.x,p.y+s.y,p.z⟩:=h 2 (by omega);have h3:vAt (Qg p s) 3=⟨p.x+s.x,p.y+s.y,p.z⟩:=h 3 (by omega);have h4:vAt (Qg p s) 4=⟨p.x,p.y,p.z+s.z⟩:=h 4 (by omega);have h5:vAt (Qg p s) 5=⟨p.x+s.x,p.y,p.z+s.z⟩:=h 5 (by omega)
 have h6:vAt (Qg p s) 6=⟨p.x,p.y+s.y,p.z+s.z⟩:=h 6 (by omega);have h7:vAt (Qg p s) 7=⟨p.x+s.x,p.y+s.y,p.z+s.z⟩:=h 7 (by omega);simp only[Xb,Ql,List.map_cons,List.map_nil,List.sum_cons,List.sum_nil,Qin,h0,h1,h2,h3,h4,h5,h6,h7,Qhm,Qyx,crs]
 grind
def cr (p q:P2):Int:=p.x*q.y-p.y*q.x
structure SoundM (m:Mesh) (v:Int):Prop where
 a:m.closed=true
 b:m.coh=true
 c:m.shells.length=1
 d:m.euler=2
 e:m.vol6=v
 f:0<v
theorem Qux {m:Mesh} {v:Int} (hv:K8 m.verts=true) (h:Sphere m.tris m.verts.length) (hl:m.verts.length<=200) (he:Xb m.verts m.tris=v) (hp:0<v):SoundM m v:=by
 have hn:=h.num;have hz:m.check=0:=Mesh.check_zero.2 ⟨by omega,by omega,hv,h.ok⟩;obtain⟨a,b,c,d⟩:=h.all hz;exact⟨a,b,c,d,by unfold Mesh.vol6;rw[if_pos hz,he],hp⟩
theorem Qeu {p s:V3} (h1:1<=s.x) (h2:1<=s.y) (h3:1<=s.z) (hp:p.valid=true) (hs:(p.add s).valid=true):SoundM ⟨Qg p s,Ql⟩ (6*s.x*s.y*s.z):=by
 have q1:=V3.valid_iff.1 hp;have q2:=V3.valid_iff.1 hs;simp only[V3.add]at q2;refine Qux ?_ box_sphere (by simp[Qg]) (Qoh p s) ?_
 ·simp only[K8,Qg,List.all_cons,List.all_nil,Bool.and_true,Bool.and_eq_true];refine⟨?_,?_,?_,?_,?_,?_,?_,?_⟩<;>rw[V3.valid_iff]<;>simp only<;>omega
 ·have a1:=Int.mul_pos (show (0:Int)<6*s.x by omega) (show (0:Int)<s.y by omega);exact Int.mul_pos a1 (by omega)
def upAt (m:Mesh) (z:Int) (e:P2):Option (Int × Int):=point (m.v e.x) (m.v e.y) z
theorem Qol {m:Mesh} {z:Int} {e:P2} {p:Int × Int} (h:upAt m z e=some p):e.x≠e.y:=by
 intro he;unfold upAt point at h;rw[he]at h
 split at h
 ·rename_i hh;omega
 ·simp at h
theorem Q08 {t:T3} {q:P2->Bool} (hq:∀e,q e=true->e.x≠e.y):(Q4 t).countP q=(Wo t).countP q:=by
 unfold Q4 Qz;rw[List.countP_filter,qe (by simp[Wo])];refine List.countP_congr λe _=>?_
 have:=hq e;by_cases h:q e=true
 ·simp[h,this h]
 ·simp[h]
theorem Qng {a b c:V3} {z:Int} (ha:a.valid=true) (hb:b.valid=true) (hc:c.valid=true) (p:Int × Int) :
  ([Qdg z a b c].filter (·.found)).countP (λs=>decide (s.b=p))=[point a b z,point b c z,point c a z].countP (λo=>decide (o=some p)) /\
  ([Qdg z a b c].filter (·.found)).countP (λs=>decide (s.a=p))=[point b a z,point c b z,point a c z].countP (λo=>decide (o=some p)):=by
 by_cases h1:a.z<=z<;>by_cases h2:b.z<=z<;>by_cases h3:c.z<=z <;>
  simp[Qdg,Za,Sg4.init,Sg4.step,point,ha,hb,hc,h1,h2,h3,Int.not_lt.2,Int.not_le.1,show (z<a.z)=¬ (a.z<=z) by simp,show (z<b.z)=¬ (b.z<=z) by simp,show (z<c.z)=¬ (c.z<=z) by simp,List.countP_cons]
theorem P2.rev_rev (e:P2):e.rev.rev=e:=rfl
theorem Q8q {m:Mesh} {z:Int} (hv:K8 m.verts=true) (p:Int × Int):∀ts:List T3,Ec m.verts.length ts=true ->
  (Y4 m z ts).countP (λs=>decide (s.b=p))=(Q7 ts).countP (λe=>decide (upAt m z e=some p)) /\
  (Y4 m z ts).countP (λs=>decide (s.a=p))=(Q7 ts).countP (λe=>decide (upAt m z e.rev=some p))
 | [],_=>⟨rfl,rfl⟩
 | t::ts,h=>by
   simp only[Ec,List.all_cons,Bool.and_eq_true]at h;have ih:=Q8q (z:=z) hv p ts h.2;obtain⟨_,h1,_,h2,_,h3⟩:=T3.ok_iff.1 h.1;have hs:Y4 m z (t::ts)=[J3 m z t].filter (·.found)++Y4 m z ts:=by
    simp only[Y4,List.map_cons,List.filter_cons,List.filter_nil];split<;>rfl
   have ha:Q7 (t::ts)=Q4 t++Q7 ts:=rfl;have hc:=Qng (z:=z) (Mesh.v_valid hv h1) (Mesh.v_valid hv h2) (Mesh.v_valid hv h3) p;rw[hs,ha,List.countP_append,List.countP_append,List.countP_append,List.countP_append,ih.1,ih.2,
    Q08 (λe he=>Qol (of_decide_eq_true he)),Q08 (λe he=>λhh=>Qol (of_decide_eq_true he) hh.symm)]
   unfold J3;rw[hc.1,hc.2];exact⟨rfl,rfl⟩
theorem Qhp {m:Mesh} (h:m.closed=true) (e:P2):(Q7 m.tris).count e=(Q7 m.tris).count e.rev:=by
 simp only[Mesh.closed,Bool.and_eq_true,decide_eq_true_eq]at h;obtain⟨hz,hb⟩:=h;have key:∀e:P2,(Q7 m.tris).count e<=(Q7 m.tris).count e.rev:=by
  intro e;by_cases he:e∈Q7 m.tris
  ·refine jb λhlt=>?_
   have:e∈m.border:=mem_border.2 ⟨hz,he,by simp only[Mesh.use,hz,if_true];omega⟩;rw[hb]at this;simp at this
  ·rw[List.count_eq_zero.2 he];omega
 have h1:=key e;have h2:=key e.rev;rw[P2.rev_rev]at h2
 omega
theorem Qko {m:Mesh} (h:m.closed=true):(Q7 m.tris).Perm ((Q7 m.tris).map P2.rev):=by
 rw[List.perm_iff_count];intro e;rw[Qhp h e,List.count,List.count,List.countP_map];refine List.countP_congr λx _=>?_
 simp only[Function.comp,beq_iff_eq];constructor
 ·rintro rfl;rfl
 ·rintro rfl;rfl
theorem Qc0 {m:Mesh} {z:Int} (h:m.closed=true) (p:Int × Int) :
  (Zg m z).1.countP (λs=>decide (s.a=p))=(Zg m z).1.countP (λs=>decide (s.b=p)):=by
 have hz:m.check=0:=by
  simp only[Mesh.closed,Bool.and_eq_true,decide_eq_true_eq]at h;exact h.1
 obtain⟨z1,z2,z3,z4⟩:=Mesh.check_zero.1 hz;unfold Zg;rw[if_pos hz];split
 ·rfl
 ·have hc:=Q8q (z:=z) z3 p m.tris z4;simp only;rw[hc.1,hc.2,(Qko h).countP_eq,List.countP_map]
  rfl
theorem Qvu {m:Mesh} {n:Nat} (h:Sphere m.tris n) (hz:m.check=0) {sh:List Int} (hs:sh∈m.shells):Z4 m.tris sh=m.tris:=by
 obtain⟨L,hL⟩:=Qgt m.tris;have hR:m.shells=Yf L m.tris.length:=by unfold Mesh.shells;rw[if_pos hz,Ey hL,hL.len]
 rw[hR]at hs
 obtain⟨i,hi,hLi,rfl⟩:=shsK_mem.1 hs;have hall:∀j,j<m.tris.length->L[j]?=some (i:Int):=λj hj=>by
  rw[<- hL.conn (h.one j hj),hL.conn (h.one i hi)];exact hLi
 have hsh:shK L i L.length=(List.range m.tris.length).map λ(j:Nat)=>(j:Int):=by
  unfold shK;rw[hL.len];congr 1;refine List.filter_eq_self.2 λj hj=>?_
  simpa using hall j (qz.1 hj)
 rw[hsh];unfold Z4;rw[List.map_map];refine qy λj=>?_
 rw[qp];by_cases hj:j<m.tris.length
 ·rw[jo hj,Zt hj];rfl
 ·rw[qk (by simpa using hj),qk (by simpa using hj)];rfl
theorem box_ok {p s:V3} (h1:1<=s.x) (h2:1<=s.y) (h3:1<=s.z) (hp:p.valid=true) (hs:(p.add s).valid=true):(Mesh.mk (Qg p s) Ql).check=0/\U9 ⟨Qg p s,Ql⟩=0:=by
 have q1:=V3.valid_iff.1 hp;have q2:=V3.valid_iff.1 hs;simp only[V3.add]at q2;have hv:K8 (Qg p s)=true:=by
  simp only[K8,Qg,List.all_cons,List.all_nil,Bool.and_true,Bool.and_eq_true];refine⟨?_,?_,?_,?_,?_,?_,?_,?_⟩<;>rw[V3.valid_iff]<;>simp only<;>omega
 have hz:(Mesh.mk (Qg p s) Ql).check=0:=Mesh.check_zero.2 ⟨by simp[Qg],by simp[Ql],hv,box_sphere.ok⟩;have hb:=Qeu h1 h2 h3 hp hs;refine⟨hz,snd_iff.2 ⟨hz,hb.a,box_sphere.coh,λt ht=>?_,λsh hsh=>?_⟩⟩
 ·have hxy:s.x*s.y≠0:=Int.mul_ne_zero (by omega) (by omega);have hxz:s.x*s.z≠0:=Int.mul_ne_zero (by omega) (by omega);have hyz:s.y*s.z≠0:=Int.mul_ne_zero (by omega) (by omega);have key:∀a b c:V3,(b.sub a).crs (c.sub a)≠⟨0,0,0⟩->K6 a b c=false:=λa b c h=>by
   unfold K6;rw[decide_eq_false h];simp
  unfold Mesh.deg;simp only[Ql,List.mem_cons,List.not_mem_nil,or_false]at ht;rcases ht with rfl | rfl | rfl | rfl | rfl | rfl | rfl | rfl | rfl | rfl | rfl | rfl<;>refine key _ _ _ λhe=>?_<;>simp[Mesh.v,Qg,V3.sub,V3.crs]at he<;>(rcases Int.mul_eq_zero.1 he with he | he)<;>omega
 ·rw[Qvu (m:=Mesh.mk (Qg p s) Ql) box_sphere hz hsh];have:=hb.e;have hf:=hb.f;have e:Xb (Qg p s) Ql=6*s.x*s.y*s.z:=Qoh p s;show 0<=Xb (Qg p s) Ql;rw[e];omega
theorem Qzj {l:List Sg4} (h:∀p:Int × Int,l.countP (λs=>decide (s.a=p))=l.countP (λs=>decide (s.b=p))):Wq (egs l):=by
 intro q;have:=h (q.x,q.y);unfold egs;rw[List.countP_map,List.countP_map];have e1:∀s:Sg4,decide (s.a=(q.x,q.y))=decide (s.eg.1=q):=λs=>by
  refine decide_eq_decide.2 ?_;unfold Sg4.eg;cases q;simp[Prod.ext_iff]
 have e2:∀s:Sg4,decide (s.b=(q.x,q.y))=decide (s.eg.2=q):=λs=>by
  refine decide_eq_decide.2 ?_;unfold Sg4.eg;cases q;simp[Prod.ext_iff]
 rw[List.countP_congr (p:=λs:Sg4=>decide (s.a=(q.x,q.y))) (q:=(λe=>decide (e.1=q)) ∘ Sg4.eg) (λs _=>by simp only[e1,Function.comp])]at this
 rw[List.countP_congr (p:=λs:Sg4=>decide (s.b=(q.x,q.y))) (q:=(λe=>decide (e.2=q)) ∘ Sg4.eg) (λs _=>by simp only[e2,Function.comp])]at this
 exact this
theorem Qfi {m:Mesh} (hc:m.closed=true) {z k:Int} (hz:-65536<=z/\z<=65536) (hk:Z1 k 32 1024=true):Z3 m z k=(Ul (egs (Y4 m z m.tris)) k,0):=by
 have hz0:m.check=0:=by
  simp only[Mesh.closed,Bool.and_eq_true,decide_eq_true_eq]at hc;exact hc.1
 have hs:Zg m z=(Y4 m z m.tris,0):=by
  unfold Zg;rw[if_pos hz0,if_neg (by omega)]
 have hb:=Qzj (l:=(Zg m z).1) (Qc0 hc);unfold Z3;rw[hs]at hb ⊢
 rw[if_neg (by rw[hk];simp),if_neg (by simp),if_pos hb]
theorem Qss (c z0 z1 z:Int) (h1:z0<=z) (h2:z<z1):Qbc c c z0 z1 z=c:=by
 have:=Qhn (c0:=c) (c1:=c) h1 h2;omega
theorem B0 {c d e:Int} (P:P2):Wf (⟨c,e⟩,⟨d,e⟩) P=0:=by
 unfold Wf;rw[if_neg (by simp only[];omega),if_neg (by simp only[];omega)]
theorem Qpk {c a b:Int} (h:a<=b) (P:P2):Wf (⟨c,a⟩,⟨c,b⟩) P=if a<=P.y/\P.y<b/\P.x<c then 1 else 0:=by
 unfold Wf;simp only[];have e:Ye ⟨c,a⟩ ⟨c,b⟩ P=(b-a)*(c-P.x):=by unfold Ye;simp only[];grind
 rw[e];by_cases h1:a<=P.y/\P.y<b
 ·by_cases h2:P.x<c
  ·rw[if_pos ⟨h1.1,h1.2,Int.mul_pos (by omega) (by omega)⟩,if_pos ⟨h1.1,h1.2,h2⟩]
  ·have:(b-a)*(c-P.x)<=0:=Int.mul_nonpos_of_nonneg_of_nonpos (by omega) (by omega);rw[if_neg (by omega),if_neg (by omega),if_neg (by omega)]
 ·rw[if_neg (by omega),if_neg (by omega),if_neg (by omega)]
theorem Qpl {c a b:Int} (h:b<=a) (P:P2):Wf (⟨c,a⟩,⟨c,b⟩) P=if b<=P.y/\P.y<a/\P.x<c then -1 else 0:=by
 unfold Wf;simp only[];have e:Ye ⟨c,a⟩ ⟨c,b⟩ P=-((a-b)*(c-P.x)):=by unfold Ye;simp only[];grind
 rw[e];by_cases h1:b<=P.y/\P.y<a
 ·by_cases h2:P.x<c
  ·have:=Int.mul_pos (show 0<a-b by omega) (show 0<c-P.x by omega);rw[if_neg (by omega),if_pos (by omega),if_pos ⟨h1.1,h1.2,h2⟩]
  ·have:(a-b)*(c-P.x)<=0:=Int.mul_nonpos_of_nonneg_of_nonpos (by omega) (by omega);rw[if_neg (by omega),if_neg (by omega),if_neg (by omega)]
 ·rw[if_neg (by omega),if_neg (by omega),if_neg (by omega)]
theorem box_wnd {p s:V3} (h1:1<=s.x) (h2:1<=s.y) (h3:1<=s.z) (hp:p.valid=true) (hs:(p.add s).valid=true) {z:Int} (z1:p.z<=z) (z2:z<p.z+s.z) (P:P2) :
  0<wnd (egs (Y4 ⟨Qg p s,Ql⟩ z Ql)) P↔(p.x<=P.x/\P.x<p.x+s.x)/\p.y<=P.y/\P.y<p.y+s.y:=by
 have q1:=V3.valid_iff.1 hp;have q2:=V3.valid_iff.1 hs;simp only[V3.add]at q2;have val:∀x y w:Int,(p.x<=x/\x<=p.x+s.x)->(p.y<=y/\y<=p.y+s.y)->(p.z<=w/\w<=p.z+s.z)->(⟨x,y,w⟩:V3).valid=true:=λx y w a b c=>by
  rw[V3.valid_iff];simp only;omega
 have v0:=val p.x p.y p.z (by omega) (by omega) (by omega);have v1:=val (p.x+s.x) p.y p.z (by omega) (by omega) (by omega);have v2:=val p.x (p.y+s.y) p.z (by omega) (by omega) (by omega);have v3:=val (p.x+s.x) (p.y+s.y) p.z (by omega) (by omega) (by omega);have v4:=val p.x p.y (p.z+s.z) (by omega) (by omega) (by omega)
 have v5:=val (p.x+s.x) p.y (p.z+s.z) (by omega) (by omega) (by omega);have v6:=val p.x (p.y+s.y) (p.z+s.z) (by omega) (by omega) (by omega);have v7:=val (p.x+s.x) (p.y+s.y) (p.z+s.z) (by omega) (by omega) (by omega);have n1:¬ z<p.z:=by omega
 have n2:¬ p.z+s.z<=z:=by omega
 have sm:=λc=>Qss c p.z (p.z+s.z) z z1 z2
 obtain⟨L,hL⟩:∃L,egs (Y4 ⟨Qg p s,Ql⟩ z Ql)=L:=⟨_,rfl⟩
 rw[hL];simp[egs,Y4,J3,Ql,Mesh.v,Qg,Qdg,Za,Sg4.init,Sg4.step,Sg4.eg,point,v0,v1,v2,v3,v4,v5,v6,v7,z1,z2,n1,n2,sm]at hL
 have hy:=Qhn (c0:=p.y) (c1:=p.y+s.y) z1 z2;generalize Qbc p.x (p.x+s.x) p.z (p.z+s.z) z=a at hL;generalize Qbc p.y (p.y+s.y) p.z (p.z+s.z) z=q at hL hy;rw[<- hL];simp only[Kt,Q7m];rw[B0,B0,B0,B0,Qpl (by omega),Qpl (by omega),Qpk (by omega),Qpk (by omega)];constructor
 ·intro h;by_cases c1:p.y<=P.y/\P.y<q<;>by_cases c2:q<=P.y/\P.y<p.y+s.y<;>by_cases c3:P.x<p.x<;>by_cases c4:P.x<p.x+s.x<;>simp[c1,c2,c3,c4]at h<;>omega
 ·rintro⟨⟨c3,c4⟩,c1,c2⟩;by_cases c5:P.y<q
  ·rw[if_neg (by omega),if_neg (by omega),if_neg (by omega),if_pos ⟨c1,c5,c4⟩];omega
  ·rw[if_neg (by omega),if_neg (by omega),if_pos ⟨by omega,c2,c4⟩,if_neg (by omega)];omega
def X4 (x y w d:Int):List Rw:=(List.range d.toNat).map λ(i:Nat)=>⟨y+i,[⟨x,x+w⟩]⟩
theorem Qfz {x y w d:Int} (hw:1<=w):RgV (X4 x y w d):=by
 refine⟨λr hr=>?_,λr hr=>?_,?_⟩
 ·obtain⟨i,_,rfl⟩:=qo.1 hr;exact⟨by simp;omega,by simp⟩
 ·obtain⟨i,_,rfl⟩:=qo.1 hr;simp
 ·unfold X4;rw[ji];exact List.pairwise_lt_range.imp λ{a b} h=>by simp only[];omega
theorem in_rectR {x y w d b a:Int}:Zx (X4 x y w d) b a↔(y<=b/\b<y+d)/\x<=a/\a<x+w:=by
 constructor
 ·rintro⟨r,hr,rfl,hx⟩;obtain⟨i,hi,rfl⟩:=qo.1 hr;have:=qz.1 hi;rw[inRns_cons]at hx
  simp only[Qj,or_false]at hx;exact⟨by simp only[];omega,hx⟩
 ·rintro⟨h1,h2⟩;refine⟨⟨y+((b-y).toNat:Int),[⟨x,x+w⟩]⟩,qo.2 ⟨(b-y).toNat,qz.2 (by omega),rfl⟩,by simp only[];omega,inRns_cons.2 (.inl h2)⟩
theorem B3 {x X k:Int} (hk:2<=k):x*k<=X*k+k / 2↔x<=X:=by
 constructor
 ·intro h;refine jb λhn=>?_
  have h2:=jn (show X+1<=x by omega) (show 0<=k by omega);have e:(X+1)*k=X*k+k:=by grind
  omega
 ·intro h;have h2:=jn h (show 0<=k by omega);omega
theorem box_ras {x y w d k:Int} {p s:V3} (hw:1<=w) (hd:1<=d) (hk:32<=k) (hx:-4096<=x/\x+w<=4096) (hy:-4096<=y/\y+d<=4096) (px:p.x=x*k) (py:p.y=y*k) (sx:s.x=w*k) (sy:s.y=d*k)
  (h3:1<=s.z) (hp:p.valid=true) (hs:(p.add s).valid=true) {z:Int} (z1:p.z<=z) (z2:z<p.z+s.z):Ul (egs (Y4 ⟨Qg p s,Ql⟩ z Ql)) k=X4 x y w d:=by
 have hwk:k<=w*k:=by have:=jn hw (show 0<=k by omega);omega
 have hdk:k<=d*k:=by have:=jn hd (show 0<=k by omega);omega
 unfold Ul;refine (Q4r (Qfz hw) λb a=>?_).symm;rw[decide_eq_true_eq,box_wnd (by omega) (by omega) h3 hp hs z1 z2,in_rectR];have e1:(ctr k b a).x=a*k+k / 2:=rfl;have e2:(ctr k b a).y=b*k+k / 2:=rfl;rw[e1,e2,px,py,sx,sy,B3 (by omega),B3 (by omega)];have f1:x*k+w*k=(x+w)*k:=by grind
 have f2:y*k+d*k=(y+d)*k:=by grind
 have g1:a*k+k / 2<(x+w)*k↔a<x+w:=by
  have:=B3 (x:=x+w) (X:=a) (k:=k) (by omega);omega
 have g2:b*k+k / 2<(y+d)*k↔b<y+d:=by
  have:=B3 (x:=y+d) (X:=b) (k:=k) (by omega);omega
 rw[f1,f2,g1,g2];constructor
 ·rintro⟨c1,c2⟩;exact⟨by omega,by omega,c2,c1⟩
 ·rintro⟨_,_,c2,c1⟩;exact⟨c1,c2⟩
theorem Qxs {h n:Int} (hh:4<=h) (hev:h % 2=0) (hn:1<=n):Qd9 (n*h) h=n.toNat:=by
 have key:∀i:Nat,i<Qd9 (n*h) h↔i<n.toNat:=λi=>by
  rw[Q7y (by omega)];have:=B3 (x:=n) (X:=(i:Int)) (k:=h) (by omega);omega
 have a:=key (Qd9 (n*h) h);have b:=key n.toNat;omega
theorem Qno {x y w d n k h:Int} {p s:V3} (hw:1<=w) (hd:1<=d) (hk:Z1 k 32 1024=true) (hh:Z1 h 4 1024=true) (hx:-4096<=x/\x+w<=4096) (hy:-4096<=y/\y+d<=4096) (px:p.x=x*k) (py:p.y=y*k) (pz:p.z=0) (sx:s.x=w*k) (sy:s.y=d*k) (sz:s.z=n*h)
  (hn:1<=n) (hn2:n<=256) (hp:p.valid=true) (hs:(p.add s).valid=true):Xq [⟨Qg p s,Ql⟩] k h=(List.replicate n.toNat (X4 x y w d),0):=by
 have hk2:32<=k:=by
  unfold Z1 at hk;simp only[Bool.and_eq_true,decide_eq_true_eq]at hk;exact hk.1.1
 have hh2:4<=h/\h % 2=0:=by
  unfold Z1 at hh;simp only[Bool.and_eq_true,decide_eq_true_eq]at hh;exact⟨hh.1.1,hh.2⟩
 have hwk:k<=w*k:=by have:=jn hw (show 0<=k by omega);omega
 have hdk:k<=d*k:=by have:=jn hd (show 0<=k by omega);omega
 have hnh:h<=n*h:=by have:=jn hn (show 0<=h by omega);omega
 obtain⟨b1,b2⟩:=box_ok (p:=p) (s:=s) (by omega) (by omega) (by omega) hp hs;have hclo:=(Qeu (p:=p) (s:=s) (by omega) (by omega) (by omega) hp hs).a;have q2:=V3.valid_iff.1 hs;simp only[V3.add]at q2;have hzs:∀z∈Kc h n.toNat,0<=z/\z<n*h:=λz hz=>by
  unfold Kc at hz;obtain⟨i,hi,rfl⟩:=qo.1 hz;have:=qz.1 hi;have h1:0<=(i:Int)*h:=Int.mul_nonneg (by omega) (by omega);have h2:=B3 (x:=n) (X:=(i:Int)) (k:=h) (by omega);omega
 have hsl:∀z∈Kc h n.toNat,Z3 ⟨Qg p s,Ql⟩ z k=(X4 x y w d,0):=λz hz=>by
  have:=hzs z hz;rw[Qfi hclo (by omega) hk];rw[box_ras hw hd hk2 hx hy px py sx sy (by omega) hp hs (by omega) (by omega)]
 have hlo:(bLo (Qg p s)).z=0:=by
  simp[Qg,bLo,Q7l,pz];omega
 have hhi:(bHi (Qg p s)).z=n*h:=by
  simp[Qg,bHi,Q17,pz,sz];omega
 have hpart:Xs ⟨Qg p s,Ql⟩ k h=(List.replicate n.toNat (X4 x y w d),0):=by
  have hg:I1 (n*h) h=(Kc h n.toNat,0):=by
   unfold I1;rw[if_neg (by rw[hh];simp),Qxs hh2.1 hh2.2 hn,if_neg (by omega)]
  unfold Xs;rw[if_neg (by simp[b2]),if_neg (by simp[Qg]),hlo,hhi,if_neg (by omega),hg,if_neg (by simp)];rw[Wv λz hz=>by rw[hsl z hz]];congr 1;refine qy λi=>?_
  rw[qp,jk];by_cases hi:i<n.toNat
  ·obtain⟨z,hq⟩:∃z,(Kc h n.toNat)[i]?=some z:=⟨_,q9 (by rw[U6];exact hi)⟩
   rw[if_pos hi,hq];simp only[Option.map_some];rw[hsl _ (qb hq)]
  ·rw[if_neg hi,qk (by rw[U6];omega)];rfl
 have hrb:RgB (X4 x y w d):=λb a hba=>by
  have:=in_rectR.1 hba;omega
 unfold Xq;rw[if_neg (by rw[hk,hh];simp)];unfold Bx;rw[hpart,if_neg (by simp)];unfold Bx;simp only;rw[Qud λg hg=>by rw[(List.mem_replicate.1 hg).2];exact⟨Qfz hw,hrb⟩]
def Z0b (P:Program) (f:FuncId):Prop:=∀x y w d:Int,(-10000<=x/\x<=10000)->(-10000<=y/\y<=10000)->(0<=w/\w<=10000)->(0<=d/\d<=10000)->CallIs P f [.i .i64 x,.i .i64 y,.i .i64 w,.i .i64 d] (rgV (X4 x y w d))
theorem Qe9 {α β γ:Type} {f:β->Option γ} {g:α->β} {k:α->γ}:∀{l:List α},(∀a∈l,f (g a)=some (k a))->(l.map g).mapM f=some (l.map k)
 | [],_=>rfl
 | a::l,h=>by
   have ih:=Qe9 (f:=f) (g:=g) (k:=k) (l:=l) λb hb=>h b (by simp[hb])
   simp only[List.map_cons,List.mapM_cons,h a (by simp),ih]
   rfl
def rcE (x y w:Int) (j:Nat):List V:=[.i .i64 (y+j),.own (3+j) 1 0 1]
def rcO (x w:Int):O:=.arr 1 2 [[.i .i64 x,.i .i64 (x+w)]]
theorem rcE_cl (x y w:Int) {i n:Nat} (h:i+3<=n):∀el∈(List.range i).map (rcE x y w),∀c∈el,c.cl n=true:=λel hel c hc=>by
 obtain⟨j,hj,rfl⟩:=qo.1 hel;have:=qz.1 hj;simp[rcE]at hc
 rcases hc with rfl | rfl
 ·rfl
 ·simp[V.cl,V.cl1,V.cl0];omega
theorem Qvf (x w:Int):∀(i n:Nat) (l:List O),WeakH n (List.replicate i (rcO x w)++l) (List.replicate i (rcO x w))
 | 0,n,l=>by simp[WeakH]
 | i+1,n,l=>by
   rw[List.replicate_succ];exact⟨.inr ⟨rfl,by simp[rcO,O.cl,V.cl,V.cl1,V.cl0]⟩,Qvf x w i n l⟩
section
variable {P:Program} (hm:P.follows .mixedOrders=true)
include hm
theorem Q0u {f:FuncId} (hf:Q5 P f L0b.c L0b.r L0b.n):Z0b P f:=by
 intro x y w d hx hy hw hd;obtain⟨D,rfl⟩:∃D:Nat,d=D:=⟨d.toNat,by omega⟩
 refine PureC.is (Qvh hm hf (qh rfl) ?_) rfl;unfold L0b.c;simp[go_sem];refine Qi [.c 1 0 0 2] (α:=Nat) (λi=>i<=D)
  (λi=>⟨[(0,.i .i64 x),(1,.i .i64 y),(2,.i .i64 w),(3,.i .i64 D),(8,.p 0 1 0 0),(9,.p 1 1 0 0),(10,.i .i64 i)],.arr 1 1 [[.nil]]::.arr 1 1 [[.own 2 (i+1) 0 i]]::.arr (i+1) 2 ((List.range i).map (rcE x y w))::List.replicate i (rcO x w)⟩)
  (λi=>D-i) 0 (Nat.zero_le _) ?_ ?_
 ·simp[go_sem]
 intro i hi;by_cases hil:i=D
 ·subst hil;simp[go_sem,L0b.r];have ht:List.take i ((List.range i).map (rcE x y w))=(List.range i).map (rcE x y w):=qe (by simp);rw[ht,Qe9 (k:=λ(j:Nat)=>[.i .i64 (y+j),.l 2 [[.i .i64 x,.i .i64 (x+w)]]]) λj hj=>by
   have hji:=qz.1 hj;have hg:∀A B C:O,(A::B::C::List.replicate i (rcO x w))[3+j]?=some (rcO x w):=λA B C=>by
    rw[show 3+j=j+1+1+1 by omega];simp[hji]
   simp only[rcE,List.mapM_cons,List.mapM_nil,Bv,Ys,hg,V.isD];simp[rcO,V.isD]]
  simp[rgV,X4,Rw.cs,Q9,Rn.cs,Yx]
 have hlt:i<D:=by omega
 have ht:List.take i ((List.range i).map (rcE x y w))=(List.range i).map (rcE x y w):=qe (by simp);have hgi:∀a b:O,(List.replicate i (rcO x w)++[a,b])[i+1]?=some b:=λa b=>by
  rw[qf (by simp)];simp
 simp (disch:=omega) [go_sem,hlt,ht,hgi,Q0];refine⟨⟨by omega,by omega⟩,i+1,by omega,by omega,by omega,by omega,rfl,⟨⟨rfl,?_⟩,λa ha c hc=>rcE_cl x y w (i:=i+1) (by omega) _ (ju (qz.2 ha)) c hc⟩,?_⟩
 ·rw[List.range_succ,qx];simp[rcE];omega
 ·have e:∀b:O,List.replicate i (rcO x w)++[rcO x w,b]=List.replicate (i+1) (rcO x w)++[b]:=λb=>by
   rw[List.replicate_succ'];simp
  have e2:=e (O.arr 1 2 [[V.i IntKind.i64 (y+↑i),V.own (i+1+1+1) 1 0 1]]);have:=Qvf x w (i+1) (i+1+1+1+1) [O.arr 1 2 [[V.i IntKind.i64 (y+↑i),V.own (i+1+1+1) 1 0 1]]];rw[<- e2]at this
  exact this
end
theorem rectR_b {x y w d:Int} (hx:-4096<=x/\x+w<=4096) (hy:-4096<=y/\y+d<=4096):RgB (X4 x y w d):=λb a hba=>by
 have:=in_rectR.1 hba;omega
def exMesh:Mesh:=⟨Qg ⟨0,0,0⟩ ⟨80,40,40⟩,Ql⟩
theorem Qde (s:Sett) (h1:s.pitch=40) (h2:s.height=20):Xq [exMesh] s.pitch s.height=([X4 0 0 2 1,X4 0 0 2 1],0):=by
 rw[h1,h2];exact Qno (x:=0) (y:=0) (w:=2) (d:=1) (n:=2) (p:=⟨0,0,0⟩) (s:=⟨80,40,40⟩) (by omega) (by omega) (by decide) (by decide) (by omega) (by omega) rfl rfl rfl rfl rfl rfl (by omega) (by omega) (by decide) (by decide)
section
variable {P:Program} (hm:P.follows .mixedOrders=true)
include hm
theorem Qap {f fh fb fs fr fe:FuncId} (hf:Q5 P f (L0c.c fh fb fs fr fe) L0c.r L0c.n) (hh:Qo9 P fh) (hb:BoxC P fb) (hs:Uz P fs) (hr:Z0b P fr) (he:Qi0 P fe):Qof P f:=by
 have c1:=hh 40 20 (by omega) (by omega);rw[show I1 40 20=([10,30],0) by decide]at c1
 have c2:=hb ⟨0,0,0⟩ ⟨80,40,40⟩ (by decide) (by decide);rw[show Qkt ⟨0,0,0⟩ ⟨80,40,40⟩=Qah exMesh 0 by rfl]at c2
 have c3:=hs [exMesh] ⟨40,20,0,0,0,0,0,false,0,0,0,0,0,0,0,0,0,0,0,0⟩ (by simp);rw[Qde _ rfl rfl]at c3
 have c4:=hr 0 0 2 1 (by omega) (by omega) (by omega) (by omega);have hv:RgV (X4 0 0 2 1)/\RgB (X4 0 0 2 1):=⟨Qfz (by omega),rectR_b (by omega) (by omega)⟩
 have hvs:Jy [X4 0 0 2 1,X4 0 0 2 1]:=λg hg=>by
  simp at hg;rw[hg];exact hv
 have c5:=he [X4 0 0 2 1,X4 0 0 2 1] [X4 0 0 2 1,X4 0 0 2 1] hvs hvs (by simp) (by simp);rw[decide_eq_true rfl]at c5
 have hmc:exMesh.cs.length=2:=rfl;have hmt:List.take 2 exMesh.cs=exMesh.cs:=rfl;have hmd:∀x∈exMesh.cs,x.isD=true:=by
  intro x hx;simp[Mesh.cs]at hx
  rcases hx with rfl | rfl<;>rfl
 have hmcl:∀n,∀x∈exMesh.cs,x.cl n=true:=λn x hx=>K4 n (hmd x hx)
 unfold Qah Mesh.enc at c2;unfold msV Sett.enc Sett.cs at c3;simp only at c3;generalize exMesh=m at *
 generalize X4 0 0 2 1=R at *
 refine PI hm hf ?_;unfold L0c.c;simp[go_sem];refine Q2 c1 ?_;simp[go_sem,isV];refine Q2 c2 ?_;simp[go_sem,V.cells,V.okA,hmc,hmt];have hma:∀x∈m.cs,x.isD=true:=hmd
 refine Y8 (vs:=[.l 2 [m.cs],.a [.i .i64 40,.i .i64 20,.i .i64 0,.i .i64 0,.i .i64 0,.i .i64 0,.i .i64 0,.b false,.i .i64 0,.i .i64 0,.i .i64 0,.i .i64 0,.i .i64 0,.i .i64 0,.i .i64 0,.i .i64 0,.i .i64 0,.i .i64 0,.i .i64 0,.i .i64 0]]) (by
  simp[Zh,frz,Ys];rw[if_pos hma];rfl) c3 ?_
 simp[go_sem,V.ids2,V.ids1,V.ids0,Q03,Y2];refine Q2 c4 ?_;simp[go_sem];refine Q2 c4 ?_;simp[go_sem,rgV];refine Y8 (vs:=[Xl [R,R],Xl [R,R]]) (by simp[Zh,frz,Ys,Y2,rgE,rwL,V.isD]) c5 ?_;simp[go_sem,L0c.r]
end
def schSt:List Sch:=[.i .i64,.i .i64,.i .i64,.i .i64,.i .i64,.i .i64,.i .i64,.b,.i .i64,.i .i64,.i .i64,.i .i64,.i .i64,.i .i64,.i .i64,.i .i64,.i .i64,.i .i64,.i .i64,.i .i64]
theorem mesh_of {e:List V} (h:okL schM e):∃m:Mesh,e=m.cs:=by
 simp only[schM,okL,Sch.ok]at h;obtain⟨v1,r1,rfl,⟨els,rfl,hl,he⟩,v2,r2,rfl,⟨els2,rfl,hl2,he2⟩,rfl⟩:=h;obtain⟨vs,rfl⟩:=Q7u (λe=>v3_of) els he;obtain⟨ts,rfl⟩:=Q7u (λe=>t3_of) els2 he2;exact⟨⟨vs,ts⟩,rfl⟩
theorem par_ms {ps:List (Bool × List Sch)} {us:List V} (h:Wl ((false,[.sl schM])::ps) us):∃(ms:List Mesh) (r:List V),us=msV ms::r/\ms.length<=9223372036854775807/\Wl ps r:=by
 simp only[Wl,Qox]at h;obtain⟨v,r,rfl,h1,hr⟩:=h;simp only[okL,Sch.ok]at h1;obtain⟨x,r',h2,⟨els,rfl,hl,he⟩,rfl⟩:=h1;obtain rfl:v=.l 2 els:=by simpa[schM]using h2
 obtain⟨ms,rfl⟩:=Q7u (λe=>mesh_of) els he;exact⟨ms,r,rfl,by simpa using hl,hr⟩
theorem par_st {ps:List (Bool × List Sch)} {us:List V} (h:Wl ((true,schSt)::ps) us):∃(s:Sett) (r:List V),us=s.enc::r/\Wl ps r:=by
 simp only[Wl,Qox]at h;obtain⟨v,r,rfl,⟨cs,rfl,hc⟩,hr⟩:=h;simp only[schSt,okL,Sch.ok]at hc;obtain⟨_,_,rfl,⟨a1,rfl,_⟩,_,_,rfl,⟨a2,rfl,_⟩,_,_,rfl,⟨a3,rfl,_⟩,_,_,rfl,⟨a4,rfl,_⟩,_,_,rfl,⟨a5,rfl,_⟩,_,_,rfl,⟨a6,rfl,_⟩,_,_,rfl,⟨a7,rfl,_⟩,_,_,rfl,⟨b,rfl⟩,_,_,rfl,⟨a8,rfl,_⟩,_,_,rfl,⟨a9,rfl,_⟩,_,_,rfl,⟨a10,rfl,_⟩,_,_,rfl,⟨a11,rfl,_⟩,
  _,_,rfl,⟨a12,rfl,_⟩,_,_,rfl,⟨a13,rfl,_⟩,_,_,rfl,⟨a14,rfl,_⟩,_,_,rfl,⟨a15,rfl,_⟩,_,_,rfl,⟨a16,rfl,_⟩,_,_,rfl,⟨a17,rfl,_⟩,_,_,rfl,⟨a18,rfl,_⟩,_,_,rfl,⟨a19,rfl,_⟩,rfl⟩:=hc
 exact⟨⟨a1,a2,a3,a4,a5,a6,a7,b,a8,a9,a10,a11,a12,a13,a14,a15,a16,a17,a18,a19⟩,r,rfl,hr⟩
end Go.Abs
