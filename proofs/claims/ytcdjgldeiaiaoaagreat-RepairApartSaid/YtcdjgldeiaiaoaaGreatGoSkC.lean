/- Part of the library on which the proof stands: an abstract machine, its values and its soundness against the model; or what functions of the program do to such values. -/
import Derived.Test.YtcdjgldeiaiaoaaGreatGoRqA
import Derived.Test.YtcdjgldeiaiaoaaGreatGoTr
import Derived.Test.YtcdjgldeiaiaoaaGreatGoRpD
import Derived.Test.YtcdjgldeiaiaoaaGreatGoShpA
import Derived.Test.YtcdjgldeiaiaoaaGreatGoRevC
import Derived.Test.YtcdjgldeiaiaoaaGreatGoSet
import Derived.Test.YtcdjgldeiaiaoaaGreatGoRsM
set_option linter.unusedVariables false
set_option linter.unusedSimpArgs false
namespace Go.Abs
def P2.sh (k:Int) (e:P2):P2:=⟨e.x+k,e.y+k⟩
theorem P2.sh_inj {k:Int} {a b:P2} (h:a.sh k=b.sh k):a=b:=by
 cases a;cases b
 simp only[P2.sh,P2.mk.injEq]at h ⊢
 omega
theorem Qm7 (k:Int) (t:T3):Q5 (t.sh k)=(Q5 t).map (P2.sh k):=by
 have h:∀t,Q5 t=(Y5 t).filter λa=>decide (a.x≠a.y):=λ_=>rfl
 have h3:Y5 (t.sh k)=(Y5 t).map (P2.sh k):=rfl
 rw[h,h,h3,List.filter_map]
 congr 1
 refine List.filter_congr λe _=>?_
 simp only[Function.comp,P2.sh]
 by_cases h:e.x=e.y
 ·simp[h]
 ·have:e.x+k≠e.y+k:=by omega
  simp[h,this]
theorem Qdy (k:Int) (ts:List T3):Q8 (ts.map (T3.sh k))=(Q8 ts).map (P2.sh k):=by
 unfold Q8
 rw[List.flatMap_map,List.map_flatMap]
 congr 1
 funext t
 exact Qm7 k t
theorem Qmg (k:Int) (E:List P2) (e:P2):(E.map (P2.sh k)).count (e.sh k)=E.count e:=by
 induction E with
 | nil=>rfl
 | cons a E ih =>
   rw[List.map_cons,List.count_cons,List.count_cons,ih]
   have:(a.sh k == e.sh k)=(a == e):=by
    rw[Bool.eq_iff_iff,beq_iff_eq,beq_iff_eq]
    exact⟨P2.sh_inj,λh=>by rw[h]⟩
   rw[this]
section
variable {m:Mesh} {d:V3}
theorem use_out (hz:m.check=0) {e:P2} (h:e.x<0∨(m.verts.length:Int)<=e.x):(Q8 m.tris).count e=0:=by
 rw[List.count_eq_zero]
 intro he
 have:=Zx hz he
 omega
theorem Q9k (hz:m.check=0) (hz':(m.dbl d).check=0) {e:P2} (h0:0<=e.x) (h1:e.x<m.verts.length):(m.dbl d).use e=m.use e:=by
 unfold Mesh.use
 rw[if_pos hz,if_pos hz']
 show ((Q8 (m.tris++m.tris.map (T3.sh m.verts.length))).count e:Int)=_
 have ha:Q8 (m.tris++m.tris.map (T3.sh m.verts.length))=Q8 m.tris++Q8 (m.tris.map (T3.sh m.verts.length)):=by unfold Q8;rw[List.flatMap_append]
 rw[ha,List.count_append,Qdy]
 have h2:((Q8 m.tris).map (P2.sh m.verts.length)).count e=0:=by
  rw[List.count_eq_zero]
  intro he
  obtain⟨a,ha,rfl⟩:=qp.1 he
  have:=Zx hz ha
  simp only[P2.sh]at h1
  omega
 rw[h2];simp
theorem Qfr (hz:m.check=0) (hz':(m.dbl d).check=0) {e:P2} (h0:0<=e.x):(m.dbl d).use (e.sh m.verts.length)=m.use e:=by
 unfold Mesh.use
 rw[if_pos hz,if_pos hz']
 show ((Q8 (m.tris++m.tris.map (T3.sh m.verts.length))).count (e.sh m.verts.length):Int)=_
 have ha:Q8 (m.tris++m.tris.map (T3.sh m.verts.length))=Q8 m.tris++Q8 (m.tris.map (T3.sh m.verts.length)):=by unfold Q8;rw[List.flatMap_append]
 rw[ha,List.count_append,Qdy,Qmg,use_out hz (e:=e.sh m.verts.length) (.inr (by simp only[P2.sh];omega))]
 simp
theorem Q4v (hz:m.check=0) (hz':(m.dbl d).check=0):(m.dbl d).border=m.border++m.border.map (P2.sh m.verts.length):=by
 refine Q2h (Zw _) ?_ λe=>?_
 ·unfold asc
  rw[jc]
  refine⟨Zw m,?_,λa ha b hb=>?_⟩
  ·rw[je]
   exact(Zw m).imp λ{a b} h=>by unfold P2.lt at h ⊢;simp only[P2.sh];omega
  ·obtain⟨b,hb2,rfl⟩:=qp.1 hb
   have:=Zt ha
   have:=Zt hb2
   unfold P2.lt
   simp only[P2.sh];omega
 ·have ha:Q8 (m.dbl d).tris=Q8 m.tris++(Q8 m.tris).map (P2.sh m.verts.length):=by
   rw[<- Qdy]
   show Q8 (m.tris++m.tris.map (T3.sh m.verts.length))=_
   unfold Q8;rw[List.flatMap_append]
  rw[qg,qp,mem_border,ha,qg,qp]
  constructor
  ·rintro⟨_,he | ⟨a,he,rfl⟩,hu⟩
   ·have hr:=Zx hz he
    rw[Q9k hz hz' hr.1 hr.2.1,Q9k hz hz' (e:=e.rev) hr.2.2.1 hr.2.2.2]at hu
    exact .inl (mem_border.2 ⟨hz,he,hu⟩)
   ·have hr:=Zx hz he
    rw[Qfr hz hz' hr.1,show (a.sh m.verts.length).rev=a.rev.sh m.verts.length from rfl,Qfr hz hz' (e:=a.rev) hr.2.2.1]at hu
    exact .inr ⟨a,mem_border.2 ⟨hz,he,hu⟩,rfl⟩
  ·rintro (hb | ⟨a,hb,rfl⟩)
   ·obtain⟨_,he,hu⟩:=mem_border.1 hb
    have hr:=Zx hz he
    refine⟨hz',.inl he,?_⟩
    rw[Q9k hz hz' hr.1 hr.2.1,Q9k hz hz' (e:=e.rev) hr.2.2.1 hr.2.2.2]
    exact hu
   ·obtain⟨_,he,hu⟩:=mem_border.1 hb
    have hr:=Zx hz he
    refine⟨hz',.inr ⟨a,he,rfl⟩,?_⟩
    rw[Qfr hz hz' hr.1,show (a.sh m.verts.length).rev=a.rev.sh m.verts.length from rfl,Qfr hz hz' (e:=a.rev) hr.2.2.1]
    exact hu
end
theorem Q33 {m:Mesh} {l:List P2}:m.simple l=true↔∀(i:Nat) (e:P2),l[i]?=some e->m.use e=1/\m.use e.rev=0/\(0<i->((l[i-1]?).getD ⟨0,0⟩).x≠e.x):=by
 constructor
 ·intro h i e he
  exact Ku h he
 ·intro h
  unfold Mesh.simple
  rw[qj]
  intro i hi
  have hlt:=qz.1 hi
  have he:l[i]?=some l[i]:=q9 hlt
  obtain⟨h1,h2,h3⟩:=h i _ he
  unfold Wm
  rw[he]
  simp only[h1,h2,decide_true,Bool.true_and,Bool.not_eq_true',Bool.and_eq_false_iff,decide_eq_false_iff_not]
  by_cases h0:0<i
  ·exact .inr (h3 h0)
  ·exact .inl h0
theorem Qdl {m:Mesh} {d:V3} (hz:m.check=0) (hz':(m.dbl d).check=0):(m.dbl d).simple (m.dbl d).border=m.simple m.border:=by
 rw[Bool.eq_iff_iff,Q33,Q33,Q4v hz hz']
 have hr:∀(i:Nat) (e:P2),m.border[i]?=some e->0<=e.x/\e.x<m.verts.length/\0<=e.y/\e.y<m.verts.length:=λi e he=>Zt (qb he)
 constructor
 ·intro h i e he
  have hi:=(q8.1 he).1
  obtain⟨r0,r1,r2,r3⟩:=hr i e he
  have:=h i e (by rw[qd hi];exact he)
  rw[Q9k hz hz' r0 r1,Q9k hz hz' (e:=e.rev) r2 r3,qd (by omega)]at this
  exact this
 ·intro h i e he
  by_cases hi:i<m.border.length
  ·rw[qd hi]at he
   obtain⟨r0,r1,r2,r3⟩:=hr i e he
   rw[Q9k hz hz' r0 r1,Q9k hz hz' (e:=e.rev) r2 r3,qd (by omega)]
   exact h i e he
  ·rw[qf (by omega),qq,qa]at he
   obtain⟨a,ha,rfl⟩:=he
   obtain⟨r0,r1,r2,r3⟩:=hr _ a ha
   obtain⟨h1,h2,h3⟩:=h _ a ha
   rw[Qfr hz hz' r0,show (a.sh m.verts.length).rev=a.rev.sh m.verts.length from rfl,Qfr hz hz' (e:=a.rev) r2]
   refine⟨h1,h2,λhi0=>?_⟩
   by_cases hj:i-1<m.border.length
   ·rw[qd hj,q9 hj]
    have:=hr (i-1) _ (q9 hj)
    simp only[Option.getD_some,P2.sh]
    omega
   ·have hlt:=(q8.1 ha).1
    have h4:=h3 (by omega)
    rw[qf (by omega),qq]
    rw[show i-m.border.length-1=i-1-m.border.length by omega]at h4
    have hk:i-1-m.border.length<m.border.length:=by omega
    rw[q9 hk]at h4 ⊢
    simp only[Option.getD_some,Option.map_some,P2.sh]at h4 ⊢
    omega
theorem Q65 {nx:Int->Int} {A D:List Int} (hm:∀v∈A,nx v∈A):∀(fu fv:Nat) (w:List Int) (v:Int),v∈A->Q9l A (D++w)<fu->Q9l A (D++w)<fv->X4 nx D fu w v=X4 nx D fv w v
 | 0,_,_,_,_,h,_=>by omega
 | _,0,_,_,_,_,h=>by omega
 | fu+1,fv+1,w,v,hv,h1,h2=>by
   unfold X4
   by_cases hd:v∈D++w
   ·rw[if_pos hd,if_pos hd]
   ·rw[if_neg hd,if_neg hd]
    have:=Q76 hv hd
    rw[j2]at this
    exact Q65 hm fu fv _ _ (hm v hv) (by omega) (by omega)
theorem Qa9 {k v:Int} {D1 D:List Int} (h:v+k∉D1):v+k∈D1++D.map (·+k)↔v∈D:=by
 rw[qg,qp]
 constructor
 ·rintro (h1 | ⟨u,hu,he⟩)
  ·exact absurd h1 h
  ·have:u=v:=by omega
   subst this;exact hu
 ·exact λh1=>.inr ⟨v,h1,rfl⟩
theorem Q9f {nx nx':Int->Int} {A D1 D:List Int} {k:Int} (hm:∀v∈A,nx v∈A) (hn:∀v∈A,nx' (v+k)=nx v+k) (hD:∀v∈A,v+k∉D1) :
  ∀(fu:Nat) (w:List Int) (v:Int),v∈A->X4 nx' (D1++D.map (·+k)) fu (w.map (·+k)) (v+k)=(X4 nx D fu w v).map (·+k)
 | 0,w,v,_=>rfl
 | fu+1,w,v,hv=>by
   unfold X4
   have hiff:v+k∈D1++D.map (·+k)++w.map (·+k)↔v∈D++w:=by
    rw[j2,<- qx]
    exact Qa9 (hD v hv)
   by_cases hd:v∈D++w
   ·rw[if_pos hd,if_pos (hiff.2 hd)]
   ·rw[if_neg hd,if_neg (λh=>hd (hiff.1 h)),hn v hv]
    have:=Q9f (D:=D) hm hn hD fu (w++[v]) (nx v) (hm v hv)
    rw[qx]at this
    exact this
theorem Q48 {nx nx':Int->Int} {A D1:List Int} {W1:List (List Int)} {k:Int} {N N':Nat} (hA:A.length<=N) (hA':A.length<=N') (hm:∀v∈A,nx v∈A) (hn:∀v∈A,nx' (v+k)=nx v+k) (hD:∀v∈A,v+k∉D1) :
  ∀(l:List P2) (s:List Int × List (List Int)),(∀e∈l,e.x∈A) ->
  (l.map (P2.sh k)).foldl (Z2 nx' N') (D1++s.1.map (·+k),W1++s.2.map (List.map (·+k)))=(D1++(l.foldl (Z2 nx N) s).1.map (·+k),W1++(l.foldl (Z2 nx N) s).2.map (List.map (·+k)))
 | [],s,_=>rfl
 | e::l,s,h=>by
   rw[List.map_cons,List.foldl_cons,List.foldl_cons]
   have he:=h e (by simp)
   have hst:Z2 nx' N' (D1++s.1.map (·+k),W1++s.2.map (List.map (·+k))) (e.sh k)=(D1++(Z2 nx N s e).1.map (·+k),W1++(Z2 nx N s e).2.map (List.map (·+k))):=by
    unfold Z2
    have hiff:(e.sh k).x∈D1++s.1.map (·+k)↔e.x∈s.1:=Qa9 (hD _ he)
    by_cases hd:e.x∈s.1
    ·rw[if_pos hd,if_pos (hiff.2 hd)]
    ·rw[if_neg hd,if_neg (λhh=>hd (hiff.1 hh))]
     have h1:=Q9f (D:=s.1) hm hn hD (N'+1) [] e.x he
     have ht:=Q77 A (s.1++[])
     rw[Q65 (D:=s.1) hm (N'+1) (N+1) [] e.x he (by omega) (by omega)]at h1
     have h2:X4 nx' (D1++s.1.map (·+k)) (N'+1) [] (e.sh k).x=(X4 nx s.1 (N+1) [] e.x).map (·+k):=h1
     rw[h2]
     simp only[qx,List.map_cons,List.map_nil,j2]
   rw[hst]
   exact Q48 hA hA' hm hn hD l _ λa ha=>h a (by simp[ha])
theorem Qk9 {l k:List P2} {v:Int} (h:v∈l.map P2.y):nxt (l++k) v=nxt l v:=by
 unfold nxt
 rw[List.find?_append]
 cases hf:l.find? (λe=>decide (e.y=v)) with
 | none =>
   obtain⟨e,he,hv⟩:=qp.1 h
   have:=List.find?_eq_none.1 hf e he
   simp[hv]at this
 | some a=>rfl
theorem Qk8 {l k:List P2} {v:Int} (h:v∉l.map P2.y):nxt (l++k) v=nxt k v:=by
 unfold nxt
 rw[List.find?_append]
 cases hf:l.find? (λe=>decide (e.y=v)) with
 | none=>rfl
 | some a =>
   have h1:=List.find?_some hf
   have h2:=List.mem_of_find?_eq_some hf
   simp only[decide_eq_true_eq]at h1
   exact absurd (qp.2 ⟨a,h2,h1⟩) h
theorem nxt_sh {l:List P2} {k v:Int}:nxt (l.map (P2.sh k)) (v+k)=nxt l v+k:=by
 unfold nxt
 rw[List.find?_map]
 have:((λe:P2=>decide (e.y=v+k)) ∘ P2.sh k)=λe:P2=>decide (e.y=v):=by
  funext e
  simp only[Function.comp,P2.sh]
  by_cases h:e.y=v
  ·simp[h]
  ·have:e.y+k≠v+k:=by omega
   simp[h,this]
 rw[this]
 cases l.find? (λe=>decide (e.y=v))<;>rfl
theorem Qb5 {m:Mesh} {d:V3} (hz:m.check=0) (hz':(m.dbl d).check=0) (hs:m.simple m.border=true) :
  Yd (m.dbl d).border=Yd m.border++(Yd m.border).map (List.map (·+(m.verts.length:Int))):=by
 rw[Q4v hz hz']
 have hm:=(Q3z hz hs).mem
 have hxy:=Jj hz hs
 have hr:∀v∈m.border.map P2.x,0<=v/\v<m.verts.length:=λv hv=>by
  obtain⟨e,he,rfl⟩:=qp.1 hv
  have:=Zt he
  exact⟨this.1,this.2.1⟩
 have hry:∀v∈m.border.map P2.y,0<=v/\v<m.verts.length:=λv hv=>hr v ((hxy v).2 hv)
 have hx:∀e∈m.border,e.x∈m.border.map P2.x:=λe he=>qp.2 ⟨e,he,rfl⟩
 unfold Yd Ze
 rw[qi,qi,List.foldl_append]
 have p1:=Q48 (nx:=nxt m.border) (nx':=nxt (m.border++m.border.map (P2.sh m.verts.length))) (A:=m.border.map P2.x) (D1:=[]) (W1:=[]) (k:=0) (N:=m.border.length) (N':=(m.border++m.border.map (P2.sh m.verts.length)).length)
  (by simp) (by simp) hm (λv hv=>by rw[Int.add_zero,Int.add_zero];exact Qk9 ((hxy v).1 hv)) (λ_ _=>by simp) m.border ([],[]) hx
 have e0:∀l:List Int,l.map (·+(0:Int))=l:=λl=>by simp
 have e1:∀l:List (List Int),l.map (List.map (·+(0:Int)))=l:=λl=>by simp
 have e2:m.border.map (P2.sh 0)=m.border:=by
  conv=>rhs;rw[<- List.map_id m.border]
  exact jl λe _=>by simp[P2.sh]
 rw[e2,e0,e1,e0,e1]at p1
 simp only[List.nil_append]at p1
 rw[p1]
 have hok:=(Q0v (Q3z hz hs) m.border.length (Nat.le_refl _)).1
 unfold Ze at hok
 rw[qi]at hok
 have p2:=Q48 (nx:=nxt m.border) (nx':=nxt (m.border++m.border.map (P2.sh m.verts.length))) (A:=m.border.map P2.x)
  (D1:=(m.border.foldl (Z2 (nxt m.border) m.border.length) ([],[])).1) (W1:=(m.border.foldl (Z2 (nxt m.border) m.border.length) ([],[])).2) (k:=m.verts.length) (N:=m.border.length)
  (N':=(m.border++m.border.map (P2.sh m.verts.length)).length) (by simp) (by simp) hm
  (λv hv=>by
   rw[Qk8 (λhh=>by have h1:=hry _ hh;have h2:=hr _ hv;omega)]
   exact nxt_sh)
  (λv hv hh=>by have h1:=hr _ (hok.sub _ hh);have h2:=hr _ hv;omega) m.border ([],[]) hx
 simp only[List.map_nil,List.append_nil]at p2
 rw[show ((m.border.foldl (Z2 (nxt m.border) m.border.length) ([],[])):List Int × List (List Int))=((m.border.foldl (Z2 (nxt m.border) m.border.length) ([],[])).1,(m.border.foldl (Z2 (nxt m.border) m.border.length) ([],[])).2) from rfl,p2]
theorem Q6t {m:Mesh} {d:V3} (hz:m.check=0) (hz':(m.dbl d).check=0) :
  (m.dbl d).loops=(m.loops.1++m.loops.1.map (List.map (·+(m.verts.length:Int))),m.loops.2):=by
 unfold Mesh.loops
 rw[if_pos hz,if_pos hz',Qdl hz hz']
 by_cases hs:m.simple m.border=true
 ·rw[if_pos hs,if_pos hs,Qb5 hz hz' hs]
 ·rw[if_neg hs,if_neg hs];rfl
theorem fan_sh (k:Int) (w:List Int):Zk (w.map (·+k))=(Zk w).map (T3.sh k):=by
 unfold Zk Ic
 rw[List.length_map,List.map_map]
 refine jl λi hi=>?_
 have hi:=qz.1 hi
 have hg:∀j,j<w.length->((w.map (·+k))[j]?).getD 0=(w[j]?).getD 0+k:=λj hj=>by
  rw[qq,q9 hj];rfl
 simp only[Function.comp,T3.sh,hg 0 (by omega),hg (i+1) (by omega),hg (i+2) (by omega)]
theorem fans_sh (k:Int) (ls:List (List Int)):(ls.map (List.map (·+k))).flatMap Zk=(ls.flatMap Zk).map (T3.sh k):=by
 rw[List.flatMap_map,List.map_flatMap]
 congr 1
 funext w
 exact fan_sh k w
theorem Qhu {m:Mesh} {d:V3} (hz:m.check=0) (hz':(m.dbl d).check=0):(m.dbl d).fillM=⟨m.verts++m.verts.map (·.add d),(m.tris++m.tris.map (T3.sh m.verts.length))++(m.loops.1.flatMap Zk++(m.loops.1.flatMap Zk).map (T3.sh m.verts.length))⟩:=by
 unfold Mesh.fillM
 rw[Q6t hz hz']
 simp only[List.flatMap_append,fans_sh]
 rfl
theorem Iu {a b:List T3} {i:Nat} (h:i<a.length):tAt (a++b) i=tAt a i:=by unfold tAt;rw[qd h]
theorem Ir {a b:List T3} {i:Nat} (h:a.length<=i):tAt (a++b) i=tAt b (i-a.length):=by unfold tAt;rw[qf h]
theorem Q30 {a:List T3} {k:Int} {i:Nat} (h:i<a.length):tAt (a.map (T3.sh k)) i=(tAt a i).sh k:=by
 unfold tAt;rw[qq,q9 h];rfl
theorem Qgp {m m':Mesh} {d:V3} {F:List T3} {ts:List T3} (hz:m.check=0) (hz':m'.check=0) (hm:m.tris=ts++F) (hv:m'.verts=m.verts++m.verts.map (·.add d)) (mv:Yb (m.verts.map (·.add d))=true)
  (hm':m'.tris=(ts++ts.map (T3.sh m.verts.length))++(F++F.map (T3.sh m.verts.length))) :
  Pair m m' d (λi=>if i<ts.length then i else i+ts.length) (λi=>if i<ts.length then i+ts.length else i+ts.length+F.length) where
 z:=hz
 z':=hz'
 vs:=hv
 mv:=mv
 len:=by rw[hm,hm'];simp only[j3,List.length_map];omega
 fm i j h:=by split<;>split<;>omega
 gm i j h:=by split<;>split<;>omega
 fl i hi:=by
  rw[hm]at hi;rw[hm']
  simp only[j3,List.length_map]at hi ⊢
  split<;>omega
 gl i hi:=by
  rw[hm]at hi;rw[hm']
  simp only[j3,List.length_map]at hi ⊢
  split<;>omega
 fa i hi:=by
  rw[hm,j3]at hi
  rw[hm,hm']
  split
  ·rw[Iu (by simp;omega),Iu (by omega),Iu (by omega)]
  ·rw[Ir (by simp;omega),Iu (by simp;omega),Ir (a:=ts) (b:=F) (by omega)]
   congr 1
   simp;omega
 ga i hi:=by
  rw[hm,j3]at hi
  rw[hm,hm']
  split
  ·rw[Iu (by simp;omega),Ir (by omega),Iu (b:=F) (by omega),Nat.add_sub_cancel]
   exact Q30 (by omega)
  ·rw[Ir (by simp;omega),Ir (by simp;omega),Ir (a:=ts) (b:=F) (by omega)]
   have:i+ts.length+F.length-(ts++List.map (T3.sh m.verts.length) ts).length-F.length=i-ts.length:=by simp;omega
   rw[this]
   exact Q30 (by omega)
 cov j hj:=by
  rw[hm']at hj
  rw[hm]
  simp only[j3,List.length_map]at hj ⊢
  by_cases h1:j<ts.length
  ·exact⟨j,by omega,.inl (by rw[if_pos h1])⟩
  ·by_cases h2:j<ts.length+ts.length
   ·exact⟨j-ts.length,by omega,.inr (by rw[if_pos (by omega)];omega)⟩
   ·by_cases h3:j<ts.length+ts.length+F.length
    ·exact⟨j-ts.length,by omega,.inl (by rw[if_neg (by omega)];omega)⟩
    ·exact⟨j-ts.length-F.length,by omega,.inr (by rw[if_neg (by omega)];omega)⟩
theorem Qa1 {m m':Mesh} {d:V3} {n:Nat} (hn:m.tris.length=n) (hz:m.check=0) (hz':m'.check=0) (hv:m'.verts=m.verts++m.verts.map (·.add d)) (mv:Yb (m.verts.map (·.add d))=true)
  (hm':m'.tris=m.tris++m.tris.map (T3.sh m.verts.length)):Pair m m' d (λi=>i) (λi=>i+n) where
 z:=hz
 z':=hz'
 vs:=hv
 mv:=mv
 len:=by rw[hm',j3,List.length_map]
 fm i j h:=h
 gm i j h:=by omega
 fl i hi:=by rw[hm',j3];omega
 gl i hi:=by rw[hm',j3,List.length_map];omega
 fa i hi:=by rw[hm'];exact Iu hi
 ga i hi:=by
  rw[hm']
  rw[Ir (by omega),hn,Nat.add_sub_cancel]
  exact Q30 hi
 cov j hj:=by
  rw[hm',j3,List.length_map]at hj
  by_cases h:j<n
  ·exact⟨j,by omega,.inl rfl⟩
  ·exact⟨j-n,by omega,.inr (by omega)⟩
theorem Fl.of_tat {ts us:List T3} (hl:us.length=ts.length) (h:∀i,i<ts.length->tAt us i=tAt ts i∨tAt us i=(tAt ts i).rev):Fl ts us where
 len:=hl
 at_ i t u h1 h2:=by
  have hi:=(q8.1 h1).1
  rw[Qk hi]at h1
  rw[Qk (by rw[hl];exact hi)]at h2
  obtain rfl:=Option.some.inj h1
  obtain rfl:=Option.some.inj h2
  exact h i hi
theorem Fl.two {ts us:List T3} (h:Fl ts us) (k:Int):Fl (ts++ts.map (T3.sh k)) (us++us.map (T3.sh k)):=by
 refine .of_tat (by simp[h.len]) λi hi=>?_
 rw[j3,List.length_map]at hi
 by_cases h1:i<ts.length
 ·rw[Iu (by rw[h.len];exact h1),Iu h1]
  exact h.tat h1
 ·have hl:=h.len
  rw[Ir (by omega),Ir (by omega),hl,Q30 (by omega),Q30 (by omega)]
  rcases h.tat (i:=i-ts.length) (by omega) with h2 | h2
  ·exact .inl (by rw[h2])
  ·exact .inr (by rw[h2];rfl)
theorem Qdm {m:Mesh} {d:V3} (h:Side m d) (hz':(m.dbl d).check=0) :
  (Z9 m.tris=none->Z9 (m.dbl d).tris=none)/\∀us,Z9 m.tris=some us->Z9 (m.dbl d).tris=some (us++us.map (T3.sh m.verts.length)):=by
 obtain⟨L,hL⟩:=Yq m.tris
 obtain⟨L',hL'⟩:=Yq (m.dbl d).tris
 have P:Pair m (m.dbl d) d (λi=>i) (λi=>i+m.tris.length):=Qa1 rfl h.z hz' rfl h.mv rfl
 constructor
 ·intro hn
  refine B6 hL' λus' G'=>?_
  have hl:us'.length=m.tris.length+m.tris.length:=by rw[G'.fl.len];exact P.len
  have hat:∀i,i<m.tris.length->tAt (us'.take m.tris.length) i=tAt us' i:=λi hi=>by
   unfold tAt;rw[List.getElem?_take_of_lt hi]
  have hln:(us'.take m.tris.length).length=m.tris.length:=by rw[qw];omega
  have G:Good m.tris (us'.take m.tris.length) L:=by
   refine⟨.of_tat hln λi hi=>?_,?_,λi hi hLi=>?_⟩
   ·rw[hat i hi,<- P.fa i hi]
    exact G'.fl.tat (P.fl i hi)
   ·intro i j e hi hj h1 h2
    rw[hln]at hi hj
    rw[hat i hi]at h1
    rw[hat j hj]at h2
    exact G'.coh i j e (by omega) (by omega) h1 h2
   ·rw[hat i hi,<- P.fa i hi]
    exact G'.first i (P.fl i hi) (P.e1.lab hL hL' hLi)
  rw[Ja hL G]at hn
  simp at hn
 ·intro us ho
  have G:=Ky hL ho
  have hfl:Fl (m.dbl d).tris (us++us.map (T3.sh m.verts.length)):=G.fl.two _
  have Q:Pair ⟨m.verts,us⟩ ⟨(m.dbl d).verts,us++us.map (T3.sh m.verts.length)⟩ d (λi=>i) (λi=>i+m.tris.length) :=
   Qa1 G.fl.len (G.fl.check h.z) (hfl.check hz') rfl h.mv rfl
  refine Ja hL' ⟨hfl,Q.coh.2 G.coh,λj hj hLj=>?_⟩
  have hul:us.length=m.tris.length:=G.fl.len
  obtain⟨i,hi,rfl | rfl⟩:=P.cov j hj
  ·have h1:=Q.fa j (by show j<us.length;omega)
   have h2:=P.fa j hi
   rw[h2]
   exact h1.trans (G.first j hi ((P.e1.labR hL hL' hi).1 hLj))
  ·have h1:=Q.ga i (by show i<us.length;omega)
   have h2:=P.ga i hi
   rw[h2]
   exact h1.trans (congrArg (T3.sh m.verts.length) (G.first i hi ((P.e2.labR hL hL' hi).1 hLj)))
theorem Side.ori {m:Mesh} {d:V3} (h:Side m d) {us:List T3} (hf:Fl m.tris us):Side ⟨m.verts,us⟩ d:=⟨hf.check h.z,h.mv,h.far⟩
theorem Q8u {m:Mesh} (hz:m.check=0):m.cleanM.check=0:=by
 obtain⟨z1,z2,z3,z4⟩:=Mesh.check_zero.1 hz
 refine Mesh.check_zero.2 ⟨z1,?_,z3,?_⟩
 ·exact Nat.le_trans (Kl m.deg m.tris).sub.length_le z2
 ·simp only[Jl,qj]at z4 ⊢
  exact λt ht=>z4 t (Q12 t ht)
theorem Qju {m:Mesh} {d:V3} (h:Side m d) (hz':(m.dbl d).check=0) (ht:m.tris.length<=60):(Y2 (m.dbl d)).2.2=(Y2 m).2.2 /\
  ((Y2 m).2.2=0->(Y2 (m.dbl d)).2.1.sh=2*(Y2 m).2.1.sh/\(Y2 (m.dbl d)).2.1.ho=2*(Y2 m).2.1.ho/\(Y2 (m.dbl d)).1.vol6=2*(Y2 m).1.vol6/\0<=(Y2 m).2.1.ho/\(Y2 m).2.1.ho<=180/\-1000000000000000000<=(Y2 m).1.vol6/\(Y2 m).1.vol6<=1000000000000000000):=by
 have w:∀x:Mesh,x.check=0->Qb x=(x.weldM,(x.verts.length:Int)-x.wverts.length,0):=λx hx=>by unfold Qb;rw[if_pos hx]
 have c:∀x:Mesh,x.check=0->Qe x=(x.cleanM,((Qr x.deg x.tris).deg:Int),((Qr x.deg x.tris).twin:Int),0):=λx hx=>by unfold Qe;rw[if_pos hx]
 have ha:=h.weld
 have hb:=ha.cleanM
 have hc:=hb.weld
 have za':(m.weldM.dbl d).check=0:=by rw[<- Bs h];exact Eb hz'
 have zb':(m.weldM.cleanM.dbl d).check=0:=by rw[<- Q6u ha];exact Q8u za'
 have zc':(m.weldM.cleanM.weldM.dbl d).check=0:=by rw[<- Bs hb];exact Eb zb'
 have hlen:m.weldM.cleanM.weldM.tris.length<=60:=by
  have h1:m.weldM.cleanM.weldM.tris.length=m.weldM.cleanM.tris.length:=by simp[Mesh.weldM]
  have h2:m.weldM.tris.length=m.tris.length:=by simp[Mesh.weldM]
  have h3:m.weldM.cleanM.tris.length<=m.weldM.tris.length:=(Kl m.weldM.deg m.weldM.tris).sub.length_le
  omega
 unfold Y2
 simp only[]
 simp only[w _ h.z,w _ hz',Bs h,c _ ha.z,c _ za',Q6u ha,w _ hb.z,w _ zb',Bs hb,ne_eq,not_true_eq_false,if_false]
 generalize m.weldM.cleanM.weldM=x at *
 obtain⟨o1,o2⟩:=Qdm hc zc'
 cases ho:Z9 x.tris with
 | none =>
   rw[Q3j hc.z ho,Q3j zc' (o1 ho)]
   simp
 | some us =>
   obtain⟨L,hL⟩:=Yq x.tris
   have hfl:=(Ky hL ho).fl
   have hy:=hc.ori hfl
   have zy':((⟨x.verts,us⟩:Mesh).dbl d).check=0:=(hfl.two x.verts.length).check zc'
   have hyl:(⟨x.verts,us⟩:Mesh).tris.length<=60:=by show us.length<=60;rw[hfl.len];exact hlen
   rw[Q2d hc.z ho,Q2d zc' (o2 us ho),show (⟨(x.dbl d).verts,us++us.map (T3.sh x.verts.length)⟩:Mesh)=(⟨x.verts,us⟩:Mesh).dbl d from rfl]
   simp only[not_true_eq_false,if_false]
   generalize (⟨x.verts,us⟩:Mesh)=y at *
   have hlp:=Q6t hy.z zy'
   have hl2:(y.dbl d).loops.2=y.loops.2:=by rw[hlp]
   have hl1:(y.dbl d).loops.1.length=2*y.loops.1.length:=by rw[hlp];simp;omega
   by_cases hl:y.loops.2=0
   case neg =>
    have f1:Qt y=(noMesh,0,y.loops.2):=by unfold Qt;rw[if_neg hl]
    have f2:Qt (y.dbl d)=(noMesh,0,y.loops.2):=by unfold Qt;rw[hl2,if_neg hl]
    rw[f1,f2]
    simp[hl]
   have hl':(y.dbl d).loops.2=0:=by rw[hl2];exact hl
   have hln:y.loops.1.length<=180:=by
    have h1:=Ul hl
    obtain⟨_,hs,hls⟩:=Wx hl
    have h2:=Q9n y.loops.1 λw hw=>by rw[hls]at hw;have:=Q47 hy.z hs w hw;omega
    have:=K7 y
    omega
   have n1:y.fillM.tris.length<=4096:=by have:=Q4p hl;have:=K7 y;omega
   have n0:y.fillM.tris.length<=240:=by have:=Q4p hl;have:=K7 y;omega
   have n2:(y.dbl d).fillM.tris.length<=4096:=by
    have:=Q4p hl';have:=K7 (y.dbl d)
    have:(y.dbl d).tris.length=y.tris.length+y.tris.length:=by simp[Mesh.dbl]
    omega
   have f1:Qt y=(y.fillM,(y.loops.1.length:Int),0):=by unfold Qt;rw[if_pos hl,if_pos n1]
   have f2:Qt (y.dbl d)=((y.dbl d).fillM,((y.dbl d).loops.1.length:Int),0):=by unfold Qt;rw[if_pos hl',if_pos n2]
   rw[f1,f2]
   simp only[not_true_eq_false,if_false]
   have zg:=Ib hl n1
   have zg':=Ib hl' n2
   have cg:y.fillM.closed=true:=by simp[Mesh.closed,zg,Q1l hl n1]
   have cg':(y.dbl d).fillM.closed=true:=by simp[Mesh.closed,zg',Q1l hl' n2]
   have hfm:=Qhu (d:=d) hy.z zy'
   have P:=Qgp (m:=y.fillM) (m':=(y.dbl d).fillM) (d:=d) (ts:=y.tris) (F:=y.loops.1.flatMap Zk) zg zg' rfl (by rw[hfm];rfl) hy.mv (by rw[hfm];rfl)
   generalize y.fillM=g at *
   generalize (y.dbl d).fillM=g' at *
   by_cases hh:cohB g.tris=false
   case pos =>
    have hh':cohB g'.tris=false:=by rw[P.cohB];exact hh
    have e1:Zm g=(⟨[],[]⟩,0,13):=by unfold Zm;rw[if_neg (by simpa using zg),if_neg (by rw[cg];simp),if_pos hh]
    have e2:Zm g'=(⟨[],[]⟩,0,13):=by unfold Zm;rw[if_neg (by simpa using zg'),if_neg (by rw[cg'];simp),if_pos hh']
    rw[e1,e2]
    simp
   have hh':¬ cohB g'.tris=false:=by rw[P.cohB];exact hh
   have e1:Zm g=(g.outw,(g.negs.length:Int),0):=by unfold Zm;rw[if_neg (by simpa using zg),if_neg (by rw[cg];simp),if_neg hh]
   have e2:Zm g'=(g'.outw,(g'.negs.length:Int),0):=by unfold Zm;rw[if_neg (by simpa using zg'),if_neg (by rw[cg'];simp),if_neg hh']
   rw[e1,e2]
   simp only[not_true_eq_false,if_false]
   have O:=P.outw (cohB_iff.1 (by simpa using hh)) (W7 cg).2
   have k1:=Q7m zg cg (by simpa using hh)
   have k2:=Q7m zg' cg' (by simpa using hh')
   rw[Qfe k1,Qfe k2,O.deg]
   by_cases hd:g.outw.tris.any g.outw.deg=true
   ·rw[if_pos hd];simp
   ·rw[if_neg hd]
    simp only[not_true_eq_false,if_false]
    refine⟨trivial,λ_=>⟨?_,?_,?_,?_,?_,?_⟩⟩
    ·rw[O.shells];omega
    ·rw[hl1];omega
    ·rw[J9 k1.z,J9 k2.z];exact O.vol k1.clo
    ·omega
    ·omega
    ·obtain⟨_,_,z3,z4⟩:=Mesh.check_zero.1 k1.z
     have hb:=Qbw z3 z4
     have hg:g.outw.tris.length=g.tris.length:=Zf _ _
     rw[J9 k1.z]
     omega
def T3.sft (n:Int) (t:T3):T3:=⟨t.a+n,t.b+n,t.c+n⟩
def Mesh.join (a b:Mesh):Mesh:=⟨a.verts++b.verts,a.tris++b.tris.map (T3.sft a.verts.length)⟩
def E4 (a b:Mesh):Mesh × Int:=if a.check=0/\b.check=0 then (if a.verts.length+b.verts.length<=4096/\a.tris.length+b.tris.length<=4096 then (a.join b,0) else (noMesh,2)) else (noMesh,1)
def Qnm (P:Program) (f:FuncId):Prop:=∀a b:Mesh,CallIs P f [a.enc,b.enc] (.t [(E4 a b).1.enc,.i .i64 (E4 a b).2])
theorem Qd1 {a b:Mesh} (ha:a.check=0) (hb:b.check=0) (h1:a.verts.length+b.verts.length<=4096) (h2:a.tris.length+b.tris.length<=4096):(a.join b).check=0:=by
 obtain⟨_,_,a3,a4⟩:=Mesh.check_zero.1 ha
 obtain⟨_,_,b3,b4⟩:=Mesh.check_zero.1 hb
 refine Mesh.check_zero.2 ⟨by simpa[Mesh.join]using h1,by simpa[Mesh.join]using h2,?_,?_⟩
 ·simp only[Mesh.join,Yb,List.all_append,Bool.and_eq_true]
  exact⟨a3,b3⟩
 ·simp only[Mesh.join,Jl,List.all_append,Bool.and_eq_true,qj,j3]at a4 b4 ⊢
  refine⟨λt ht=>?_,λt ht=>?_⟩
  ·have:=T3.ok_iff.1 (a4 t ht)
   exact T3.ok_iff.2 (by omega)
  ·obtain⟨s,hs,rfl⟩:=qp.1 ht
   have:=T3.ok_iff.1 (b4 s hs)
   exact T3.ok_iff.2 (by simp only[T3.sft];omega)
def jtK (a b:Mesh) (k:Nat):List T3:=a.tris++(b.tris.take k).map (T3.sft a.verts.length)
theorem jtK_len {a b:Mesh} {k:Nat} (h:k<=b.tris.length):(jtK a b k).length=a.tris.length+k:=by simp[jtK];omega
theorem Qkx {a b:Mesh} {k:Nat} {t:T3} (h:b.tris[k]?=some t):jtK a b (k+1)=jtK a b k++[t.sft a.verts.length]:=by
 unfold jtK;rw[Qg h,qx,<- j2];rfl
section
variable {P:Program} (hm:P.follows .mixedOrders=true)
include hm
omit hm in
theorem Qf0 (e:Int):Le (.t [.a [.nil,.nil],.i .i64 e]) (.t [noMesh.enc,.i .i64 e]) :=
 .inr ⟨_,_,rfl,rfl,.inr ⟨_,_,rfl,rfl,Le0.nil 3,Le0.nil 3,trivial⟩,Le1.refl _,trivial⟩
end
def Q5a (P:Program) (f:FuncId):Prop:=∀l:List V3,l.length<=1000000->CallIs P f [vsV l] (.t [(bLo l).enc,(bHi l).enc,.b (decide (l≠[]))])
def Qnk (P:Program) (f:FuncId):Prop:=∀m:Mesh,m.check=0->CallIs P f [m.enc] (.t [(bLo m.verts).enc,(bHi m.verts).enc,.b (decide (m.verts≠[]))])
end Go.Abs
