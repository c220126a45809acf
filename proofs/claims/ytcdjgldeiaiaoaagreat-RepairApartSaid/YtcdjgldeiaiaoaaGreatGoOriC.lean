/- Part of the library on which the proof stands: an abstract machine, its values and its soundness against the model; or what functions of the program do to such values. -/
import Derived.Test.YtcdjgldeiaiaoaaGreatGoRevC
import Derived.Test.YtcdjgldeiaiaoaaGreatGoOv
import Derived.Test.YtcdjgldeiaiaoaaGreatGoLp
import Derived.Test.YtcdjgldeiaiaoaaGreatGoTo
set_option linter.unusedVariables false
set_option linter.unusedSimpArgs false
namespace Go.Abs
def crs (b c:V3):V3:=⟨b.y*c.z-b.z*c.y,b.z*c.x-b.x*c.z,b.x*c.y-b.y*c.x⟩
def Ie (a b:V3):Int:=a.x*b.x+a.y*b.y+a.z*b.z
def Ig (a b c:V3):Int:=Ie a (crs b c)
def vAt (vs:List V3) (i:Int):V3:=(vs[i.toNat]?).getD ⟨0,0,0⟩
def Q05 (vs:List V3) (t:T3):Int:=Ig (vAt vs t.a) (vAt vs t.b) (vAt vs t.c)
def Za (vs:List V3) (ts:List T3):Int:=(ts.map (Q05 vs)).sum
def Mesh.vol6 (m:Mesh):Int:=if m.check=0 then Za m.verts m.tris else 0
def Qdz (P:Program) (f:FuncId):Prop:=∀m:Mesh,CallIs P f [m.enc] (.i .i64 m.vol6)
def Qio (P:Program) (f:FuncId):Prop:=∀a b c:V3,a.valid=true->b.valid=true->c.valid=true->CallIs P f [a.enc,b.enc,c.enc] (.i .i64 (Ig a b c))
theorem Qht (a b c:V3):Ig a c b=- Ig a b c:=by
 unfold Ig Ie crs
 grind
theorem Qiu (vs:List V3) (t:T3):Q05 vs t.rev=- Q05 vs t:=Qht _ _ _
theorem Ik (vs:List V3):Za vs []=0:=rfl
theorem X5 (vs:List V3) (t:T3) (ts:List T3):Za vs (t::ts)=Q05 vs t+Za vs ts:=by simp[Za]
theorem Q9i (vs:List V3) (a b:List T3):Za vs (a++b)=Za vs a+Za vs b:=by
 induction a with
 | nil=>simp[Ik]
 | cons t a ih=>rw[List.cons_append,X5,X5,ih];omega
theorem Qix (vs:List V3) (ts:List T3):Za vs (ts.map T3.rev)=- Za vs ts:=by
 induction ts with
 | nil=>rfl
 | cons t ts ih=>rw[List.map_cons,X5,X5,ih,Qiu];omega
theorem Qct {x y A B:Int} (h1:-A<=x) (h2:x<=A) (h3:-B<=y) (h4:y<=B):-(A*B)<=x*y/\x*y<=A*B:=by
 have hA:0<=A:=by omega
 have hB:0<=B:=by omega
 have a1:=Int.mul_nonneg (a:=A-x) (b:=B-y) (by omega) (by omega)
 have a2:=Int.mul_nonneg (a:=A+x) (b:=B+y) (by omega) (by omega)
 have a3:=Int.mul_nonneg (a:=A-x) (b:=B+y) (by omega) (by omega)
 have a4:=Int.mul_nonneg (a:=A+x) (b:=B-y) (by omega) (by omega)
 simp only[Int.mul_add,Int.add_mul,Int.mul_sub,Int.sub_mul]at a1 a2 a3 a4
 omega
theorem Wg {x y:Int} (h1:-65536<=x) (h2:x<=65536) (h3:-65536<=y) (h4:y<=65536):-4294967296<=x*y/\x*y<=4294967296:=Qct (A:=65536) (B:=65536) h1 h2 h3 h4
theorem crs_b {b c:V3} (hb:b.valid=true) (hc:c.valid=true):-8589934592<=(crs b c).x/\(crs b c).x<=8589934592/\-8589934592<=(crs b c).y/\(crs b c).y<=8589934592/\-8589934592<=(crs b c).z/\(crs b c).z<=8589934592:=by
 obtain⟨b1,b2,b3,b4,b5,b6⟩:=V3.valid_iff.1 hb
 obtain⟨c1,c2,c3,c4,c5,c6⟩:=V3.valid_iff.1 hc
 have m1:=Wg b3 b4 c5 c6
 have m2:=Wg b5 b6 c3 c4
 have m3:=Wg b5 b6 c1 c2
 have m4:=Wg b1 b2 c5 c6
 have m5:=Wg b1 b2 c3 c4
 have m6:=Wg b3 b4 c1 c2
 unfold crs
 refine⟨?_,?_,?_,?_,?_,?_⟩<;>simp only<;>omega
theorem det3_b {a b c:V3} (ha:a.valid=true) (hb:b.valid=true) (hc:c.valid=true):-1688849860263936<=Ig a b c/\Ig a b c<=1688849860263936:=by
 obtain⟨b1,b2,b3,b4,b5,b6⟩:=V3.valid_iff.1 ha
 obtain⟨c1,c2,c3,c4,c5,c6⟩:=crs_b hb hc
 have m1:=Qct b1 b2 c1 c2
 have m2:=Qct b3 b4 c3 c4
 have m3:=Qct b5 b6 c5 c6
 unfold Ig Ie
 omega
theorem Io {vs:List V3} {i:Int} (h0:0<=i) (h:i<vs.length):vs[i.toNat]?=some (vAt vs i):=by
 unfold vAt;rw[q9 (by omega)];rfl
theorem Je {vs:List V3} (hv:Yb vs=true) {i:Int} (h0:0<=i) (h:i<vs.length):(vAt vs i).valid=true:=Ij hv (Io h0 h)
theorem Qiw {vs:List V3} (hv:Yb vs=true) {t:T3} (ht:t.ok vs.length=true):-1688849860263936<=Q05 vs t/\Q05 vs t<=1688849860263936:=by
 obtain⟨a1,a2,b1,b2,c1,c2⟩:=T3.ok_iff.1 ht
 exact det3_b (Je hv a1 a2) (Je hv b1 b2) (Je hv c1 c2)
theorem Qbw {vs:List V3} (hv:Yb vs=true):∀{ts:List T3},Jl vs.length ts=true->-1688849860263936*(ts.length:Int)<=Za vs ts/\Za vs ts<=1688849860263936*(ts.length:Int)
 | [],_=>by simp[Ik]
 | t::ts,h=>by
   have h':t.ok vs.length=true/\Jl vs.length ts=true:=by simpa[Jl]using h
   have h1:=Qiw hv h'.1
   have h2:=Qbw hv h'.2
   rw[X5,List.length_cons]
   omega
def Qj (ts:List T3) (sh:List Int):List T3:=sh.map λv=>tAt ts v.toNat
def flp (ts:List T3) (F:List Int):List T3:=(List.range ts.length).map λ(i:Nat)=>if (i:Int)∈F then (tAt ts i).rev else tAt ts i
theorem Zf (ts:List T3) (F:List Int):(flp ts F).length=ts.length:=by simp[flp]
theorem Um {ts:List T3} {F:List Int} {i:Nat} (h:i<ts.length):(flp ts F)[i]?=some (if (i:Int)∈F then (tAt ts i).rev else tAt ts i):=by
 unfold flp
 rw[qq,jg h];rfl
theorem Jx {ts:List T3} {F:List Int} {i:Nat} (h:i<ts.length):tAt (flp ts F) i=if (i:Int)∈F then (tAt ts i).rev else tAt ts i:=by
 have:=Um (F:=F) h
 unfold tAt at this ⊢
 rw[this];rfl
theorem Qf7 (ts:List T3):flp ts []=ts:=by
 apply qy
 intro i
 by_cases h:i<ts.length
 ·rw[Um h,Qk h];simp
 ·rw[qk (by rw[Zf];omega),qk (by omega)]
theorem flp_set {ts:List T3} {F:List Int} {v:Nat} (hv:v<ts.length):(flp ts F).set v (tAt ts v).rev=flp ts (F++[(v:Int)]):=by
 apply qy
 intro i
 by_cases h:i<ts.length
 ·rw[Um h]
  by_cases hi:v=i
  ·subst hi
   rw[qn (by rw[Zf];exact hv)]
   simp
  ·rw[qu hi,Um h]
   have:((i:Int)∈F++[(v:Int)])↔(i:Int)∈F:=by
    rw[qg,qo]
    constructor
    ·rintro (h | h)
     ·exact h
     ·omega
    ·exact .inl
   simp only[this]
 ·rw[qk (by rw[List.length_set,Zf];omega),qk (by rw[Zf];omega)]
theorem Qdc (ts:List T3) (F:List Int):Fl ts (flp ts F) where
 len:=Zf ts F
 at_ i t u h1 h2:=by
  have hi:=(q8.1 h1).1
  rw[Um hi]at h2
  rw[Qk hi]at h1
  obtain rfl:=Option.some.inj h1
  have h2:=Option.some.inj h2
  split at h2
  ·exact .inr h2.symm
  ·exact .inl h2.symm
def Zz (vs:List V3) (ts:List T3) (shs:List (List Int)):List (List Int):=shs.filter λsh=>decide (Za vs (Qj ts sh)<0)
theorem Qa7 (vs:List V3) (ts:List T3) (shs:List (List Int)) (sh:List Int):Zz vs ts (shs++[sh])=Zz vs ts shs++if Za vs (Qj ts sh)<0 then [sh] else []:=by
 unfold Zz
 rw[List.filter_append]
 by_cases h:Za vs (Qj ts sh)<0<;>simp[h]
theorem Qcr (vs:List V3) (ts:List T3) (shs:List (List Int)):(Zz vs ts shs).length<=shs.length:=j8 _ _
noncomputable def Mesh.negs (m:Mesh):List (List Int):=Zz m.verts m.tris m.shells
noncomputable def Mesh.outw (m:Mesh):Mesh:=⟨m.verts,flp m.tris m.negs.flatten⟩
def Q5u (p:Mesh × Int × Int):V:=.t [p.1.enc,.i .i64 p.2.1,.i .i64 p.2.2]
noncomputable def Zm (m:Mesh):Mesh × Int × Int :=
 if m.check≠0 then (⟨[],[]⟩,0,m.check) else if m.closed=false then (⟨[],[]⟩,0,12) else if cohB m.tris=false then (⟨[],[]⟩,0,13) else (m.outw,m.negs.length,0)
def Q56 (P:Program) (f:FuncId):Prop:=∀m:Mesh,CallIs P f [m.enc] (Q5u (Zm m))
theorem Bf (e:Int):Le (.t [.a [.nil,.nil],.i .i64 0,.i .i64 e]) (Q5u (⟨[],[]⟩,0,e)) :=
 .inr ⟨_,_,rfl,rfl,.inr ⟨_,_,rfl,rfl,Le0.nil 3,Le0.nil 3,trivial⟩,Le1.refl _,Le1.refl _,trivial⟩
structure ShOk (n:Nat) (shs:List (List Int)):Prop where
 num:shs.length<=n
 len:∀sh∈shs,sh.length<=n
 mem:∀sh∈shs,∀v∈sh,0<=v/\v<n
 nodup:shs.flatten.Nodup
theorem Kw (L:List Int) (i k:Nat):(shK L i k).Nodup:=by
 have hsh:(shK L i k).Pairwise λa b=>a<b:=by
  unfold shK
  rw[je]
  have h1:(List.range k).Pairwise (λa b:Nat=>a<b):=List.pairwise_lt_range
  exact(h1.filter _).imp λ{a b:Nat} (h:a<b)=>by show (a:Int)<(b:Int);omega
 exact hsh.imp λh=>by omega
theorem mem_shK2 {L:List Int} {i k:Nat} {v:Int}:v∈shK L i k↔∃j:Nat,v=(j:Int)/\j<k/\L[j]?=some (i:Int):=by
 unfold shK
 rw[qp]
 constructor
 ·rintro⟨j,hj,rfl⟩
  have hf:=qv.1 hj
  exact⟨j,rfl,qz.1 hf.1,by simpa using hf.2⟩
 ·rintro⟨j,rfl,h1,h2⟩
  exact⟨j,qv.2 ⟨qz.2 h1,by simpa using h2⟩,rfl⟩
theorem shsK_mem {L:List Int} {k:Nat} {sh:List Int}:sh∈Y1 L k↔∃i:Nat,i<k/\L[i]?=some (i:Int)/\sh=shK L i L.length:=by
 unfold Y1
 rw[qp]
 constructor
 ·rintro⟨i,hi,rfl⟩
  have hf:=qv.1 hi
  exact⟨i,qz.1 hf.1,by simpa using hf.2,rfl⟩
 ·rintro⟨i,h1,h2,rfl⟩
  exact⟨i,qv.2 ⟨qz.2 h1,by simpa using h2⟩,rfl⟩
theorem Qc7 (L:List Int) (k:Nat):(Y1 L k).flatten.Nodup:=by
 induction k with
 | zero=>simp[Y1]
 | succ k ih =>
   rw[Q6b]
   split
   ·rw[List.flatten_append,List.nodup_append]
    refine⟨ih,by simpa using Kw L k L.length,λa ha b hb=>?_⟩
    simp at hb
    obtain⟨sh,hs,has⟩:=List.mem_flatten.1 ha
    obtain⟨i,hi,_,rfl⟩:=shsK_mem.1 hs
    obtain⟨j,rfl,_,hj⟩:=mem_shK2.1 has
    rintro rfl
    obtain⟨j',hjj,_,hj'⟩:=mem_shK2.1 hb
    obtain rfl:j=j':=by omega
    rw[hj]at hj'
    have:=Option.some.inj hj'
    omega
   ·simpa using ih
theorem Jf {m:Mesh} (hz:m.check=0):ShOk m.tris.length m.shells:=by
 obtain⟨L,hL⟩:=Yq m.tris
 have hR:m.shells=Y1 L m.tris.length:=by unfold Mesh.shells;rw[if_pos hz,Zj hL,hL.len]
 rw[hR]
 refine⟨?_,λsh hs=>?_,λsh hs v hv=>?_,Qc7 _ _⟩
 ·unfold Y1
  rw[List.length_map]
  have:=j8 (λ(i:Nat)=>decide (L[i]?=some (i:Int))) (List.range m.tris.length)
  rwa [List.length_range]at this
 ·obtain⟨i,_,_,rfl⟩:=shsK_mem.1 hs
  unfold shK
  rw[List.length_map]
  have:=j8 (λ(j:Nat)=>decide (L[j]?=some (i:Int))) (List.range L.length)
  rw[List.length_range,hL.len]at this
  rw[hL.len]
  omega
 ·obtain⟨i,_,_,rfl⟩:=shsK_mem.1 hs
  obtain⟨j,rfl,h1,_⟩:=mem_shK2.1 hv
  rw[hL.len]at h1
  omega
theorem Qc0 {n:Nat} {ts:List T3} (h:Jl n ts=true) {i:Nat} (hi:i<ts.length):(tAt ts i).ok n=true:=Q2t h (Qk hi)
theorem Ek {m:Mesh} (hz:m.check=0) {sh:List Int} (hl:sh.length<=m.tris.length) (hv:∀v∈sh,0<=v/\v<m.tris.length):(Mesh.mk m.verts (Qj m.tris sh)).check=0:=by
 obtain⟨z1,z2,z3,z4⟩:=Mesh.check_zero.1 hz
 refine Mesh.check_zero.2 ⟨z1,by simp[Qj];omega,z3,?_⟩
 simp only[Jl,qj,Qj,qp]
 rintro t ⟨v,hvs,rfl⟩
 have:=hv v hvs
 exact Qc0 z4 (by omega)
theorem T3.rev_ok {n:Nat} {t:T3} (h:t.ok n=true):t.rev.ok n=true:=by
 obtain⟨a1,a2,b1,b2,c1,c2⟩:=T3.ok_iff.1 h
 exact T3.ok_iff.2 ⟨a1,a2,c1,c2,b1,b2⟩
theorem Q0y {m:Mesh} (hz:m.check=0) (F:List Int):(Mesh.mk m.verts (flp m.tris F)).check=0:=by
 obtain⟨z1,z2,z3,z4⟩:=Mesh.check_zero.1 hz
 refine Mesh.check_zero.2 ⟨z1,by rw[Zf];exact z2,z3,?_⟩
 simp only[Jl,qj]
 intro t ht
 obtain⟨i,hi⟩:=qr ht
 have hil:=(q8.1 hi).1
 rw[Zf]at hil
 rw[Um hil]at hi
 obtain rfl:=Option.some.inj hi
 have:=Qc0 z4 hil
 split
 ·exact T3.rev_ok this
 ·exact this
theorem Q2b {a b:P2} (h:a.und=b.und):a=b∨a=b.rev:=by
 cases a;cases b
 simp only[P2.und,P2.rev,P2.mk.injEq]at h ⊢
 omega
theorem Q61 (t:T3):(Q5 t).Nodup:=by
 have h0:Q5 t=(Y5 t).filter λe=>decide (e.x≠e.y):=rfl
 rw[h0,List.nodup_iff_pairwise_ne,List.pairwise_filter]
 unfold Y5
 simp only[j9,List.mem_cons,List.not_mem_nil,or_false,decide_eq_true_eq,ne_eq,false_implies,implies_true,List.Pairwise.nil,and_true,P2.mk.injEq]
 refine⟨λx hx h1 h2=>?_,λx hx h1 h2=>?_⟩
 ·rcases hx with rfl | rfl
  ·simp only[P2.mk.injEq];simp only at h1 h2;omega
  ·simp only[P2.mk.injEq];simp only at h1 h2;omega
 ·subst hx
  simp only[P2.mk.injEq];simp only at h1 h2;omega
def Coh (ts:List T3):Prop:=∀(i j:Nat) (e:P2),i<ts.length->j<ts.length->e∈Q5 (tAt ts i)->e∈Q5 (tAt ts j)->i=j
theorem Q0a {ts:List T3} {i:Nat} (h:i<ts.length):ts[i]=tAt ts i:=by
 have:=Qk h
 rw[q9 h]at this
 exact Option.some.inj this
theorem coh_iff {ts:List T3}:(Q8 ts).Nodup↔Coh ts:=by
 have h0:(Q8 ts).Nodup↔(∀t∈ts,(Q5 t).Nodup)/\ts.Pairwise λs t=>∀x∈Q5 s,∀y∈Q5 t,x≠y:=List.pairwise_flatMap
 rw[h0,j4]
 constructor
 ·rintro⟨_,h⟩ i j e hi hj h1 h2
  rcases Nat.lt_trichotomy i j with hh | hh | hh
  ·exact absurd rfl (h i j hi hj hh e (by rw[Q0a hi];exact h1) e (by rw[Q0a hj];exact h2))
  ·exact hh
  ·exact absurd rfl (h j i hj hi hh e (by rw[Q0a hj];exact h2) e (by rw[Q0a hi];exact h1))
 ·intro h
  refine⟨λt _=>Q61 t,λi j hi hj hij x hx y hy=>?_⟩
  rintro rfl
  rw[Q0a hi]at hx
  rw[Q0a hj]at hy
  have:=h i j x hi hj hx hy
  omega
theorem cohB_iff {ts:List T3}:cohB ts=true↔Coh ts:=by unfold cohB;rw[decide_eq_true_eq];exact coh_iff
theorem Fl.tat {ts us:List T3} (h:Fl ts us) {i:Nat} (hi:i<ts.length):tAt us i=tAt ts i∨tAt us i=(tAt ts i).rev :=
 h.at_ i _ _ (Qk hi) (Qk (by rw[h.len];exact hi))
theorem Qej {us vs:List T3} (hl:us.length=vs.length) (h:∀i,i<us.length->tAt us i=tAt vs i):us=vs:=by
 apply qy
 intro i
 by_cases hi:i<us.length
 ·rw[Qk hi,Qk (by omega),h i hi]
 ·rw[qk (by omega),qk (by omega)]
theorem Uc {ts:List T3} {i j:Nat} (h:adjI ts i j):i<ts.length/\j<ts.length/\∃a∈Q5 (tAt ts i),∃b∈Q5 (tAt ts j),a.und=b.und:=by
 have hl:=h.lt
 obtain⟨s,t,hs,ht,a,ha,b,hb,hab⟩:=h
 rw[Qk hl.1]at hs
 rw[Qk hl.2]at ht
 obtain rfl:=Option.some.inj hs
 obtain rfl:=Option.some.inj ht
 exact⟨hl.1,hl.2,a,ha,b,hb,hab⟩
theorem K1 {ts:List T3} {i j:Nat} (hi:i<ts.length) (hj:j<ts.length) {a b:P2} (ha:a∈Q5 (tAt ts i)) (hb:b∈Q5 (tAt ts j)) (h:a.und=b.und):adjI ts i j :=
 ⟨_,_,Qk hi,Qk hj,a,ha,b,hb,h⟩
structure Good (ts us:List T3) (L:List Int):Prop where
 fl:Fl ts us
 coh:Coh us
 first:∀i:Nat,i<ts.length->L[i]?=some (i:Int)->tAt us i=tAt ts i
theorem Good.step {ts us vs:List T3} {L:List Int} (h:Good ts us L) (k:Good ts vs L) {i j:Nat} (ha:adjI ts i j) (he:tAt us i=tAt vs i):tAt us j=tAt vs j:=by
 obtain⟨hi,hj,a,haa,b,hbb,hab⟩:=Uc (h.fl.adj ha)
 rw[h.fl.len]at hi hj
 by_cases hij:i=j
 ·subst hij;exact he
 refine j7 λhne=>?_
 have hrev:tAt vs j=(tAt us j).rev:=by
  rcases h.fl.tat hj with h1 | h1<;>rcases k.fl.tat hj with h2 | h2
  ·exact absurd (h1.trans h2.symm) hne
  ·rw[h1,h2]
  ·rw[h1,h2];rfl
  ·exact absurd (h1.trans h2.symm) hne
 rcases Q2b hab with rfl | hab
 ·exact hij (h.coh i j a (by rw[h.fl.len];exact hi) (by rw[h.fl.len];exact hj) haa hbb)
 ·refine hij (k.coh i j a (by rw[k.fl.len];exact hi) (by rw[k.fl.len];exact hj) (by rw[<- he];exact haa) ?_)
  rw[hrev,mem_edges_rev,hab,Q7g]
  exact hbb
theorem Good.eq {ts us vs:List T3} {L:List Int} (hL:IsLab ts L) (h:Good ts us L) (k:Good ts vs L):us=vs:=by
 refine Qej (by rw[h.fl.len,k.fl.len]) λj hj=>?_
 rw[h.fl.len]at hj
 have hv:L[j]?=some (L[j]'(by rw[hL.len];exact hj)):=q9 _
 generalize L[j]'(by rw[hL.len];exact hj)=v at hv
 obtain⟨v0,v1,hc⟩:=hL.con j v hv
 have hvv:=hL.conn hc
 rw[hv]at hvv
 have hc':=hc.symm
 have hvl:=hc'.lt.1
 have hLv:L[v.toNat]?=some (v.toNat:Int):=by rw[<- hvv];congr 1;omega
 have h0:tAt us v.toNat=tAt vs v.toNat:=by rw[h.first _ hvl hLv,k.first _ hvl hLv]
 clear hv hvv hc hj v1
 induction hc' with
 | refl _=>exact h0
 | tail _ h2 ih=>exact h.step k h2 ih
open Classical in
noncomputable def Z9 (ts:List T3):Option (List T3):=if h:∃us,Good ts us (labOf ts) then some (Classical.choose h) else none
theorem Ja {ts us:List T3} {L:List Int} (hL:IsLab ts L) (h:Good ts us L):Z9 ts=some us:=by
 unfold Z9
 rw[Zj hL]
 have hex:∃us,Good ts us L:=⟨us,h⟩
 rw[dif_pos hex]
 congr 1
 exact(Classical.choose_spec hex).eq hL h
theorem B6 {ts:List T3} {L:List Int} (hL:IsLab ts L) (h:∀us,¬ Good ts us L):Z9 ts=none:=by
 unfold Z9
 rw[Zj hL,dif_neg]
 rintro⟨us,hu⟩
 exact h us hu
theorem Ky {ts us:List T3} {L:List Int} (hL:IsLab ts L) (h:Z9 ts=some us):Good ts us L:=by
 unfold Z9 at h
 rw[Zj hL]at h
 split at h
 ·rename_i hex
  obtain rfl:=Option.some.inj h
  exact Classical.choose_spec hex
 ·simp at h
def Q4u (ts us:List T3):Nat:=((List.range ts.length).filter λi=>decide (tAt us i≠tAt ts i)).length
noncomputable def Zr (m:Mesh):Mesh × Int × Int :=
 if m.check≠0 then (⟨[],[]⟩,0,m.check) else match Z9 m.tris with
 | none=>(⟨[],[]⟩,0,13)
 | some us=>(⟨m.verts,us⟩,Q4u m.tris us,0)
def Q96 (P:Program) (f:FuncId):Prop:=∀m:Mesh,CallIs P f [m.enc] (Q5u (Zr m))
theorem Uh {us:List T3} {j:Nat} (hj:j<us.length) (i:Nat) (t:T3):tAt (us.set j t) i=if i=j then t else tAt us i:=by
 unfold tAt
 by_cases h:i=j
 ·subst h;rw[qn hj,if_pos rfl];rfl
 ·rw[qu (λhh=>h hh.symm),if_neg h]
theorem Fl.set {ts us:List T3} (h:Fl ts us) {j:Nat} (hj:j<ts.length):Fl ts (us.set j (tAt us j).rev) where
 len:=by rw[List.length_set,h.len]
 at_ i t u h1 h2:=by
  have hi:=(q8.1 h1).1
  have hju:j<us.length:=by rw[h.len];exact hj
  rw[Qk (by rw[List.length_set,h.len];exact hi)]at h2
  rw[Qk hi]at h1
  obtain rfl:=Option.some.inj h1
  obtain rfl:=Option.some.inj h2
  rw[Uh hju]
  split
  ·rename_i hh;subst hh
   rcases h.tat hj with h3 | h3
   ·exact .inr (by rw[h3])
   ·exact .inl (by rw[h3];rfl)
  ·exact h.tat hi
theorem Fl.refl (ts:List T3):Fl ts ts:=⟨rfl,λi t u h1 h2=>.inl (by rw[h1]at h2;exact(Option.some.inj h2).symm)⟩
theorem Q6s (ts:List T3):Q4u ts ts=0:=by unfold Q4u;simp
theorem Qdi {n j:Nat} (hj:j<n) {p q:Nat->Bool} (hq:∀i,i<n->q i=(if i=j then true else p i)) (hp:p j=false):((List.range n).filter q).length=((List.range n).filter p).length+1:=by
 induction n with
 | zero=>omega
 | succ n ih =>
   rw[List.range_succ,List.filter_append,List.filter_append,j3,j3]
   by_cases h:j=n
   ·subst h
    have h1:(List.range j).filter q=(List.range j).filter p:=by
     refine List.filter_congr λi hi=>?_
     have:=qz.1 hi
     rw[hq i (by omega),if_neg (by omega)]
    rw[h1]
    have h2:=hq j (by omega)
    rw[if_pos rfl]at h2
    simp[h2,hp]
   ·have h1:=ih (by omega) λi hi=>hq i (by omega)
    have h2:=hq n (by omega)
    rw[if_neg (λhh=>h hh.symm)]at h2
    rw[h1]
    by_cases h3:p n=true<;>simp[h2,h3]<;>omega
theorem Qmc {ts us:List T3} (hl:us.length=ts.length) {j:Nat} (hj:j<ts.length) (he:tAt us j=tAt ts j) {t:T3} (hne:t≠tAt ts j):Q4u ts (us.set j t)=Q4u ts us+1:=by
 unfold Q4u
 refine Qdi hj (λi hi=>?_) (by simp[he])
 rw[Uh (by rw[hl];exact hj)]
 by_cases h:i=j
 ·subst h;simp[hne]
 ·simp[h]
structure OrI (ts us:List T3) (L X:List Int) (n:Nat):Prop where
 fl:Fl ts us
 new:∀i:Nat,i<ts.length->(i:Int)∉X->tAt us i=tAt ts i
 first:∀i:Nat,i<ts.length->L[i]?=some (i:Int)->tAt us i=tAt ts i
 num:n<=X.length
 good:∀vs,Good ts vs L->(∀i:Nat,i<ts.length->(i:Int)∈X->tAt us i=tAt vs i)/\n=Q4u ts us
theorem OrI.start (ts:List T3) (L:List Int):OrI ts ts L [] 0 :=
 ⟨Fl.refl ts,λ_ _ _=>rfl,λ_ _ _=>rfl,Nat.zero_le _,λvs h=>⟨by simp,by rw[Q6s]⟩⟩
theorem mem_snoc {X:List Int} {k i:Int}:i∈X++[k]↔i∈X∨i=k:=by simp
theorem OrI.top {ts us:List T3} {L X:List Int} {n:Nat} (h:OrI ts us L X n) {k:Nat} (hk:k<ts.length) (hx:(k:Int)∉X) (hL:L[k]?=some (k:Int)):OrI ts us L (X++[(k:Int)]) n where
 fl:=h.fl
 new i hi hn:=h.new i hi λhh=>hn (mem_snoc.2 (.inl hh))
 first:=h.first
 num:=by have:=h.num;simp;omega
 good vs hv:=by
  obtain⟨h1,h2⟩:=h.good vs hv
  refine⟨λi hi hm=>?_,h2⟩
  rcases mem_snoc.1 hm with hm | hm
  ·exact h1 i hi hm
  ·obtain rfl:i=k:=by omega
   rw[h.first i hi hL,hv.first i hi hL]
theorem OrI.keep {ts us:List T3} {L X:List Int} {n:Nat} (h:OrI ts us L X n) {i k:Nat} (hi:i<ts.length) (hk:k<ts.length) (hix:(i:Int)∈X) (hx:(k:Int)∉X) {e:P2} (he:e∈Q5 (tAt us i)) (hno:e∉Q5 (tAt us k))
  {b:P2} (hb:b∈Q5 (tAt ts k)) (hbe:b.und=e.und):OrI ts us L (X++[(k:Int)]) n where
 fl:=h.fl
 new i hi hn:=h.new i hi λhh=>hn (mem_snoc.2 (.inl hh))
 first:=h.first
 num:=by have:=h.num;simp;omega
 good vs hv:=by
  obtain⟨h1,h2⟩:=h.good vs hv
  refine⟨λj hj hm=>?_,h2⟩
  rcases mem_snoc.1 hm with hm | hm
  ·exact h1 j hj hm
  ·obtain rfl:j=k:=by omega
   have huk:=h.new j hj hx
   rw[huk]at hno ⊢
   rcases hv.fl.tat hj with h3 | h3
   ·exact h3.symm
   ·exfalso
    rcases Q2b hbe with rfl | rfl
    ·exact hno hb
    ·have hij:=hv.coh i j e (by rw[hv.fl.len];exact hi) (by rw[hv.fl.len];exact hj) (by rw[<- h1 i hi hix];exact he) (by rw[h3,mem_edges_rev];exact hb)
     subst hij
     exact hx hix
theorem OrI.turn {ts us:List T3} {L X:List Int} {n:Nat} (h:OrI ts us L X n) {i k:Nat} (hi:i<ts.length) (hk:k<ts.length) (hix:(i:Int)∈X) (hx:(k:Int)∉X) (hL:L[k]? ≠ some (k:Int)) {e:P2} (he:e∈Q5 (tAt us i)) (hye:e∈Q5 (tAt us k)) :
  OrI ts (us.set k (tAt us k).rev) L (X++[(k:Int)]) (n+1) where
 fl:=h.fl.set hk
 new j hj hn:=by
  rw[Uh (by rw[h.fl.len];exact hk),if_neg (λhh=>hn (mem_snoc.2 (.inr (by omega))))]
  exact h.new j hj λhh=>hn (mem_snoc.2 (.inl hh))
 first j hj hLj:=by
  rw[Uh (by rw[h.fl.len];exact hk),if_neg (by rintro rfl;exact hL hLj)]
  exact h.first j hj hLj
 num:=by have:=h.num;simp;omega
 good vs hv:=by
  obtain⟨h1,h2⟩:=h.good vs hv
  have huk:=h.new k hk hx
  have hvk:tAt vs k=(tAt us k).rev:=by
   rw[huk]at hye ⊢
   rcases hv.fl.tat hk with h3 | h3
   ·exfalso
    have hij:=hv.coh i k e (by rw[hv.fl.len];exact hi) (by rw[hv.fl.len];exact hk) (by rw[<- h1 i hi hix];exact he) (by rw[h3];exact hye)
    subst hij
    exact hx hix
   ·exact h3
  refine⟨λj hj hm=>?_,?_⟩
  ·rw[Uh (by rw[h.fl.len];exact hk)]
   split
   ·rename_i hh;subst hh;exact hvk.symm
   ·rename_i hh
    rcases mem_snoc.1 hm with hm | hm
    ·exact h1 j hj hm
    ·omega
  ·rw[Qmc h.fl.len hk huk,h2]
   intro hh
   have hij:=hv.coh i k e (by rw[hv.fl.len];exact hi) (by rw[hv.fl.len];exact hk) (by rw[<- h1 i hi hix];exact he) (by rw[hvk,hh,<- huk];exact hye)
   subst hij
   exact hx hix
theorem OrI.done {ts us:List T3} {L X:List Int} {n:Nat} (hL:IsLab ts L) (h:OrI ts us L X n) (hall:∀i:Nat,i<ts.length->(i:Int)∈X) :
  (Coh us->Z9 ts=some us/\n=Q4u ts us)/\(¬ Coh us->Z9 ts=none):=by
 constructor
 ·intro hc
  have hg:Good ts us L:=⟨h.fl,hc,h.first⟩
  exact⟨Ja hL hg,(h.good us hg).2⟩
 ·intro hc
  refine B6 hL λvs hv=>hc ?_
  obtain⟨h1,_⟩:=h.good vs hv
  have:us=vs:=Qej (by rw[h.fl.len,hv.fl.len]) λi hi=>by
   rw[h.fl.len]at hi
   exact h1 i hi (hall i hi)
  rw[this]
  exact hv.coh
theorem mem_all {ts:List T3} {e:P2}:e∈Q8 ts↔∃i:Nat,i<ts.length/\e∈Q5 (tAt ts i):=by
 unfold Q8
 rw[jk]
 constructor
 ·rintro⟨t,ht,he⟩
  obtain⟨i,hi⟩:=qr ht
  have hl:=(q8.1 hi).1
  rw[Qk hl]at hi
  obtain rfl:=Option.some.inj hi
  exact⟨i,hl,he⟩
 ·rintro⟨i,hl,he⟩
  exact⟨_,qb (Qk hl),he⟩
def Clo (ts:List T3):Prop:=∀e∈Q8 ts,e.rev∈Q8 ts
theorem W7 {m:Mesh} (h:m.closed=true):m.check=0/\Clo m.tris:=by
 unfold Mesh.closed at h
 simp only[Bool.and_eq_true,decide_eq_true_eq]at h
 obtain⟨hz,hb⟩:=h
 refine⟨hz,λe he=>?_⟩
 have hne:¬ e∈m.border:=by rw[hb];simp
 rw[mem_border]at hne
 have h1:¬ m.use e.rev<m.use e:=λhh=>hne ⟨hz,he,hh⟩
 unfold Mesh.use at h1
 rw[if_pos hz,if_pos hz]at h1
 have h2:0<(Q8 m.tris).count e:=List.count_pos_iff.2 he
 exact List.count_pos_iff.1 (by omega)
theorem Q4y {m:Mesh} (hz:m.check=0) (hc:Coh m.tris) (h:Clo m.tris):m.closed=true:=by
 unfold Mesh.closed
 simp only[Bool.and_eq_true,decide_eq_true_eq]
 refine⟨hz,?_⟩
 rw[List.eq_nil_iff_forall_not_mem]
 intro e he
 rw[mem_border]at he
 obtain⟨_,h1,h2⟩:=he
 unfold Mesh.use at h2
 rw[if_pos hz,if_pos hz]at h2
 have h3:=List.nodup_iff_count.1 (coh_iff.2 hc) e
 have h4:0<(Q8 m.tris).count e.rev:=List.count_pos_iff.2 (h e h1)
 omega
def Whole (ts:List T3) (F:List Int):Prop:=∀i j:Nat,adjI ts i j->((i:Int)∈F↔(j:Int)∈F)
theorem flp_coh {ts:List T3} {F:List Int} (hw:Whole ts F) (h:Coh ts):Coh (flp ts F):=by
 intro i j e hi hj h1 h2
 rw[Zf]at hi hj
 have ha:adjI ts i j:=(Qdc ts F).symm.adj (K1 (by rw[Zf];exact hi) (by rw[Zf];exact hj) h1 h2 rfl)
 have hij:=hw i j ha
 rw[Jx hi]at h1
 rw[Jx hj]at h2
 by_cases hF:(i:Int)∈F
 ·rw[if_pos hF,mem_edges_rev]at h1
  rw[if_pos (hij.1 hF),mem_edges_rev]at h2
  exact h i j e.rev hi hj h1 h2
 ·rw[if_neg hF]at h1
  rw[if_neg (λhh=>hF (hij.2 hh))]at h2
  exact h i j e hi hj h1 h2
theorem flp_clo {ts:List T3} {F:List Int} (hw:Whole ts F) (h:Clo ts):Clo (flp ts F):=by
 intro e he
 obtain⟨i,hi,h1⟩:=mem_all.1 he
 rw[Zf]at hi
 rw[Jx hi]at h1
 by_cases hF:(i:Int)∈F
 ·rw[if_pos hF,mem_edges_rev]at h1
  obtain⟨j,hj,h2⟩:=mem_all.1 (h _ (mem_all.2 ⟨i,hi,h1⟩))
  rw[Q7g]at h2
  have ha:=K1 hi hj h1 h2 (B1 e)
  refine mem_all.2 ⟨j,by rw[Zf];exact hj,?_⟩
  rw[Jx hj,if_pos ((hw i j ha).1 hF),mem_edges_rev,Q7g]
  exact h2
 ·rw[if_neg hF]at h1
  obtain⟨j,hj,h2⟩:=mem_all.1 (h _ (mem_all.2 ⟨i,hi,h1⟩))
  have ha:=K1 hi hj h1 h2 (B1 e).symm
  refine mem_all.2 ⟨j,by rw[Zf];exact hj,?_⟩
  rw[Jx hj,if_neg (λhh=>hF ((hw i j ha).2 hh))]
  exact h2
theorem Bd {vs:List V3} {ts:List T3} {L:List Int} {n:Nat} {sh:List Int} (hs:sh∈Y1 L n) {v:Int} (hv:v∈sh):v∈(Zz vs ts (Y1 L n)).flatten↔Za vs (Qj ts sh)<0:=by
 obtain⟨i,hi,hLi,rfl⟩:=shsK_mem.1 hs
 obtain⟨j,rfl,hj,hLj⟩:=mem_shK2.1 hv
 rw[List.mem_flatten]
 constructor
 ·rintro⟨sh',h1,h2⟩
  have hf:=qv.1 h1
  obtain⟨i',_,_,he⟩:=shsK_mem.1 hf.1
  have h3:=hf.2
  subst he
  obtain⟨j',hjj,_,hLj'⟩:=mem_shK2.1 h2
  obtain rfl:j=j':=by omega
  rw[hLj]at hLj'
  have:=Option.some.inj hLj'
  obtain rfl:i=i':=by omega
  simpa using h3
 ·intro h
  exact⟨_,qv.2 ⟨hs,by simpa using h⟩,hv⟩
theorem Qcx {ts:List T3} {L:List Int} (hL:IsLab ts L) {i:Nat} (hi:i<ts.length):∃q:Nat,L[i]?=some (q:Int)/\L[q]?=some (q:Int)/\q<=i/\shK L q L.length∈Y1 L ts.length/\(i:Int)∈shK L q L.length:=by
 have hv:L[i]?=some (L[i]'(by rw[hL.len];exact hi)):=q9 _
 generalize L[i]'(by rw[hL.len];exact hi)=v at hv
 obtain⟨v0,v1,hc⟩:=hL.con i v hv
 have hvv:=hL.conn hc
 rw[hv]at hvv
 have hvn:(v.toNat:Int)=v:=Int.toNat_of_nonneg v0
 have h1:L[v.toNat]?=some (v.toNat:Int):=by rw[hvn];exact hvv.symm
 refine⟨v.toNat,by rw[hvn];exact hv,h1,by omega,shsK_mem.2 ⟨v.toNat,hc.lt.2,h1,rfl⟩,mem_shK2.2 ⟨i,rfl,by rw[hL.len];exact hi,by rw[hvn];exact hv⟩⟩
theorem Qcq {vs:List V3} {ts:List T3} {L:List Int} (hL:IsLab ts L):Whole ts (Zz vs ts (Y1 L ts.length)).flatten:=by
 intro i j ha
 have hl:=ha.lt
 obtain⟨q,h1,h2,h3,h4,h5⟩:=Qcx hL hl.1
 have hj:(j:Int)∈shK L q L.length:=mem_shK2.2 ⟨j,rfl,by rw[hL.len];exact hl.2,by rw[<- hL.adj i j ha];exact h1⟩
 rw[Bd h4 h5,Bd h4 hj]
theorem Qk0 {vs:List V3} {ts:List T3} {L:List Int} (hL:IsLab ts L) {sh:List Int} (hs:sh∈Y1 L ts.length) :
  0<=Za vs (Qj (flp ts (Zz vs ts (Y1 L ts.length)).flatten) sh):=by
 have hr:∀v∈sh,0<=v/\v.toNat<ts.length/\(v.toNat:Int)=v:=by
  intro v hv
  obtain⟨i,hi,hLi,rfl⟩:=shsK_mem.1 hs
  obtain⟨j,rfl,hj,hLj⟩:=mem_shK2.1 hv
  rw[hL.len]at hj
  omega
 by_cases hn:Za vs (Qj ts sh)<0
 ·have:Qj (flp ts (Zz vs ts (Y1 L ts.length)).flatten) sh=(Qj ts sh).map T3.rev:=by
   unfold Qj
   rw[List.map_map]
   refine jl λv hv=>?_
   obtain⟨h0,h1,h2⟩:=hr v hv
   rw[Jx h1,h2,if_pos ((Bd hs hv).2 hn)];rfl
  rw[this,Qix]
  omega
 ·have:Qj (flp ts (Zz vs ts (Y1 L ts.length)).flatten) sh=Qj ts sh:=by
   unfold Qj
   refine jl λv hv=>?_
   obtain⟨h0,h1,h2⟩:=hr v hv
   rw[Jx h1,h2,if_neg (λhh=>hn ((Bd hs hv).1 hh))]
  rw[this]
  omega
structure OutOk (x:Mesh):Prop where
 z:x.check=0
 clo:x.closed=true
 coh:cohB x.tris=true
 vol:∀sh∈x.shells,0<=Za x.verts (Qj x.tris sh)
theorem Q7m {m:Mesh} (hz:m.check=0) (hc:m.closed=true) (hh:cohB m.tris=true):OutOk m.outw:=by
 obtain⟨L,hL⟩:=Yq m.tris
 have hR:m.shells=Y1 L m.tris.length:=by unfold Mesh.shells;rw[if_pos hz,Zj hL,hL.len]
 have hz2:m.outw.check=0:=Q0y hz _
 have hR2:m.outw.shells=Y1 L m.tris.length:=by
  unfold Mesh.shells
  rw[if_pos hz2]
  show Y1 (labOf (flp m.tris _)) (labOf (flp m.tris _)).length=_
  rw[(Qdc m.tris _).labOf,Zj hL,hL.len]
 have hneg:m.negs=Zz m.verts m.tris (Y1 L m.tris.length):=by unfold Mesh.negs;rw[hR]
 have hw:Whole m.tris m.negs.flatten:=by rw[hneg];exact Qcq hL
 have hcoh:=flp_coh hw (cohB_iff.1 hh)
 refine⟨hz2,Q4y hz2 hcoh (flp_clo hw (W7 hc).2),cohB_iff.2 hcoh,λsh hs=>?_⟩
 rw[hR2]at hs
 have:=Qk0 (vs:=m.verts) hL hs
 rw[<- hneg]at this
 exact this
theorem Qch {x:Mesh} (h:OutOk x):Zm x=(x,0,0):=by
 have hn:x.negs=[]:=by
  unfold Mesh.negs Zz
  rw[List.filter_eq_nil_iff]
  intro sh hs
  have:=h.vol sh hs
  simp;omega
 unfold Zm Mesh.outw
 rw[if_neg (by simpa using h.z),if_neg (by rw[h.clo];simp),if_neg (by rw[h.coh];simp),hn]
 simp[Qf7]
theorem Qcg (m:Mesh):((Zm m).2.2≠0/\Zm m=(⟨[],[]⟩,0,(Zm m).2.2))∨(Zm m=(m.outw,(m.negs.length:Int),0)/\OutOk m.outw):=by
 unfold Zm
 by_cases hz:m.check=0
 case neg=>rw[if_pos hz];exact .inl ⟨hz,rfl⟩
 rw[if_neg (by simpa using hz)]
 by_cases hc:m.closed=false
 case pos=>rw[if_pos hc];exact .inl ⟨by simp,rfl⟩
 rw[if_neg hc]
 by_cases hh:cohB m.tris=false
 case pos=>rw[if_pos hh];exact .inl ⟨by simp,rfl⟩
 rw[if_neg hh]
 exact .inr ⟨rfl,Q7m hz (by simpa using hc) (by simpa using hh)⟩
theorem Fl.check {vs:List V3} {ts us:List T3} (h:Fl ts us) (hz:(Mesh.mk vs ts).check=0):(Mesh.mk vs us).check=0:=by
 obtain⟨z1,z2,z3,z4⟩:=Mesh.check_zero.1 hz
 refine Mesh.check_zero.2 ⟨z1,by rw[show (Mesh.mk vs us).tris.length=us.length from rfl,h.len];exact z2,z3,?_⟩
 simp only[Jl,qj]
 intro t ht
 obtain⟨i,hi⟩:=qr ht
 have hil:=(q8.1 hi).1
 have hil2:i<ts.length:=by rw[<- h.len];exact hil
 have hok:=Qc0 z4 hil2
 rw[Qk hil]at hi
 obtain rfl:=Option.some.inj hi
 rcases h.tat hil2 with h1 | h1
 ·rw[h1];exact hok
 ·rw[h1];exact T3.rev_ok hok
theorem Qhf {ts:List T3} {L:List Int} (hc:Coh ts):Good ts ts L:=⟨Fl.refl ts,hc,λ_ _ _=>rfl⟩
theorem Q3j {m:Mesh} (hz:m.check=0) (h:Z9 m.tris=none):Zr m=(⟨[],[]⟩,0,13):=by
 unfold Zr;simp only[if_neg (show ¬ m.check≠0 by simpa using hz),h]
theorem Q2d {m:Mesh} (hz:m.check=0) {us:List T3} (h:Z9 m.tris=some us):Zr m=((⟨m.verts,us⟩:Mesh),(Q4u m.tris us:Int),(0:Int)):=by
 unfold Zr;simp only[if_neg (show ¬ m.check≠0 by simpa using hz),h]
theorem p2_ext {x y:P2} (h1:x.x=y.x) (h2:x.y=y.y):x=y:=by cases x;cases y;simp_all
end Go.Abs
