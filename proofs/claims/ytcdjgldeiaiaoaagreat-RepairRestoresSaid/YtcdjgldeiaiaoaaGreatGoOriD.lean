/- Part of the library on which the proof stands: an abstract machine, its values and its soundness against the model; or what functions of the program do to such values. -/
import Derived.Test.YtcdjgldeiaiaoaaGreatGoRevC
import Derived.Test.YtcdjgldeiaiaoaaGreatGoOv
import Derived.Test.YtcdjgldeiaiaoaaGreatGoTpE
import Derived.Test.YtcdjgldeiaiaoaaGreatGoOriB
import Derived.Test.YtcdjgldeiaiaoaaGreatGoSch
set_option linter.unusedVariables false
set_option linter.unusedSimpArgs false
namespace Go.Abs
def crs (b c:V3):V3:=⟨b.y*c.z-b.z*c.y,b.z*c.x-b.x*c.z,b.x*c.y-b.y*c.x⟩
def Qbn (a b:V3):Int:=a.x*b.x+a.y*b.y+a.z*b.z
def Ee (a b c:V3):Int:=Qbn a (crs b c)
def vAt (vs:List V3) (i:Int):V3:=(vs[i.toNat]?).getD ⟨0,0,0⟩
def Ei (vs:List V3) (t:T3):Int:=Ee (vAt vs t.a) (vAt vs t.b) (vAt vs t.c)
def Zk (vs:List V3) (ts:List T3):Int:=(ts.map (Ei vs)).sum
def Mesh.vol6 (m:Mesh):Int:=if m.check=0 then Zk m.verts m.tris else 0
def Qc0 (P:Program) (f:FuncId):Prop:=∀m:Mesh,CallIs P f [m.enc] (.i .i64 m.vol6)
def Qgl (P:Program) (f:FuncId):Prop:=∀a b c:V3,a.valid=true->b.valid=true->c.valid=true->CallIs P f [a.enc,b.enc,c.enc] (.i .i64 (Ee a b c))
theorem Qfp (a b c:V3):Ee a c b=- Ee a b c:=by
 unfold Ee Qbn crs
 grind
theorem Qk1 (a b c:V3):Ee b c a=Ee a b c:=by
 unfold Ee Qbn crs
 grind
theorem Qgs (vs:List V3) (t:T3):Ei vs t.rev=- Ei vs t:=Qfp _ _ _
theorem Ej (vs:List V3):Zk vs []=0:=rfl
theorem Zj (vs:List V3) (t:T3) (ts:List T3):Zk vs (t::ts)=Ei vs t+Zk vs ts:=by simp[Zk]
theorem Qgv (vs:List V3) (a b:List T3):Zk vs (a++b)=Zk vs a+Zk vs b:=by
 induction a with
 | nil=>simp[Ej]
 | cons t a ih=>rw[List.cons_append,Zj,Zj,ih];omega
theorem Q19 (vs:List V3) (ts:List T3):Zk vs (ts.map T3.rev)=- Zk vs ts:=by
 induction ts with
 | nil=>rfl
 | cons t ts ih=>rw[List.map_cons,Zj,Zj,ih,Qgs];omega
theorem Qax {x y A B:Int} (h1:-A<=x) (h2:x<=A) (h3:-B<=y) (h4:y<=B):-(A*B)<=x*y/\x*y<=A*B:=by
 have hA:0<=A:=by omega
 have hB:0<=B:=by omega
 have a1:=Int.mul_nonneg (a:=A-x) (b:=B-y) (by omega) (by omega)
 have a2:=Int.mul_nonneg (a:=A+x) (b:=B+y) (by omega) (by omega)
 have a3:=Int.mul_nonneg (a:=A-x) (b:=B+y) (by omega) (by omega)
 have a4:=Int.mul_nonneg (a:=A+x) (b:=B-y) (by omega) (by omega)
 simp only[Int.mul_add,Int.add_mul,Int.mul_sub,Int.sub_mul]at a1 a2 a3 a4
 omega
theorem Kt {x y:Int} (h1:-65536<=x) (h2:x<=65536) (h3:-65536<=y) (h4:y<=65536):-4294967296<=x*y/\x*y<=4294967296:=Qax (A:=65536) (B:=65536) h1 h2 h3 h4
theorem crs_b {b c:V3} (hb:b.valid=true) (hc:c.valid=true):-8589934592<=(crs b c).x/\(crs b c).x<=8589934592/\-8589934592<=(crs b c).y/\(crs b c).y<=8589934592/\-8589934592<=(crs b c).z/\(crs b c).z<=8589934592:=by
 obtain⟨b1,b2,b3,b4,b5,b6⟩:=V3.valid_iff.1 hb
 obtain⟨c1,c2,c3,c4,c5,c6⟩:=V3.valid_iff.1 hc
 have m1:=Kt b3 b4 c5 c6
 have m2:=Kt b5 b6 c3 c4
 have m3:=Kt b5 b6 c1 c2
 have m4:=Kt b1 b2 c5 c6
 have m5:=Kt b1 b2 c3 c4
 have m6:=Kt b3 b4 c1 c2
 unfold crs
 refine⟨?_,?_,?_,?_,?_,?_⟩<;>simp only<;>omega
theorem det3_b {a b c:V3} (ha:a.valid=true) (hb:b.valid=true) (hc:c.valid=true):-1688849860263936<=Ee a b c/\Ee a b c<=1688849860263936:=by
 obtain⟨b1,b2,b3,b4,b5,b6⟩:=V3.valid_iff.1 ha
 obtain⟨c1,c2,c3,c4,c5,c6⟩:=crs_b hb hc
 have m1:=Qax b1 b2 c1 c2
 have m2:=Qax b3 b4 c3 c4
 have m3:=Qax b5 b6 c5 c6
 unfold Ee Qbn
 omega
theorem Q0u {vs:List V3} {i:Int} (h0:0<=i) (h:i<vs.length):vs[i.toNat]?=some (vAt vs i):=by
 unfold vAt;rw[q9 (by omega)];rfl
theorem Xy {vs:List V3} (hv:Jq vs=true) {i:Int} (h0:0<=i) (h:i<vs.length):(vAt vs i).valid=true:=Qgr hv (Q0u h0 h)
theorem Qgt {vs:List V3} (hv:Jq vs=true) {t:T3} (ht:t.ok vs.length=true):-1688849860263936<=Ei vs t/\Ei vs t<=1688849860263936:=by
 obtain⟨a1,a2,b1,b2,c1,c2⟩:=T3.ok_iff.1 ht
 exact det3_b (Xy hv a1 a2) (Xy hv b1 b2) (Xy hv c1 c2)
theorem Qgu {vs:List V3} (hv:Jq vs=true):∀{ts:List T3},Kw vs.length ts=true->-1688849860263936*(ts.length:Int)<=Zk vs ts/\Zk vs ts<=1688849860263936*(ts.length:Int)
 | [],_=>by simp[Ej]
 | t::ts,h=>by
   have h':t.ok vs.length=true/\Kw vs.length ts=true:=by simpa[Kw]using h
   have h1:=Qgt hv h'.1
   have h2:=Qgu hv h'.2
   rw[Zj,List.length_cons]
   omega
def Qo (ts:List T3) (sh:List Int):List T3:=sh.map λv=>tAt ts v.toNat
def flp (ts:List T3) (F:List Int):List T3:=(List.range ts.length).map λ(i:Nat)=>if (i:Int)∈F then (tAt ts i).rev else tAt ts i
theorem Zo (ts:List T3) (F:List Int):(flp ts F).length=ts.length:=by simp[flp]
theorem Kh {ts:List T3} {F:List Int} {i:Nat} (h:i<ts.length):(flp ts F)[i]?=some (if (i:Int)∈F then (tAt ts i).rev else tAt ts i):=by
 unfold flp
 rw[qq,jf h];rfl
theorem Eb {ts:List T3} {F:List Int} {i:Nat} (h:i<ts.length):tAt (flp ts F) i=if (i:Int)∈F then (tAt ts i).rev else tAt ts i:=by
 have:=Kh (F:=F) h
 unfold tAt at this ⊢
 rw[this];rfl
theorem Q6j (ts:List T3):flp ts []=ts:=by
 apply qy
 intro i
 by_cases h:i<ts.length
 ·rw[Kh h,Qi h];simp
 ·rw[qk (by rw[Zo];omega),qk (by omega)]
theorem flp_set {ts:List T3} {F:List Int} {v:Nat} (hv:v<ts.length):(flp ts F).set v (tAt ts v).rev=flp ts (F++[(v:Int)]):=by
 apply qy
 intro i
 by_cases h:i<ts.length
 ·rw[Kh h]
  by_cases hi:v=i
  ·subst hi
   rw[qn (by rw[Zo];exact hv)]
   simp
  ·rw[qu hi,Kh h]
   have:((i:Int)∈F++[(v:Int)])↔(i:Int)∈F:=by
    rw[qg,qo]
    constructor
    ·rintro (h | h)
     ·exact h
     ·omega
    ·exact .inl
   simp only[this]
 ·rw[qk (by rw[List.length_set,Zo];omega),qk (by rw[Zo];omega)]
theorem Q6k (ts:List T3) (F:List Int):Fl ts (flp ts F) where
 len:=Zo ts F
 at_ i t u h1 h2:=by
  have hi:=(q8.1 h1).1
  rw[Kh hi]at h2
  rw[Qi hi]at h1
  obtain rfl:=Option.some.inj h1
  have h2:=Option.some.inj h2
  split at h2
  ·exact .inr h2.symm
  ·exact .inl h2.symm
def Zq (vs:List V3) (ts:List T3) (shs:List (List Int)):List (List Int):=shs.filter λsh=>decide (Zk vs (Qo ts sh)<0)
theorem Q8d (vs:List V3) (ts:List T3) (shs:List (List Int)) (sh:List Int):Zq vs ts (shs++[sh])=Zq vs ts shs++if Zk vs (Qo ts sh)<0 then [sh] else []:=by
 unfold Zq
 rw[List.filter_append]
 by_cases h:Zk vs (Qo ts sh)<0<;>simp[h]
theorem Qav (vs:List V3) (ts:List T3) (shs:List (List Int)):(Zq vs ts shs).length<=shs.length:=j8 _ _
noncomputable def Mesh.negs (m:Mesh):List (List Int):=Zq m.verts m.tris m.shells
noncomputable def Mesh.outw (m:Mesh):Mesh:=⟨m.verts,flp m.tris m.negs.flatten⟩
def Q43 (p:Mesh × Int × Int):V:=.t [p.1.enc,.i .i64 p.2.1,.i .i64 p.2.2]
noncomputable def Zz (m:Mesh):Mesh × Int × Int :=
 if m.check≠0 then (⟨[],[]⟩,0,m.check) else if m.closed=false then (⟨[],[]⟩,0,12) else if Xw m.tris=false then (⟨[],[]⟩,0,13) else (m.outw,m.negs.length,0)
def Q3g (P:Program) (f:FuncId):Prop:=∀m:Mesh,CallIs P f [m.enc] (Q43 (Zz m))
theorem I4 (e:Int):Le (.t [.a [.nil,.nil],.i .i64 0,.i .i64 e]) (Q43 (⟨[],[]⟩,0,e)) :=
 .inr ⟨_,_,rfl,rfl,.inr ⟨_,_,rfl,rfl,Le0.nil 3,Le0.nil 3,trivial⟩,Le1.refl _,Le1.refl _,trivial⟩
structure ShOk (n:Nat) (shs:List (List Int)):Prop where
 num:shs.length<=n
 len:∀sh∈shs,sh.length<=n
 mem:∀sh∈shs,∀v∈sh,0<=v/\v<n
 nodup:shs.flatten.Nodup
theorem Qad (L:List Int) (i k:Nat):(shK L i k).Nodup:=by
 have hsh:(shK L i k).Pairwise λa b=>a<b:=by
  unfold shK
  rw[jd]
  have h1:(List.range k).Pairwise (λa b:Nat=>a<b):=List.pairwise_lt_range
  exact(h1.filter _).imp λ{a b:Nat} (h:a<b)=>by show (a:Int)<(b:Int);omega
 exact hsh.imp λh=>by omega
theorem mem_shK2 {L:List Int} {i k:Nat} {v:Int}:v∈shK L i k↔∃j:Nat,v=(j:Int)/\j<k/\L[j]?=some (i:Int):=by
 unfold shK
 rw[qp]
 constructor
 ·rintro⟨j,hj,rfl⟩
  have hf:=qv.1 hj
  exact⟨j,rfl,qz.1 hf.1,by simpa using hf.2⟩
 ·rintro⟨j,rfl,h1,h2⟩
  exact⟨j,qv.2 ⟨qz.2 h1,by simpa using h2⟩,rfl⟩
theorem shsK_mem {L:List Int} {k:Nat} {sh:List Int}:sh∈Yb L k↔∃i:Nat,i<k/\L[i]?=some (i:Int)/\sh=shK L i L.length:=by
 unfold Yb
 rw[qp]
 constructor
 ·rintro⟨i,hi,rfl⟩
  have hf:=qv.1 hi
  exact⟨i,qz.1 hf.1,by simpa using hf.2,rfl⟩
 ·rintro⟨i,h1,h2,rfl⟩
  exact⟨i,qv.2 ⟨qz.2 h1,by simpa using h2⟩,rfl⟩
theorem Qab (L:List Int) (k:Nat):(Yb L k).flatten.Nodup:=by
 induction k with
 | zero=>simp[Yb]
 | succ k ih =>
   rw[Q4l]
   split
   ·rw[List.flatten_append,List.nodup_append]
    refine⟨ih,by simpa using Qad L k L.length,λa ha b hb=>?_⟩
    simp at hb
    obtain⟨sh,hs,has⟩:=List.mem_flatten.1 ha
    obtain⟨i,hi,_,rfl⟩:=shsK_mem.1 hs
    obtain⟨j,rfl,_,hj⟩:=mem_shK2.1 has
    rintro rfl
    obtain⟨j',hjj,_,hj'⟩:=mem_shK2.1 hb
    obtain rfl:j=j':=by omega
    rw[hj]at hj'
    have:=Option.some.inj hj'
    omega
   ·simpa using ih
theorem Wu {m:Mesh} (hz:m.check=0):ShOk m.tris.length m.shells:=by
 obtain⟨L,hL⟩:=E8 m.tris
 have hR:m.shells=Yb L m.tris.length:=by unfold Mesh.shells;rw[if_pos hz,Y9 hL,hL.len]
 rw[hR]
 refine⟨?_,λsh hs=>?_,λsh hs v hv=>?_,Qab _ _⟩
 ·unfold Yb
  rw[List.length_map]
  have:=j8 (λ(i:Nat)=>decide (L[i]?=some (i:Int))) (List.range m.tris.length)
  rwa [List.length_range]at this
 ·obtain⟨i,_,_,rfl⟩:=shsK_mem.1 hs
  unfold shK
  rw[List.length_map]
  have:=j8 (λ(j:Nat)=>decide (L[j]?=some (i:Int))) (List.range L.length)
  rw[List.length_range,hL.len]at this
  rw[hL.len]
  omega
 ·obtain⟨i,_,_,rfl⟩:=shsK_mem.1 hs
  obtain⟨j,rfl,h1,_⟩:=mem_shK2.1 hv
  rw[hL.len]at h1
  omega
theorem Qh1 {n:Nat} {ts:List T3} (h:Kw n ts=true) {i:Nat} (hi:i<ts.length):(tAt ts i).ok n=true:=Q1e h (Qi hi)
theorem Q20 {m:Mesh} (hz:m.check=0) {sh:List Int} (hl:sh.length<=m.tris.length) (hv:∀v∈sh,0<=v/\v<m.tris.length):(Mesh.mk m.verts (Qo m.tris sh)).check=0:=by
 obtain⟨z1,z2,z3,z4⟩:=Mesh.check_zero.1 hz
 refine Mesh.check_zero.2 ⟨z1,by simp[Qo];omega,z3,?_⟩
 simp only[Kw,qj,Qo,qp]
 rintro t ⟨v,hvs,rfl⟩
 have:=hv v hvs
 exact Qh1 z4 (by omega)
theorem T3.rev_ok {n:Nat} {t:T3} (h:t.ok n=true):t.rev.ok n=true:=by
 obtain⟨a1,a2,b1,b2,c1,c2⟩:=T3.ok_iff.1 h
 exact T3.ok_iff.2 ⟨a1,a2,c1,c2,b1,b2⟩
theorem Qfd {m:Mesh} (hz:m.check=0) (F:List Int):(Mesh.mk m.verts (flp m.tris F)).check=0:=by
 obtain⟨z1,z2,z3,z4⟩:=Mesh.check_zero.1 hz
 refine Mesh.check_zero.2 ⟨z1,by rw[Zo];exact z2,z3,?_⟩
 simp only[Kw,qj]
 intro t ht
 obtain⟨i,hi⟩:=qr ht
 have hil:=(q8.1 hi).1
 rw[Zo]at hil
 rw[Kh hil]at hi
 obtain rfl:=Option.some.inj hi
 have:=Qh1 z4 hil
 split
 ·exact T3.rev_ok this
 ·exact this
theorem Qci {a b:P2} (h:a.und=b.und):a=b∨a=b.rev:=by
 cases a;cases b
 simp only[P2.und,P2.rev,P2.mk.injEq]at h ⊢
 omega
theorem Q4a (t:T3):(Q5 t).Nodup:=by
 have h0:Q5 t=(Jh t).filter λe=>decide (e.x≠e.y):=rfl
 rw[h0,List.nodup_iff_pairwise_ne,List.pairwise_filter]
 unfold Jh
 simp only[j9,List.mem_cons,List.not_mem_nil,or_false,decide_eq_true_eq,ne_eq,false_implies,implies_true,List.Pairwise.nil,and_true,P2.mk.injEq]
 refine⟨λx hx h1 h2=>?_,λx hx h1 h2=>?_⟩
 ·rcases hx with rfl | rfl
  ·simp only[P2.mk.injEq];simp only at h1 h2;omega
  ·simp only[P2.mk.injEq];simp only at h1 h2;omega
 ·subst hx
  simp only[P2.mk.injEq];simp only at h1 h2;omega
def Coh (ts:List T3):Prop:=∀(i j:Nat) (e:P2),i<ts.length->j<ts.length->e∈Q5 (tAt ts i)->e∈Q5 (tAt ts j)->i=j
theorem B1 {ts:List T3} {i:Nat} (h:i<ts.length):ts[i]=tAt ts i:=by
 have:=Qi h
 rw[q9 h]at this
 exact Option.some.inj this
theorem coh_iff {ts:List T3}:(Qa ts).Nodup↔Coh ts:=by
 have h0:(Qa ts).Nodup↔(∀t∈ts,(Q5 t).Nodup)/\ts.Pairwise λs t=>∀x∈Q5 s,∀y∈Q5 t,x≠y:=List.pairwise_flatMap
 rw[h0,j4]
 constructor
 ·rintro⟨_,h⟩ i j e hi hj h1 h2
  rcases Nat.lt_trichotomy i j with hh | hh | hh
  ·exact absurd rfl (h i j hi hj hh e (by rw[B1 hi];exact h1) e (by rw[B1 hj];exact h2))
  ·exact hh
  ·exact absurd rfl (h j i hj hi hh e (by rw[B1 hj];exact h2) e (by rw[B1 hi];exact h1))
 ·intro h
  refine⟨λt _=>Q4a t,λi j hi hj hij x hx y hy=>?_⟩
  rintro rfl
  rw[B1 hi]at hx
  rw[B1 hj]at hy
  have:=h i j x hi hj hx hy
  omega
theorem cohB_iff {ts:List T3}:Xw ts=true↔Coh ts:=by unfold Xw;rw[decide_eq_true_eq];exact coh_iff
theorem Fl.tat {ts us:List T3} (h:Fl ts us) {i:Nat} (hi:i<ts.length):tAt us i=tAt ts i∨tAt us i=(tAt ts i).rev :=
 h.at_ i _ _ (Qi hi) (Qi (by rw[h.len];exact hi))
theorem Qcm {us vs:List T3} (hl:us.length=vs.length) (h:∀i,i<us.length->tAt us i=tAt vs i):us=vs:=by
 apply qy
 intro i
 by_cases hi:i<us.length
 ·rw[Qi hi,Qi (by omega),h i hi]
 ·rw[qk (by omega),qk (by omega)]
theorem Qkh {ts:List T3} {i j:Nat} (h:adjI ts i j):i<ts.length/\j<ts.length/\∃a∈Q5 (tAt ts i),∃b∈Q5 (tAt ts j),a.und=b.und:=by
 have hl:=h.lt
 obtain⟨s,t,hs,ht,a,ha,b,hb,hab⟩:=h
 rw[Qi hl.1]at hs
 rw[Qi hl.2]at ht
 obtain rfl:=Option.some.inj hs
 obtain rfl:=Option.some.inj ht
 exact⟨hl.1,hl.2,a,ha,b,hb,hab⟩
theorem Ip {ts:List T3} {i j:Nat} (hi:i<ts.length) (hj:j<ts.length) {a b:P2} (ha:a∈Q5 (tAt ts i)) (hb:b∈Q5 (tAt ts j)) (h:a.und=b.und):adjI ts i j :=
 ⟨_,_,Qi hi,Qi hj,a,ha,b,hb,h⟩
structure Good (ts us:List T3) (L:List Int):Prop where
 fl:Fl ts us
 coh:Coh us
 first:∀i:Nat,i<ts.length->L[i]?=some (i:Int)->tAt us i=tAt ts i
theorem Good.step {ts us vs:List T3} {L:List Int} (h:Good ts us L) (k:Good ts vs L) {i j:Nat} (ha:adjI ts i j) (he:tAt us i=tAt vs i):tAt us j=tAt vs j:=by
 obtain⟨hi,hj,a,haa,b,hbb,hab⟩:=Qkh (h.fl.adj ha)
 rw[h.fl.len]at hi hj
 by_cases hij:i=j
 ·subst hij;exact he
 refine j7 λhne=>?_
 have hrev:tAt vs j=(tAt us j).rev:=by
  rcases h.fl.tat hj with h1 | h1<;>rcases k.fl.tat hj with h2 | h2
  ·exact absurd (h1.trans h2.symm) hne
  ·rw[h1,h2]
  ·rw[h1,h2];rfl
  ·exact absurd (h1.trans h2.symm) hne
 rcases Qci hab with rfl | hab
 ·exact hij (h.coh i j a (by rw[h.fl.len];exact hi) (by rw[h.fl.len];exact hj) haa hbb)
 ·refine hij (k.coh i j a (by rw[k.fl.len];exact hi) (by rw[k.fl.len];exact hj) (by rw[<- he];exact haa) ?_)
  rw[hrev,mem_edges_rev,hab,Q5o]
  exact hbb
theorem Good.eq {ts us vs:List T3} {L:List Int} (hL:IsLab ts L) (h:Good ts us L) (k:Good ts vs L):us=vs:=by
 refine Qcm (by rw[h.fl.len,k.fl.len]) λj hj=>?_
 rw[h.fl.len]at hj
 have hv:L[j]?=some (L[j]'(by rw[hL.len];exact hj)):=q9 _
 generalize L[j]'(by rw[hL.len];exact hj)=v at hv
 obtain⟨v0,v1,hc⟩:=hL.con j v hv
 have hvv:=hL.conn hc
 rw[hv]at hvv
 have hc':=hc.symm
 have hvl:=hc'.lt.1
 have hLv:L[v.toNat]?=some (v.toNat:Int):=by rw[<- hvv];congr 1;omega
 have h0:tAt us v.toNat=tAt vs v.toNat:=by rw[h.first _ hvl hLv,k.first _ hvl hLv]
 clear hv hvv hc hj v1
 induction hc' with
 | refl _=>exact h0
 | tail _ h2 ih=>exact h.step k h2 ih
open Classical in
noncomputable def Zx (ts:List T3):Option (List T3):=if h:∃us,Good ts us (labOf ts) then some (Classical.choose h) else none
theorem Kd {ts us:List T3} {L:List Int} (hL:IsLab ts L) (h:Good ts us L):Zx ts=some us:=by
 unfold Zx
 rw[Y9 hL]
 have hex:∃us,Good ts us L:=⟨us,h⟩
 rw[dif_pos hex]
 congr 1
 exact(Classical.choose_spec hex).eq hL h
theorem Q5s {ts:List T3} {L:List Int} (hL:IsLab ts L) (h:∀us,¬ Good ts us L):Zx ts=none:=by
 unfold Zx
 rw[Y9 hL,dif_neg]
 rintro⟨us,hu⟩
 exact h us hu
theorem Q5t {ts us:List T3} {L:List Int} (hL:IsLab ts L) (h:Zx ts=some us):Good ts us L:=by
 unfold Zx at h
 rw[Y9 hL]at h
 split at h
 ·rename_i hex
  obtain rfl:=Option.some.inj h
  exact Classical.choose_spec hex
 ·simp at h
def Q0t (ts us:List T3):Nat:=((List.range ts.length).filter λi=>decide (tAt us i≠tAt ts i)).length
noncomputable def Zm (m:Mesh):Mesh × Int × Int :=
 if m.check≠0 then (⟨[],[]⟩,0,m.check) else match Zx m.tris with
 | none=>(⟨[],[]⟩,0,13)
 | some us=>(⟨m.verts,us⟩,Q0t m.tris us,0)
def Q7e (P:Program) (f:FuncId):Prop:=∀m:Mesh,CallIs P f [m.enc] (Q43 (Zm m))
theorem Wt {us:List T3} {j:Nat} (hj:j<us.length) (i:Nat) (t:T3):tAt (us.set j t) i=if i=j then t else tAt us i:=by
 unfold tAt
 by_cases h:i=j
 ·subst h;rw[qn hj,if_pos rfl];rfl
 ·rw[qu (λhh=>h hh.symm),if_neg h]
theorem Fl.set {ts us:List T3} (h:Fl ts us) {j:Nat} (hj:j<ts.length):Fl ts (us.set j (tAt us j).rev) where
 len:=by rw[List.length_set,h.len]
 at_ i t u h1 h2:=by
  have hi:=(q8.1 h1).1
  have hju:j<us.length:=by rw[h.len];exact hj
  rw[Qi (by rw[List.length_set,h.len];exact hi)]at h2
  rw[Qi hi]at h1
  obtain rfl:=Option.some.inj h1
  obtain rfl:=Option.some.inj h2
  rw[Wt hju]
  split
  ·rename_i hh;subst hh
   rcases h.tat hj with h3 | h3
   ·exact .inr (by rw[h3])
   ·exact .inl (by rw[h3];rfl)
  ·exact h.tat hi
theorem Fl.refl (ts:List T3):Fl ts ts:=⟨rfl,λi t u h1 h2=>.inl (by rw[h1]at h2;exact(Option.some.inj h2).symm)⟩
theorem Q52 (ts:List T3):Q0t ts ts=0:=by unfold Q0t;simp
theorem Qbk {n j:Nat} (hj:j<n) {p q:Nat->Bool} (hq:∀i,i<n->q i=(if i=j then true else p i)) (hp:p j=false):((List.range n).filter q).length=((List.range n).filter p).length+1:=by
 induction n with
 | zero=>omega
 | succ n ih =>
   rw[List.range_succ,List.filter_append,List.filter_append,j3,j3]
   by_cases h:j=n
   ·subst h
    have h1:(List.range j).filter q=(List.range j).filter p:=by
     refine List.filter_congr λi hi=>?_
     have:=qz.1 hi
     rw[hq i (by omega),if_neg (by omega)]
    rw[h1]
    have h2:=hq j (by omega)
    rw[if_pos rfl]at h2
    simp[h2,hp]
   ·have h1:=ih (by omega) λi hi=>hq i (by omega)
    have h2:=hq n (by omega)
    rw[if_neg (λhh=>h hh.symm)]at h2
    rw[h1]
    by_cases h3:p n=true<;>simp[h2,h3]<;>omega
theorem Qk0 {ts us:List T3} (hl:us.length=ts.length) {j:Nat} (hj:j<ts.length) (he:tAt us j=tAt ts j) {t:T3} (hne:t≠tAt ts j):Q0t ts (us.set j t)=Q0t ts us+1:=by
 unfold Q0t
 refine Qbk hj (λi hi=>?_) (by simp[he])
 rw[Wt (by rw[hl];exact hj)]
 by_cases h:i=j
 ·subst h;simp[hne]
 ·simp[h]
structure OrI (ts us:List T3) (L X:List Int) (n:Nat):Prop where
 fl:Fl ts us
 new:∀i:Nat,i<ts.length->(i:Int)∉X->tAt us i=tAt ts i
 first:∀i:Nat,i<ts.length->L[i]?=some (i:Int)->tAt us i=tAt ts i
 num:n<=X.length
 good:∀vs,Good ts vs L->(∀i:Nat,i<ts.length->(i:Int)∈X->tAt us i=tAt vs i)/\n=Q0t ts us
theorem OrI.start (ts:List T3) (L:List Int):OrI ts ts L [] 0 :=
 ⟨Fl.refl ts,λ_ _ _=>rfl,λ_ _ _=>rfl,Nat.zero_le _,λvs h=>⟨by simp,by rw[Q52]⟩⟩
theorem mem_snoc {X:List Int} {k i:Int}:i∈X++[k]↔i∈X∨i=k:=by simp
theorem OrI.top {ts us:List T3} {L X:List Int} {n:Nat} (h:OrI ts us L X n) {k:Nat} (hk:k<ts.length) (hx:(k:Int)∉X) (hL:L[k]?=some (k:Int)):OrI ts us L (X++[(k:Int)]) n where
 fl:=h.fl
 new i hi hn:=h.new i hi λhh=>hn (mem_snoc.2 (.inl hh))
 first:=h.first
 num:=by have:=h.num;simp;omega
 good vs hv:=by
  obtain⟨h1,h2⟩:=h.good vs hv
  refine⟨λi hi hm=>?_,h2⟩
  rcases mem_snoc.1 hm with hm | hm
  ·exact h1 i hi hm
  ·obtain rfl:i=k:=by omega
   rw[h.first i hi hL,hv.first i hi hL]
theorem OrI.keep {ts us:List T3} {L X:List Int} {n:Nat} (h:OrI ts us L X n) {i k:Nat} (hi:i<ts.length) (hk:k<ts.length) (hix:(i:Int)∈X) (hx:(k:Int)∉X) {e:P2} (he:e∈Q5 (tAt us i)) (hno:e∉Q5 (tAt us k))
  {b:P2} (hb:b∈Q5 (tAt ts k)) (hbe:b.und=e.und):OrI ts us L (X++[(k:Int)]) n where
 fl:=h.fl
 new i hi hn:=h.new i hi λhh=>hn (mem_snoc.2 (.inl hh))
 first:=h.first
 num:=by have:=h.num;simp;omega
 good vs hv:=by
  obtain⟨h1,h2⟩:=h.good vs hv
  refine⟨λj hj hm=>?_,h2⟩
  rcases mem_snoc.1 hm with hm | hm
  ·exact h1 j hj hm
  ·obtain rfl:j=k:=by omega
   have huk:=h.new j hj hx
   rw[huk]at hno ⊢
   rcases hv.fl.tat hj with h3 | h3
   ·exact h3.symm
   ·exfalso
    rcases Qci hbe with rfl | rfl
    ·exact hno hb
    ·have hij:=hv.coh i j e (by rw[hv.fl.len];exact hi) (by rw[hv.fl.len];exact hj) (by rw[<- h1 i hi hix];exact he) (by rw[h3,mem_edges_rev];exact hb)
     subst hij
     exact hx hix
theorem OrI.turn {ts us:List T3} {L X:List Int} {n:Nat} (h:OrI ts us L X n) {i k:Nat} (hi:i<ts.length) (hk:k<ts.length) (hix:(i:Int)∈X) (hx:(k:Int)∉X) (hL:L[k]? ≠ some (k:Int)) {e:P2} (he:e∈Q5 (tAt us i)) (hye:e∈Q5 (tAt us k)) :
  OrI ts (us.set k (tAt us k).rev) L (X++[(k:Int)]) (n+1) where
 fl:=h.fl.set hk
 new j hj hn:=by
  rw[Wt (by rw[h.fl.len];exact hk),if_neg (λhh=>hn (mem_snoc.2 (.inr (by omega))))]
  exact h.new j hj λhh=>hn (mem_snoc.2 (.inl hh))
 first j hj hLj:=by
  rw[Wt (by rw[h.fl.len];exact hk),if_neg (by rintro rfl;exact hL hLj)]
  exact h.first j hj hLj
 num:=by have:=h.num;simp;omega
 good vs hv:=by
  obtain⟨h1,h2⟩:=h.good vs hv
  have huk:=h.new k hk hx
  have hvk:tAt vs k=(tAt us k).rev:=by
   rw[huk]at hye ⊢
   rcases hv.fl.tat hk with h3 | h3
   ·exfalso
    have hij:=hv.coh i k e (by rw[hv.fl.len];exact hi) (by rw[hv.fl.len];exact hk) (by rw[<- h1 i hi hix];exact he) (by rw[h3];exact hye)
    subst hij
    exact hx hix
   ·exact h3
  refine⟨λj hj hm=>?_,?_⟩
  ·rw[Wt (by rw[h.fl.len];exact hk)]
   split
   ·rename_i hh;subst hh;exact hvk.symm
   ·rename_i hh
    rcases mem_snoc.1 hm with hm | hm
    ·exact h1 j hj hm
    ·omega
  ·rw[Qk0 h.fl.len hk huk,h2]
   intro hh
   have hij:=hv.coh i k e (by rw[hv.fl.len];exact hi) (by rw[hv.fl.len];exact hk) (by rw[<- h1 i hi hix];exact he) (by rw[hvk,hh,<- huk];exact hye)
   subst hij
   exact hx hix
theorem OrI.done {ts us:List T3} {L X:List Int} {n:Nat} (hL:IsLab ts L) (h:OrI ts us L X n) (hall:∀i:Nat,i<ts.length->(i:Int)∈X) :
  (Coh us->Zx ts=some us/\n=Q0t ts us)/\(¬ Coh us->Zx ts=none):=by
 constructor
 ·intro hc
  have hg:Good ts us L:=⟨h.fl,hc,h.first⟩
  exact⟨Kd hL hg,(h.good us hg).2⟩
 ·intro hc
  refine Q5s hL λvs hv=>hc ?_
  obtain⟨h1,_⟩:=h.good vs hv
  have:us=vs:=Qcm (by rw[h.fl.len,hv.fl.len]) λi hi=>by
   rw[h.fl.len]at hi
   exact h1 i hi (hall i hi)
  rw[this]
  exact hv.coh
theorem mem_all {ts:List T3} {e:P2}:e∈Qa ts↔∃i:Nat,i<ts.length/\e∈Q5 (tAt ts i):=by
 unfold Qa
 rw[jh]
 constructor
 ·rintro⟨t,ht,he⟩
  obtain⟨i,hi⟩:=qr ht
  have hl:=(q8.1 hi).1
  rw[Qi hl]at hi
  obtain rfl:=Option.some.inj hi
  exact⟨i,hl,he⟩
 ·rintro⟨i,hl,he⟩
  exact⟨_,qb (Qi hl),he⟩
def Clo (ts:List T3):Prop:=∀e∈Qa ts,e.rev∈Qa ts
theorem Q38 {m:Mesh} (h:m.closed=true):m.check=0/\Clo m.tris:=by
 unfold Mesh.closed at h
 simp only[Bool.and_eq_true,decide_eq_true_eq]at h
 obtain⟨hz,hb⟩:=h
 refine⟨hz,λe he=>?_⟩
 have hne:¬ e∈m.border:=by rw[hb];simp
 rw[mem_border]at hne
 have h1:¬ m.use e.rev<m.use e:=λhh=>hne ⟨hz,he,hh⟩
 unfold Mesh.use at h1
 rw[if_pos hz,if_pos hz]at h1
 have h2:0<(Qa m.tris).count e:=List.count_pos_iff.2 he
 exact List.count_pos_iff.1 (by omega)
theorem Qbr {m:Mesh} (hz:m.check=0) (hc:Coh m.tris) (h:Clo m.tris):m.closed=true:=by
 unfold Mesh.closed
 simp only[Bool.and_eq_true,decide_eq_true_eq]
 refine⟨hz,?_⟩
 rw[List.eq_nil_iff_forall_not_mem]
 intro e he
 rw[mem_border]at he
 obtain⟨_,h1,h2⟩:=he
 unfold Mesh.use at h2
 rw[if_pos hz,if_pos hz]at h2
 have h3:=List.nodup_iff_count.1 (coh_iff.2 hc) e
 have h4:0<(Qa m.tris).count e.rev:=List.count_pos_iff.2 (h e h1)
 omega
def Whole (ts:List T3) (F:List Int):Prop:=∀i j:Nat,adjI ts i j->((i:Int)∈F↔(j:Int)∈F)
theorem flp_coh {ts:List T3} {F:List Int} (hw:Whole ts F) (h:Coh ts):Coh (flp ts F):=by
 intro i j e hi hj h1 h2
 rw[Zo]at hi hj
 have ha:adjI ts i j:=(Q6k ts F).symm.adj (Ip (by rw[Zo];exact hi) (by rw[Zo];exact hj) h1 h2 rfl)
 have hij:=hw i j ha
 rw[Eb hi]at h1
 rw[Eb hj]at h2
 by_cases hF:(i:Int)∈F
 ·rw[if_pos hF,mem_edges_rev]at h1
  rw[if_pos (hij.1 hF),mem_edges_rev]at h2
  exact h i j e.rev hi hj h1 h2
 ·rw[if_neg hF]at h1
  rw[if_neg (λhh=>hF (hij.2 hh))]at h2
  exact h i j e hi hj h1 h2
theorem flp_clo {ts:List T3} {F:List Int} (hw:Whole ts F) (h:Clo ts):Clo (flp ts F):=by
 intro e he
 obtain⟨i,hi,h1⟩:=mem_all.1 he
 rw[Zo]at hi
 rw[Eb hi]at h1
 by_cases hF:(i:Int)∈F
 ·rw[if_pos hF,mem_edges_rev]at h1
  obtain⟨j,hj,h2⟩:=mem_all.1 (h _ (mem_all.2 ⟨i,hi,h1⟩))
  rw[Q5o]at h2
  have ha:=Ip hi hj h1 h2 (Q5n e)
  refine mem_all.2 ⟨j,by rw[Zo];exact hj,?_⟩
  rw[Eb hj,if_pos ((hw i j ha).1 hF),mem_edges_rev,Q5o]
  exact h2
 ·rw[if_neg hF]at h1
  obtain⟨j,hj,h2⟩:=mem_all.1 (h _ (mem_all.2 ⟨i,hi,h1⟩))
  have ha:=Ip hi hj h1 h2 (Q5n e).symm
  refine mem_all.2 ⟨j,by rw[Zo];exact hj,?_⟩
  rw[Eb hj,if_neg (λhh=>hF ((hw i j ha).2 hh))]
  exact h2
theorem Q0w {vs:List V3} {ts:List T3} {L:List Int} {n:Nat} {sh:List Int} (hs:sh∈Yb L n) {v:Int} (hv:v∈sh):v∈(Zq vs ts (Yb L n)).flatten↔Zk vs (Qo ts sh)<0:=by
 obtain⟨i,hi,hLi,rfl⟩:=shsK_mem.1 hs
 obtain⟨j,rfl,hj,hLj⟩:=mem_shK2.1 hv
 rw[List.mem_flatten]
 constructor
 ·rintro⟨sh',h1,h2⟩
  have hf:=qv.1 h1
  obtain⟨i',_,_,he⟩:=shsK_mem.1 hf.1
  have h3:=hf.2
  subst he
  obtain⟨j',hjj,_,hLj'⟩:=mem_shK2.1 h2
  obtain rfl:j=j':=by omega
  rw[hLj]at hLj'
  have:=Option.some.inj hLj'
  obtain rfl:i=i':=by omega
  simpa using h3
 ·intro h
  exact⟨_,qv.2 ⟨hs,by simpa using h⟩,hv⟩
theorem lab_sh {ts:List T3} {L:List Int} (hL:IsLab ts L) {i:Nat} (hi:i<ts.length):∃q:Nat,L[i]?=some (q:Int)/\L[q]?=some (q:Int)/\q<=i/\shK L q L.length∈Yb L ts.length/\(i:Int)∈shK L q L.length:=by
 have hv:L[i]?=some (L[i]'(by rw[hL.len];exact hi)):=q9 _
 generalize L[i]'(by rw[hL.len];exact hi)=v at hv
 obtain⟨v0,v1,hc⟩:=hL.con i v hv
 have hvv:=hL.conn hc
 rw[hv]at hvv
 have hvn:(v.toNat:Int)=v:=Int.toNat_of_nonneg v0
 have h1:L[v.toNat]?=some (v.toNat:Int):=by rw[hvn];exact hvv.symm
 refine⟨v.toNat,by rw[hvn];exact hv,h1,by omega,shsK_mem.2 ⟨v.toNat,hc.lt.2,h1,rfl⟩,mem_shK2.2 ⟨i,rfl,by rw[hL.len];exact hi,by rw[hvn];exact hv⟩⟩
theorem Qau {vs:List V3} {ts:List T3} {L:List Int} (hL:IsLab ts L):Whole ts (Zq vs ts (Yb L ts.length)).flatten:=by
 intro i j ha
 have hl:=ha.lt
 obtain⟨q,h1,h2,h3,h4,h5⟩:=lab_sh hL hl.1
 have hj:(j:Int)∈shK L q L.length:=mem_shK2.2 ⟨j,rfl,by rw[hL.len];exact hl.2,by rw[<- hL.adj i j ha];exact h1⟩
 rw[Q0w h4 h5,Q0w h4 hj]
theorem Qht {vs:List V3} {ts:List T3} {L:List Int} (hL:IsLab ts L) {sh:List Int} (hs:sh∈Yb L ts.length) :
  0<=Zk vs (Qo (flp ts (Zq vs ts (Yb L ts.length)).flatten) sh):=by
 have hr:∀v∈sh,0<=v/\v.toNat<ts.length/\(v.toNat:Int)=v:=by
  intro v hv
  obtain⟨i,hi,hLi,rfl⟩:=shsK_mem.1 hs
  obtain⟨j,rfl,hj,hLj⟩:=mem_shK2.1 hv
  rw[hL.len]at hj
  omega
 by_cases hn:Zk vs (Qo ts sh)<0
 ·have:Qo (flp ts (Zq vs ts (Yb L ts.length)).flatten) sh=(Qo ts sh).map T3.rev:=by
   unfold Qo
   rw[List.map_map]
   refine ji λv hv=>?_
   obtain⟨h0,h1,h2⟩:=hr v hv
   rw[Eb h1,h2,if_pos ((Q0w hs hv).2 hn)];rfl
  rw[this,Q19]
  omega
 ·have:Qo (flp ts (Zq vs ts (Yb L ts.length)).flatten) sh=Qo ts sh:=by
   unfold Qo
   refine ji λv hv=>?_
   obtain⟨h0,h1,h2⟩:=hr v hv
   rw[Eb h1,h2,if_neg (λhh=>hn ((Q0w hs hv).1 hh))]
  rw[this]
  omega
structure OutOk (x:Mesh):Prop where
 z:x.check=0
 clo:x.closed=true
 coh:Xw x.tris=true
 vol:∀sh∈x.shells,0<=Zk x.verts (Qo x.tris sh)
theorem outw_ok {m:Mesh} (hz:m.check=0) (hc:m.closed=true) (hh:Xw m.tris=true):OutOk m.outw:=by
 obtain⟨L,hL⟩:=E8 m.tris
 have hR:m.shells=Yb L m.tris.length:=by unfold Mesh.shells;rw[if_pos hz,Y9 hL,hL.len]
 have hz2:m.outw.check=0:=Qfd hz _
 have hR2:m.outw.shells=Yb L m.tris.length:=by
  unfold Mesh.shells
  rw[if_pos hz2]
  show Yb (labOf (flp m.tris _)) (labOf (flp m.tris _)).length=_
  rw[(Q6k m.tris _).labOf,Y9 hL,hL.len]
 have hneg:m.negs=Zq m.verts m.tris (Yb L m.tris.length):=by unfold Mesh.negs;rw[hR]
 have hw:Whole m.tris m.negs.flatten:=by rw[hneg];exact Qau hL
 have hcoh:=flp_coh hw (cohB_iff.1 hh)
 refine⟨hz2,Qbr hz2 hcoh (flp_clo hw (Q38 hc).2),cohB_iff.2 hcoh,λsh hs=>?_⟩
 rw[hR2]at hs
 have:=Qht (vs:=m.verts) hL hs
 rw[<- hneg]at this
 exact this
theorem Qan {x:Mesh} (h:OutOk x):Zz x=(x,0,0):=by
 have hn:x.negs=[]:=by
  unfold Mesh.negs Zq
  rw[List.filter_eq_nil_iff]
  intro sh hs
  have:=h.vol sh hs
  simp;omega
 unfold Zz Mesh.outw
 rw[if_neg (by simpa using h.z),if_neg (by rw[h.clo];simp),if_neg (by rw[h.coh];simp),hn]
 simp[Q6j]
theorem Q21 (m:Mesh):((Zz m).2.2≠0/\Zz m=(⟨[],[]⟩,0,(Zz m).2.2))∨(Zz m=(m.outw,(m.negs.length:Int),0)/\OutOk m.outw):=by
 unfold Zz
 by_cases hz:m.check=0
 case neg=>rw[if_pos hz];exact .inl ⟨hz,rfl⟩
 rw[if_neg (by simpa using hz)]
 by_cases hc:m.closed=false
 case pos=>rw[if_pos hc];exact .inl ⟨by simp,rfl⟩
 rw[if_neg hc]
 by_cases hh:Xw m.tris=false
 case pos=>rw[if_pos hh];exact .inl ⟨by simp,rfl⟩
 rw[if_neg hh]
 exact .inr ⟨rfl,outw_ok hz (by simpa using hc) (by simpa using hh)⟩
theorem Qfb {ts:List T3} {L:List Int} (hc:Coh ts):Good ts ts L:=⟨Fl.refl ts,hc,λ_ _ _=>rfl⟩
theorem Qhz {m:Mesh} (hz:m.check=0) (h:Zx m.tris=none):Zm m=(⟨[],[]⟩,0,13):=by
 unfold Zm;simp only[if_neg (show ¬ m.check≠0 by simpa using hz),h]
theorem Q5u {m:Mesh} (hz:m.check=0) {us:List T3} (h:Zx m.tris=some us):Zm m=((⟨m.verts,us⟩:Mesh),(Q0t m.tris us:Int),(0:Int)):=by
 unfold Zm;simp only[if_neg (show ¬ m.check≠0 by simpa using hz),h]
theorem p2_ext {x y:P2} (h1:x.x=y.x) (h2:x.y=y.y):x=y:=by cases x;cases y;simp_all
def Mesh.coh (m:Mesh):Bool:=decide (m.check=0) && Xw m.tris
def Q00 (P:Program) (f:FuncId):Prop:=∀m:Mesh,CallIs P f [m.enc] (.b m.coh)
section
variable {P:Program} (hm:P.follows .mixedOrders=true)
include hm
theorem Ut {f fc fh:FuncId} (hf:Qb P f (L0b.c fc fh) L0b.r L0b.n) (hc:Y3 P fc) (hh:Qlj P fh):Q00 P f:=by
 intro m
 refine PureC.is (Q9 hm hf (qh rfl) ?_) rfl
 unfold L0b.c
 simp[go_sem,Mesh.enc,Mesh.cs]
 refine Q6 (hc m) ?_
 by_cases h:m.check=0
 ·have hl:=(Mesh.check_zero.1 h).2.1
  simp[go_sem,h]
  refine Q6 (hh m.tris (by omega)) ?_
  simp[go_sem,L0b.r,Mesh.coh,h]
 ·have h':(m.check == 0)=false:=by simpa using h
  simp[go_sem,h,h',L0b.r,Mesh.coh]
end
end Go.Abs
