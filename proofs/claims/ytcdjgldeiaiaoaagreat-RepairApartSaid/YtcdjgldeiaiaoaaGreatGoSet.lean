/- Part of the library on which the proof stands: an abstract machine, its values and its soundness against the model; or what functions of the program do to such values. -/
import Derived.Test.YtcdjgldeiaiaoaaGreatGoLp
import Derived.Test.YtcdjgldeiaiaoaaGreatGoShpA
import Derived.Test.YtcdjgldeiaiaoaaGreatGoToA
import Derived.Test.YtcdjgldeiaiaoaaGreatAbsSN
import Derived.Test.YtcdjgldeiaiaoaaGreatGoTo
import Derived.Test.YtcdjgldeiaiaoaaGreatGoRevC
set_option linter.unusedVariables false
set_option linter.unusedSimpArgs false
set_option maxHeartbeats 1000000
namespace Go.Abs
def isV (l:List Int):V:=.l 1 (l.map λx=>[.i .i64 x])
def Ic (l:List Int) (k:Nat):List T3:=(List.range k).map λi=>⟨(l[0]?).getD 0,(l[i+1]?).getD 0,(l[i+2]?).getD 0⟩
def Zk (l:List Int):List T3:=Ic l (l.length-2)
theorem Q4r (l:List Int) (k:Nat):(Ic l k).length=k:=by simp[Ic]
theorem Q6q (l:List Int) (k:Nat):Ic l (k+1)=Ic l k++[⟨(l[0]?).getD 0,(l[k+1]?).getD 0,(l[k+2]?).getD 0⟩]:=by simp[Ic,List.range_succ]
def FanC (P:Program) (f:FuncId):Prop:=∀l:List Int,l.length<=1000000->CallIs P f [isV l] (tsV (Zk l))
theorem t3_isD (t:T3):(∀y∈t.cs,y.isD=true)=True:=by simp[T3.cs,V.isD]
section
variable {P:Program} (hm:P.follows .mixedOrders=true)
include hm
theorem Q8a {f:FuncId} (hf:Qc P f L03.c L03.r L03.n):FanC P f:=by
 intro l hl
 refine PureC.is (Q9 hm hf (qh rfl) ?_) rfl
 unfold L03.c
 simp[go_sem,isV]
 refine Y9 [.t 3 3] (α:=Nat) (λk=>k<=l.length-2)
  (λk=>⟨[(0,isV l),(3,.own 0 (k+1) 0 k),(4,.i .i64 (k+1:Nat))],[.arr (k+1) 3 ((Ic l k).map T3.cs)]⟩)
  (λk=>l.length-2-k) 0 (Nat.zero_le _) ?_ ?_
 ·simp[go_sem,isV,Ic]
 ·intro k hk
  have hkl:=Q4r l k
  have hs:=Q6q l k
  by_cases hlt:k+2<l.length
  ·have h1:k+1<l.length:=by omega
   have h0:0<l.length:=by omega
   have g0:l[0]?=some l[0]:=q9 h0
   have g1:l[k+1]?=some l[k+1]:=q9 h1
   have g2:l[k+2]?=some l[k+2]:=q9 hlt
   generalize l[0]=x0 at g0
   generalize l[k+1]=x1 at g1
   generalize l[k+2]=x2 at g2
   obtain⟨_,q0⟩:=q8.1 g0
   obtain⟨_,q1⟩:=q8.1 g1
   obtain⟨_,q2⟩:=q8.1 g2
   rw[g0,g1,g2]at hs
   have e1:((k:Int)+1+1)=((k+2:Nat):Int):=by omega
   have e2:((k:Int)+1+1).toNat=k+2:=by omega
   have e3:((k:Int)+1).toNat=k+1:=by omega
   simp (disch:=omega) [go_sem,isV,Q3,show (k:Int)+1+1<l.length by omega,h0,h1,hlt,q0,q1,q2,g0,g1,g2,e2,e3]
   refine⟨by omega,by omega,⟨by omega,by omega,by omega⟩,k+1,by omega,by omega,⟨rfl,by omega⟩,rfl,?_⟩
   rw[hs,qe (by simp[hkl]),qx];rfl
  ·have hkk:k=l.length-2:=by omega
   have hfo:Zk l=Ic l k:=by rw[hkk];rfl
   have ht:List.take k ((Ic l k).map T3.cs)=(Ic l k).map T3.cs:=qe (by simp[hkl])
   simp (disch:=omega) [go_sem,isV,Q3,show ¬ (k:Int)+1+1<l.length by omega,L03.r,hfo,tsV,t3_isD,hkl,ht]
end
def bl (n:Nat) (g:Nat->Bool):List (List V):=(List.range n).map λj=>[.b (g j)]
theorem Q90 (n:Nat) (g:Nat->Bool):(bl n g).length=n:=by simp[bl]
theorem Q91 {n:Nat} {g:Nat->Bool} {i:Nat} (h:i<n):(bl n g)[i]?=some [.b (g i)]:=by simp[bl,h]
theorem bl_rep (n:Nat):List.replicate n [V.b false]=bl n (λ_=>false):=by
 apply qy
 intro i
 by_cases h:i<n
 ·rw[Q91 h];simp[h]
 ·rw[qk (by simp;omega),qk (by rw[Q90];omega)]
theorem bl_set (n:Nat) (g:Nat->Bool) (i:Nat) (b:Bool):(bl n g).set i [.b b]=bl n (λj=>if j=i then b else g j):=by
 apply qy
 intro j
 by_cases h:j<n
 ·rw[Q91 h]
  by_cases hj:i=j
  ·subst hj
   rw[qn (by rw[Q90];exact h),if_pos rfl]
  ·rw[qu hj,Q91 h,if_neg (λhh=>hj hh.symm)]
 ·rw[qk (by simp[Q90];omega),qk (by rw[Q90];omega)]
theorem bl_cl (n:Nat) (g:Nat->Bool) (k:Nat):∀el∈bl n g,∀x∈el,x.cl k=true:=by
 intro el hel x hx
 obtain⟨j,_,rfl⟩:=qp.1 hel
 simp at hx;subst hx;rfl
def ics (l:List Int):List (List V):=l.map λx=>[.i .i64 x]
def lsV (ls:List (List Int)):V:=.l 1 (ls.map λl=>[isV l])
def Qe8 (P:Program) (f:FuncId):Prop:=∀m:Mesh,CallIs P f [m.enc] (.t [lsV m.loops.1,.i .i64 m.loops.2])
def Held (b:Nat) (hx:List O) (ls:List (List Int)) (cells:List (List V)):Prop :=
 cells.length=ls.length/\∀(i:Nat) (c:List V) (l:List Int),cells[i]?=some c->ls[i]?=some l->∃j g,c=[.own (b+j) g 0 l.length]/\hx[j]?=some (.arr g 1 (ics l))
def Flt (hx:List O):Prop:=∀o∈hx,∀n,o.cl n
theorem Held.nil (b:Nat):Held b [] [] []:=⟨rfl,by simp⟩
theorem Held.app {b:Nat} {hx:List O} {ls:List (List Int)} {cells:List (List V)} (h:Held b hx ls cells) (l:List O):Held b (hx++l) ls cells :=
 ⟨h.1,λi c x h1 h2=>by obtain⟨j,g,h3,h4⟩:=h.2 i c x h1 h2;exact⟨j,g,h3,by rw[qd (q8.1 h4).1];exact h4⟩⟩
theorem Held.snoc {b:Nat} {hx:List O} {ls:List (List Int)} {cells:List (List V)} (h:Held b hx ls cells) {j g:Nat} {l:List Int} (hj:hx[j]?=some (.arr g 1 (ics l))):Held b hx (ls++[l]) (cells++[[.own (b+j) g 0 l.length]]):=by
 refine⟨by simp[h.1],λi c x h1 h2=>?_⟩
 by_cases hi:i<ls.length
 ·rw[qd (by rw[h.1];exact hi)]at h1
  rw[qd hi]at h2
  exact h.2 i c x h1 h2
 ·rw[qf (by rw[h.1];omega)]at h1
  rw[qf (by omega)]at h2
  have hi0:i-ls.length=0:=by
   have:=(q8.1 h2).1
   simp at this;omega
  rw[h.1,hi0]at h1
  rw[hi0]at h2
  simp at h1 h2
  subst h1;subst h2
  exact⟨j,g,rfl,hj⟩
theorem Held.cl {b:Nat} {hx:List O} {ls:List (List Int)} {cells:List (List V)} (h:Held b hx ls cells) {n:Nat} (hn:b+hx.length<=n):∀el∈cells,∀x∈el,x.cl n=true:=by
 intro el hel x hx'
 obtain⟨i,hi⟩:=qr hel
 have hlt:=(q8.1 hi).1
 obtain⟨j,g,rfl,h4⟩:=h.2 i el _ hi (q9 (by rw[<- h.1];exact hlt))
 have:=(q8.1 h4).1
 simp at hx';subst hx'
 simp[V.cl,V.cl1,V.cl0];omega
theorem Qf4 (l:List Int):∀el∈ics l,∀x∈el,x.isD=true:=by
 intro el hel x hx
 obtain⟨a,_,rfl⟩:=qp.1 hel
 simp at hx;subst hx;rfl
theorem Jv (l:List Int) (n:Nat):∀el∈ics l,∀x∈el,x.cl n=true:=λel hel x hx=>Qd3 n (Qf4 l el hel x hx)
theorem Held.frz {b:Nat} {base hx:List O} {ls:List (List Int)} {cells:List (List V)} (h:Held b hx ls cells) (hb:base.length=b):cells.mapM (λel=>el.mapM (Q8c (base++hx)))=some (ls.map λl=>[isV l]):=by
 induction cells generalizing ls with
 | nil =>
   have:=h.1
   simp at this
   obtain rfl:=List.length_eq_zero_iff.1 this.symm
   rfl
 | cons c cells ih =>
   have hl:=h.1
   cases ls with
   | nil=>simp at hl
   | cons l ls =>
     have h0:=h.2 0 c l rfl rfl
     obtain⟨j,g,rfl,hj⟩:=h0
     have ht:Held b hx ls cells:=⟨by simpa using hl,λi c x h1 h2=>h.2 (i+1) c x (by simpa using h1) (by simpa using h2)⟩
     have hg:(base++hx)[b+j]?=some (.arr g 1 (ics l)):=by rw[<- hb,Qa];exact hj
     have ha:(ics l).all (λx=>x.all V.isD)=true:=by
      rw[qj]
      exact λel hel=>qj.2 (Qf4 l el hel)
     have hlen:(ics l).length=l.length:=by simp[ics]
     have hfr:Q8c (base++hx) (.own (b+j) g 0 l.length)=some (isV l):=by
      have ht2:List.take l.length (ics l)=ics l:=qe (by omega)
      show _=some (V.l 1 (ics l))
      simp only[Q8c,Jc,hg]
      rw[List.drop_zero,ht2,if_pos ⟨trivial,by omega,ha⟩]
     simp[List.mapM_cons,hfr,ih ht]
theorem Qf5 {b:Nat} {base hx:List O} {ls:List (List Int)} {cells:List (List V)} (h:Held b hx ls cells) (hb:base.length=b) :
  (if ls.length<=cells.length then Option.map (V.l 1) (List.mapM (λel=>List.mapM (Q8c (base++hx)) el) (List.take ls.length cells)) else none)=some (lsV ls):=by
 have h1:=h.frz hb
 have ht:List.take ls.length cells=cells:=qe (by rw[h.1];exact Nat.le_refl _)
 simp only[ht,h1,h.1,Nat.le_refl,if_true,Option.map_some,lsV]
theorem Q7c {m:Mesh} {l:List P2} {k:Nat} (hk:k<l.length) (h:Wm m l k=false):m.simple l=false:=by
 unfold Mesh.simple
 rw[List.all_eq_false]
 exact⟨k,qz.2 hk,by simp[h]⟩
theorem Qb3 {t:T3} {e:P2} (h:e∈Q5 t):(e.x=t.a∨e.x=t.b∨e.x=t.c)/\(e.y=t.a∨e.y=t.b∨e.y=t.c):=by
 unfold Q5 Zn at h
 have h1:e∈Y5 t:=jh (qv.1 h).1
 simp only[Y5,List.mem_cons,List.not_mem_nil,or_false]at h1
 rcases h1 with rfl | rfl | rfl<;>simp
theorem Zx {m:Mesh} (hz:m.check=0) {e:P2} (h:e∈Q8 m.tris):0<=e.x/\e.x<m.verts.length/\0<=e.y/\e.y<m.verts.length:=by
 obtain⟨t,ht,he⟩:=jk.1 h
 obtain⟨h1,h2,h3,h4,h5,h6⟩:=T3.ok_iff.1 (qj.1 (Mesh.check_zero.1 hz).2.2.2 t ht)
 have:=Qb3 he
 omega
theorem Zt {m:Mesh} {e:P2} (h:e∈m.border):0<=e.x/\e.x<m.verts.length/\0<=e.y/\e.y<m.verts.length:=by
 obtain⟨h1,h2,_⟩:=mem_border.1 h
 exact Zx h1 h2
theorem Ih (m:Mesh):m.border.length<=12288:=by
 by_cases hz:m.check=0
 ·have hn:m.border.Nodup:=(Zw m).imp λh1 h2=>by subst h2;exact P2.lt_irrefl _ h1
  have h1:=I5 hn (λa ha=>(mem_border.1 ha).2.1)
  have hE:=K8 m.tris m.tris.length
  rw[qi]at hE
  have:=(Mesh.check_zero.1 hz).2.1
  omega
 ·simp[Mesh.border,hz]
theorem Qeu {m:Mesh} (hz:m.check=0) (h:m.simple m.border=true) {v:Int} (hv:v∈m.border.map P2.x):nxt m.border v∈m.border.map P2.x:=by
 rw[Jj hz h]at hv
 obtain⟨e,he,rfl⟩:=qp.1 hv
 rw[Q0q (Jz hz h) he]
 exact qp.2 ⟨e,he,rfl⟩
theorem Qkn (e:Int):Le (.t [.nil,.i .i64 e]) (.t [lsV [],.i .i64 e]):=.inr ⟨_,_,rfl,rfl,.inl (Le0.nil 1),Le1.refl _,trivial⟩
theorem Qbg {n:Nat} {g g':Nat->Bool} (h:∀j,j<n->g j=g' j):bl n g=bl n g':=by
 unfold bl
 exact jl λj hj=>by rw[h j (qz.1 hj)]
def mk (n:Nat) (done:List Int):List (List V):=bl n λj=>decide ((j:Int)∈done)
theorem Qkl (n:Nat):List.replicate n [V.b false]=mk n []:=by rw[bl_rep];exact Qbg λj _=>by simp
theorem Qcu {n:Nat} {d:List Int} {v:Int} (h0:0<=v):(mk n d).set v.toNat [.b true]=mk n (d++[v]):=by
 unfold mk
 rw[bl_set]
 refine Qbg λj _=>?_
 by_cases hj:j=v.toNat
 ·have:(j:Int)=v:=by omega
  simp[hj,show ((v.toNat:Nat):Int)=v by omega]
 ·have:(j:Int)≠v:=by omega
  simp[hj,this]
theorem Qcv {n:Nat} {d:List Int} {v:Int} (h0:0<=v) (h1:v<n):(mk n d)[v.toNat]?=some [.b (decide (v∈d))]:=by
 unfold mk
 rw[Q91 (by omega),show ((v.toNat:Nat):Int)=v by omega]
theorem Qex (n:Nat) (d:List Int) (k:Nat):∀el∈mk n d,∀x∈el,x.cl k=true:=bl_cl _ _ _
theorem Flt.app {a b:List O} (h:Flt a) (k:Flt b):Flt (a++b):=λo ho n=>by
 rcases qg.1 ho with h1 | h1
 ·exact h o h1 n
 ·exact k o h1 n
theorem Flt.WeakH {hx l:List O} (h:Flt hx) (n:Nat):WeakH n (hx++l) hx:=Q55 λo ho=>h o ho n
theorem Flt.WeakH' {hx:List O} (h:Flt hx) (n:Nat):Go.Abs.WeakH n hx hx:=by
 have:=h.WeakH (l:=[]) n
 rwa [List.append_nil]at this
section
variable {K β:Type} [DecidableEq K]
def Zd (e:K):List (K × β)->Option (Nat × β)
 | []=>none
 | (k,n)::r=>if e=k then some (0,n) else (Zd e r).map λp=>(p.1+1,p.2)
structure KeyOk (ls:List Nat) (en:K->V):Prop where
 shape:∀a,Zc ls (en a)=true
 len:∀a,(en a).cells.length=ls.length
 eq:∀a b,Z5 ls (en a).cells (en b).cells=some (decide (a=b))
def asG (en:K->V) (ev:β->V) (p:K × β):V × V:=(en p.1,ev p.2)
theorem Xh {ls:List Nat} {en:K->V} (O:KeyOk ls en) (ev:β->V) (e:K):∀L:List (K × β),Qi ls (en e) (L.map (asG en ev))=some ((Zd e L).map λp=>(p.1,ev p.2))
 | []=>by simp[Qi,O.shape,O.len,Zd]
 | (k,n)::r=>by
   simp only[List.map_cons,asG,Qi,Zd,O.shape,O.eq,Bool.and_self,if_true]
   by_cases h:e=k
   ·simp[h]
   ·simp only[h,decide_false,if_false]
    have:=Xh O ev e r
    rw[this]
    cases Zd e r<;>rfl
theorem fndG_none {e:K}:∀{L:List (K × β)},Zd e L=none↔e∉L.map Prod.fst
 | []=>by simp[Zd]
 | (k,n)::r=>by
   simp only[Zd]
   by_cases h:e=k
   ·simp[h]
   ·rw[if_neg h,Option.map_eq_none_iff,fndG_none (L:=r)]
    simp[h]
theorem Jh {e:K}:∀{L:List (K × β)} {i:Nat} {n:β},Zd e L=some (i,n)->L[i]?=some (e,n)
 | [],i,n,h=>by simp[Zd]at h
 | (k,m)::r,i,n,h=>by
   simp only[Zd]at h
   by_cases hk:e=k
   ·simp[hk]at h;obtain⟨rfl,rfl⟩:=h;simp[hk]
   ·simp only[hk,if_false,qa,Prod.mk.injEq]at h
    obtain⟨⟨j,n1⟩,hj,rfl,rfl⟩:=h
    simpa using Jh hj
theorem U3:∀{L:List (K × β)} {i:Nat} {e:K} {n:β},(L.map Prod.fst).Nodup->L[i]?=some (e,n)->Zd e L=some (i,n)
 | [],i,e,n,_,h=>by simp at h
 | (k,m)::r,0,e,n,_,h=>by simp at h;obtain⟨rfl,rfl⟩:=h;simp[Zd]
 | (k,m)::r,i+1,e,n,hn,h=>by
   simp only[List.map_cons,List.nodup_cons]at hn
   simp only[List.getElem?_cons_succ]at h
   have hk:¬ e=k:=by
    rintro rfl
    exact hn.1 (qp.2 ⟨(e,n),qb h,rfl⟩)
   simp[Zd,hk,U3 hn.2 h]
theorem U4 {e e':K} {n:β}:∀{L:List (K × β)},Zd e L=none->Zd e' (L++[(e,n)])=if e'=e then some (L.length,n) else Zd e' L
 | [],_=>by simp[Zd]
 | (k,m)::r,h=>by
   simp only[Zd]at h
   by_cases hk:e=k
   ·simp[hk]at h
   ·simp only[hk,if_false,Option.map_eq_none_iff]at h
    by_cases he:e'=e
    ·subst he;simp[Zd,hk,U4 h]
    ·simp only[List.cons_append,Zd,U4 h,he,if_false]
theorem Q4o {e e':K} {n':β}:∀{L:List (K × β)} {i:Nat} {n:β},Zd e L=some (i,n)->Zd e' (L.set i (e,n'))=if e'=e then some (i,n') else Zd e' L
 | [],i,n,h=>by simp[Zd]at h
 | (k,m)::r,i,n,h=>by
   simp only[Zd]at h
   by_cases hk:e=k
   ·simp[hk]at h;obtain⟨rfl,rfl⟩:=h
    subst hk
    by_cases he:e'=e<;>simp[Zd,he]
   ·simp only[hk,if_false,qa,Prod.mk.injEq]at h
    obtain⟨⟨j,n1⟩,hj,rfl,rfl⟩:=h
    have:=Q4o (e':=e') (n':=n') hj
    by_cases he:e'=e
    ·subst he;simp[Zd,hk,this]
    ·simp only[List.set_cons_succ,Zd,this,he,if_false]
def Q1u (e:K) (n:β) (L:List (K × β)):List (K × β):=match Zd e L with | some (i,_)=>L.set i (e,n) | none=>L++[(e,n)]
theorem Qlk (e e':K) (n:β) (L:List (K × β)):(Zd e' (Q1u e n L)).map Prod.snd=if e'=e then some n else (Zd e' L).map Prod.snd:=by
 unfold Q1u
 cases h:Zd e L with
 | none=>simp only[U4 h];split<;>simp
 | some p=>obtain⟨i,m⟩:=p;simp only[Q4o h];split<;>simp
end
theorem Q84:KeyOk [1,1] P2.enc:=⟨λ_=>rfl,λ_=>rfl,veq2⟩
theorem Q4b:KeyOk [1,1,1] V3.enc:=⟨λ_=>rfl,λ_=>rfl,λa b=>by
 cases a;cases b
 simp[Z5,V3.enc,V3.cs,V.cells,Iy,V3.mk.injEq]
 rw[Bool.eq_iff_iff];simp⟩
theorem key_T3:KeyOk [1,1,1] T3.enc:=⟨λ_=>rfl,λ_=>rfl,λa b=>by
 cases a;cases b
 simp[Z5,T3.enc,T3.cs,V.cells,Iy,T3.mk.injEq]
 rw[Bool.eq_iff_iff];simp⟩
theorem Q2f:KeyOk [1] (V.i .i64):=⟨λ_=>rfl,λ_=>rfl,λa b=>by
 simp[Z5,V.cells,Iy]
 rw[Bool.eq_iff_iff];simp⟩
def kt {K:Type} (en:K->V) (v:K):V × V:=(en v,.b true)
theorem Uo {K:Type} [DecidableEq K] {ls:List Nat} {en:K->V} (O:KeyOk ls en) (e:K) (U:List K):Qi ls (en e) (U.map (kt en))=some (if e∈U then some (U.idxOf e,.b true) else none):=by
 induction U with
 | nil=>simp[Qi,O.shape,O.len]
 | cons x r ih =>
   simp only[List.map_cons,kt,Qi,O.shape,O.eq,Bool.and_self,if_true]
   by_cases h:e=x
   ·simp[h]
   ·simp only[h,decide_false]
    have ih':Qi ls (en e) (r.map λv=>(en v,V.b true))=_:=ih
    have hm:(e∈x::r)=(e∈r):=by simp[h]
    have h':¬ x=e:=λhh=>h hh.symm
    show Option.map _ (Qi ls (en e) (r.map (kt en)))=_
    rw[ih]
    have hb:(x == e)=false:=by simp[h']
    by_cases hr:e∈r<;>simp[hr,h,List.idxOf_cons,h',hb]
theorem K5 (t:V3) (n:Nat):(∀y∈t.cs,y.cl n=true)=True:=by simp[V3.cs,V.cl,V.cl1,V.cl0]
theorem Xe (v:V3) (n:Nat):v.enc.cl n=true:=by simp[V3.enc,V3.cs,V.cl,V.cl1,V.cl0]
theorem Zg (t:T3) (n:Nat):(∀y∈t.cs,y.cl n=true)=True:=by simp[T3.cs,V.cl,V.cl1,V.cl0]
end Go.Abs
