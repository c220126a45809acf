/- Part of the library on which the proof stands: an abstract machine, its values and its soundness against the model; or what functions of the program do to such values. -/
import Derived.Test.YtnaehggpjfdenaaGreatGoTal
import Derived.Test.YtnaehggpjfdenaaGreatGoRevC
import Derived.Test.YtnaehggpjfdenaaGreatGoLpB
import Derived.Test.YtnaehggpjfdenaaGreatAbsSS
set_option linter.unusedVariables false
set_option linter.unusedSimpArgs false
namespace Go.Abs
section
variable {K β:Type} [DecidableEq K]
def Zc (e:K):List (K × β)->Option (Nat × β)
 | []=>none
 | (k,n)::r=>if e=k then some (0,n) else (Zc e r).map λp=>(p.1+1,p.2)
structure KeyOk (ls:List Nat) (en:K->V):Prop where
 shape:∀a,Zh ls (en a)=true
 len:∀a,(en a).cells.length=ls.length
 eq:∀a b,Zf ls (en a).cells (en b).cells=some (decide (a=b))
def asG (en:K->V) (ev:β->V) (p:K × β):V × V:=(en p.1,ev p.2)
theorem Je {ls:List Nat} {en:K->V} (O:KeyOk ls en) (ev:β->V) (e:K):∀L:List (K × β),Qn ls (en e) (L.map (asG en ev))=some ((Zc e L).map λp=>(p.1,ev p.2))
 | []=>by simp[Qn,O.shape,O.len,Zc]
 | (k,n)::r=>by
   simp only[List.map_cons,asG,Qn,Zc,O.shape,O.eq,Bool.and_self,if_true]
   by_cases h:e=k
   ·simp[h]
   ·simp only[h,decide_false,if_false]
    have:=Je O ev e r
    rw[this]
    cases Zc e r<;>rfl
theorem fndG_none {e:K}:∀{L:List (K × β)},Zc e L=none↔e∉L.map Prod.fst
 | []=>by simp[Zc]
 | (k,n)::r=>by
   simp only[Zc]
   by_cases h:e=k
   ·simp[h]
   ·rw[if_neg h,Option.map_eq_none_iff,fndG_none (L:=r)]
    simp[h]
theorem Zx {e:K}:∀{L:List (K × β)} {i:Nat} {n:β},Zc e L=some (i,n)->L[i]?=some (e,n)
 | [],i,n,h=>by simp[Zc]at h
 | (k,m)::r,i,n,h=>by
   simp only[Zc]at h
   by_cases hk:e=k
   ·simp[hk]at h;obtain⟨rfl,rfl⟩:=h;simp[hk]
   ·simp only[hk,if_false,qa,Prod.mk.injEq]at h
    obtain⟨⟨j,n1⟩,hj,rfl,rfl⟩:=h
    simpa using Zx hj
theorem Yv:∀{L:List (K × β)} {i:Nat} {e:K} {n:β},(L.map Prod.fst).Nodup->L[i]?=some (e,n)->Zc e L=some (i,n)
 | [],i,e,n,_,h=>by simp at h
 | (k,m)::r,0,e,n,_,h=>by simp at h;obtain⟨rfl,rfl⟩:=h;simp[Zc]
 | (k,m)::r,i+1,e,n,hn,h=>by
   simp only[List.map_cons,List.nodup_cons]at hn
   simp only[List.getElem?_cons_succ]at h
   have hk:¬ e=k:=by
    rintro rfl
    exact hn.1 (qo.2 ⟨(e,n),qb h,rfl⟩)
   simp[Zc,hk,Yv hn.2 h]
theorem U9 {e e':K} {n:β}:∀{L:List (K × β)},Zc e L=none->Zc e' (L++[(e,n)])=if e'=e then some (L.length,n) else Zc e' L
 | [],_=>by simp[Zc]
 | (k,m)::r,h=>by
   simp only[Zc]at h
   by_cases hk:e=k
   ·simp[hk]at h
   ·simp only[hk,if_false,Option.map_eq_none_iff]at h
    by_cases he:e'=e
    ·subst he;simp[Zc,hk,U9 h]
    ·simp only[List.cons_append,Zc,U9 h,he,if_false]
theorem Q00 {e e':K} {n':β}:∀{L:List (K × β)} {i:Nat} {n:β},Zc e L=some (i,n)->Zc e' (L.set i (e,n'))=if e'=e then some (i,n') else Zc e' L
 | [],i,n,h=>by simp[Zc]at h
 | (k,m)::r,i,n,h=>by
   simp only[Zc]at h
   by_cases hk:e=k
   ·simp[hk]at h;obtain⟨rfl,rfl⟩:=h
    subst hk
    by_cases he:e'=e<;>simp[Zc,he]
   ·simp only[hk,if_false,qa,Prod.mk.injEq]at h
    obtain⟨⟨j,n1⟩,hj,rfl,rfl⟩:=h
    have:=Q00 (e':=e') (n':=n') hj
    by_cases he:e'=e
    ·subst he;simp[Zc,hk,this]
    ·simp only[List.set_cons_succ,Zc,this,he,if_false]
def Qeb (e:K) (n:β) (L:List (K × β)):List (K × β):=match Zc e L with | some (i,_)=>L.set i (e,n) | none=>L++[(e,n)]
theorem Qs0 (e e':K) (n:β) (L:List (K × β)):(Zc e' (Qeb e n L)).map Prod.snd=if e'=e then some n else (Zc e' L).map Prod.snd:=by
 unfold Qeb
 cases h:Zc e L with
 | none=>simp only[U9 h];split<;>simp
 | some p=>obtain⟨i,m⟩:=p;simp only[Q00 h];split<;>simp
theorem Qlo (e:K) (n:β) (L:List (K × β)):(Qeb e n L).map Prod.fst=if e∈L.map Prod.fst then L.map Prod.fst else L.map Prod.fst++[e]:=by
 unfold Qeb
 cases h:Zc e L with
 | none=>rw[if_neg (fndG_none.1 h)];simp
 | some p =>
   obtain⟨i,m⟩:=p
   have h1:=Zx h
   rw[if_pos (qo.2 ⟨(e,m),qb h1,rfl⟩)]
   simp only[List.map_set]
   apply qy
   intro j
   by_cases hj:i=j
   ·subst hj
    have:=(q8.1 h1).1
    rw[qm (by simpa using this)]
    simp[h1]
   ·rw[qt hj]
end
theorem U3:KeyOk [1,1] P2.enc:=⟨λ_=>rfl,λ_=>rfl,veq2⟩
def kt {K:Type} (en:K->V) (v:K):V × V:=(en v,.b true)
theorem Qdi (t:V3) (n:Nat):(∀y∈t.cs,y.cl n=true)=True:=by simp[V3.cs,V.cl,V.cl1,V.cl0]
theorem I3 (t:T3) (n:Nat):(∀y∈t.cs,y.cl n=true)=True:=by simp[T3.cs,V.cl,V.cl1,V.cl0]
def adjT (s t:T3):Prop:=∃a∈Q8 s,∃b∈Q8 t,a.und=b.und
def adjI (ts:List T3) (i j:Nat):Prop:=∃s t,ts[i]?=some s/\ts[j]?=some t/\adjT s t
theorem adjI.symm {ts:List T3} {i j:Nat} (h:adjI ts i j):adjI ts j i:=by
 obtain⟨s,t,h1,h2,a,ha,b,hb,h3⟩:=h
 exact⟨t,s,h2,h1,b,hb,a,ha,h3.symm⟩
inductive Conn (ts:List T3):Nat->Nat->Prop where
 | refl {i:Nat}:i<ts.length->Conn ts i i
 | tail {i j k:Nat}:Conn ts i j->adjI ts j k->Conn ts i k
theorem adjI.lt {ts:List T3} {i j:Nat} (h:adjI ts i j):i<ts.length/\j<ts.length:=by
 obtain⟨s,t,h1,h2,_⟩:=h
 exact⟨(q8.1 h1).1,(q8.1 h2).1⟩
theorem Conn.lt {ts:List T3} {i j:Nat} (h:Conn ts i j):i<ts.length/\j<ts.length:=by
 induction h with
 | refl h=>exact⟨h,h⟩
 | tail _ h2 ih=>exact⟨ih.1,h2.lt.2⟩
theorem Conn.head {ts:List T3} {i j k:Nat} (h:adjI ts i j) (h2:Conn ts j k):Conn ts i k:=by
 induction h2 with
 | refl _=>exact .tail (.refl h.lt.1) h
 | tail _ h3 ih=>exact .tail ih h3
theorem Conn.symm {ts:List T3} {i j:Nat} (h:Conn ts i j):Conn ts j i:=by
 induction h with
 | refl h=>exact .refl h
 | tail _ h2 ih=>exact .head h2.symm ih
theorem Conn.trans {ts:List T3} {i j k:Nat} (h:Conn ts i j) (h2:Conn ts j k):Conn ts i k:=by
 induction h2 with
 | refl _=>exact h
 | tail _ h3 ih=>exact .tail ih h3
structure IsLab (ts:List T3) (L:List Int):Prop where
 len:L.length=ts.length
 con:∀(i:Nat) (v:Int),L[i]?=some v->0<=v/\v<=i/\Conn ts i v.toNat
 adj:∀i j,adjI ts i j->L[i]?=L[j]?
theorem IsLab.conn {ts:List T3} {L:List Int} (h:IsLab ts L) {i j:Nat} (hc:Conn ts i j):L[i]?=L[j]?:=by
 induction hc with
 | refl _=>rfl
 | tail _ h2 ih=>rw[ih];exact h.adj _ _ h2
theorem IsLab.le {ts:List T3} {L K:List Int} (h:IsLab ts L) (k:IsLab ts K) {i:Nat} {v u:Int} (h1:L[i]?=some v) (h2:K[i]?=some u):u<=v:=by
 obtain⟨a1,a2,a3⟩:=h.con i v h1
 have h3:=k.conn a3
 rw[h2]at h3
 have:=(k.con v.toNat u h3.symm).2.1
 omega
theorem IsLab.eq {ts:List T3} {L K:List Int} (h:IsLab ts L) (k:IsLab ts K):L=K:=by
 apply qy
 intro i
 by_cases hi:i<ts.length
 ·have h1:L[i]?=some (L[i]'(by rw[h.len];exact hi)):=q9 _
  have h2:K[i]?=some (K[i]'(by rw[k.len];exact hi)):=q9 _
  have a:=h.le k h1 h2
  have b:=k.le h h2 h1
  rw[h1,h2];congr 1;omega
 ·rw[qk (by rw[h.len];omega),qk (by rw[k.len];omega)]
open Classical in
noncomputable def Qjq (ts:List T3):List Int:=if h:∃L,IsLab ts L then Classical.choose h else []
theorem Bw {ts:List T3} {L:List Int} (h:IsLab ts L):Qjq ts=L:=by
 unfold Qjq
 rw[dif_pos ⟨L,h⟩]
 exact(Classical.choose_spec (⟨L,h⟩:∃L,IsLab ts L)).eq h
def shK (L:List Int) (i k:Nat):List Int:=((List.range k).filter λj=>decide (L[j]?=some (i:Int))).map λ(j:Nat)=>(j:Int)
def Ja (L:List Int) (k:Nat):List (List Int):=((List.range k).filter λ(i:Nat)=>decide (L[i]?=some (i:Int))).map λi=>shK L i L.length
noncomputable def Mesh.shells (m:Mesh):List (List Int):=if m.check=0 then Ja (Qjq m.tris) (Qjq m.tris).length else []
def Qct (P:Program) (f:FuncId):Prop:=∀m:Mesh,CallIs P f [m.enc] (lsV m.shells)
theorem Q8z (L:List Int) (k:Nat):Ja L (k+1)=Ja L k++if L[k]?=some (k:Int) then [shK L k L.length] else []:=by
 unfold Ja
 rw[List.range_succ,List.filter_append,qx]
 by_cases h:L[k]?=some (k:Int)<;>simp[h]
structure PreLab (ts:List T3) (L:List Int):Prop where
 len:L.length=ts.length
 con:∀(i:Nat) (v:Int),L[i]?=some v->0<=v/\v<=i/\Conn ts i v.toNat
def near (ts:List T3) (i j:Nat):Prop:=j=i∨adjI ts i j
structure Spread (ts:List T3) (L K:List Int):Prop where
 len:K.length=ts.length
 att:∀(i:Nat) (v:Int),K[i]?=some v->∃j,near ts i j/\L[j]?=some v
 low:∀(i j:Nat) (v u:Int),K[i]?=some v->near ts i j->L[j]?=some u->v<=u
theorem PreLab.spread {ts:List T3} {L K:List Int} (h:PreLab ts L) (s:Spread ts L K):PreLab ts K where
 len:=s.len
 con i v hv:=by
  obtain⟨j,hj,hjv⟩:=s.att i v hv
  obtain⟨c1,c2,c3⟩:=h.con j v hjv
  have hi:i<L.length:=by rw[h.len,<- s.len];exact(q8.1 hv).1
  have hle:=s.low i i v L[i] hv (.inl rfl) (q9 hi)
  have hci:=(h.con i L[i] (q9 hi)).2.1
  refine⟨c1,by omega,?_⟩
  rcases hj with rfl | hj
  ·exact c3
  ·exact .head hj c3
theorem Spread.fix {ts:List T3} {L:List Int} (h:PreLab ts L) (s:Spread ts L L):IsLab ts L where
 len:=h.len
 con:=h.con
 adj i j hij:=by
  have h1:L[i]?=some (L[i]'(by rw[h.len];exact hij.lt.1)):=q9 _
  have h2:L[j]?=some (L[j]'(by rw[h.len];exact hij.lt.2)):=q9 _
  have a:=s.low i j _ _ h1 (.inr hij) h2
  have b:=s.low j i _ _ h2 (.inr hij.symm) h1
  rw[h1,h2];congr 1;omega
def Qdn (L:List Int):Nat:=(L.map Int.toNat).sum
theorem Qj9:∀{L K:List Int},K.length=L.length->(∀(i:Nat) (v u:Int),K[i]?=some v->L[i]?=some u->v<=u/\0<=v)->K≠L->Qdn K<Qdn L
 | [],[],_,_,h=>absurd rfl h
 | [],_::_,h,_,_=>by simp at h
 | _::_,[],h,_,_=>by simp at h
 | l::L,k::K,hl,hle,hne=>by
   have h0:=hle 0 k l rfl rfl
   have ht:∀(i:Nat) (v u:Int),K[i]?=some v->L[i]?=some u->v<=u/\0<=v:=λi v u h1 h2=>hle (i+1) v u (by simpa using h1) (by simpa using h2)
   simp only[List.length_cons,Nat.add_right_cancel_iff]at hl
   simp only[Qdn,List.map_cons,List.sum_cons]
   by_cases hkl:K=L
   ·subst hkl
    have:k≠l:=λh=>hne (by rw[h])
    omega
   ·have:=Qj9 hl ht hkl
    unfold Qdn at this
    omega
theorem Spread.sum {ts:List T3} {L K:List Int} (h:PreLab ts L) (s:Spread ts L K) (hne:K≠L):Qdn K<Qdn L :=
 Qj9 (by rw[s.len,h.len]) (λi v u h1 h2=>⟨s.low i i v u h1 (.inl rfl) h2,((h.spread s).con i v h1).1⟩) hne
theorem pre_id (ts:List T3):PreLab ts ((List.range ts.length).map λ(j:Nat)=>(j:Int)) where
 len:=by simp
 con i v hv:=by
  rw[qp,qa]at hv
  obtain⟨j,hj,rfl⟩:=hv
  obtain⟨h1,h2⟩:=q8.1 hj
  simp at h1 h2
  subst h2
  exact⟨by omega,by omega,by rw[Int.toNat_natCast];exact .refl h1⟩
def Yq (n:Int) (Q:List (P2 × Int)) (e:P2):Int:=Q.foldl (λa p=>if p.1=e then min a p.2 else a) n
theorem Qeq (n:Int) (Q:List (P2 × Int)) (p:P2 × Int) (e:P2):Yq n (Q++[p]) e=if e=p.1 then min (Yq n Q e) p.2 else Yq n Q e:=by
 unfold Yq
 rw[List.foldl_append]
 simp only[List.foldl_cons,List.foldl_nil]
 by_cases h:e=p.1
 ·rw[if_pos h,if_pos h.symm]
 ·rw[if_neg h,if_neg (λhh=>h hh.symm)]
theorem Q9i (n:Int) (Q:List (P2 × Int)) (e:P2):(Yq n Q e=n∨∃p∈Q,p.1=e/\p.2=Yq n Q e)/\∀p∈Q,p.1=e->Yq n Q e<=p.2:=by
 have key:∀k,k<=Q.length->((Yq n (Q.take k) e=n∨∃p∈Q.take k,p.1=e/\p.2=Yq n (Q.take k) e)/\∀p∈Q.take k,p.1=e->Yq n (Q.take k) e<=p.2)/\Yq n (Q.take k) e<=n:=by
  intro k
  induction k with
  | zero=>intro _;exact⟨⟨.inl rfl,by simp⟩,Int.le_refl _⟩
  | succ k ih =>
    intro hk
    obtain⟨⟨h1,h2⟩,h3⟩:=ih (by omega)
    have hp:Q[k]?=some Q[k]:=q9 (by omega)
    rw[Qa hp,Qeq]
    generalize Q[k]=q at *
    by_cases h:e=q.1
    ·rw[if_pos h]
     refine⟨⟨?_,λp hpm hpe=>?_⟩,by omega⟩
     ·by_cases hle:Yq n (Q.take k) e<=q.2
      ·rw[Int.min_eq_left hle]
       rcases h1 with h1 | ⟨p,hpm,h4⟩
       ·exact .inl h1
       ·exact .inr ⟨p,qg.2 (.inl hpm),h4⟩
      ·rw[Int.min_eq_right (by omega)]
       exact .inr ⟨q,qg.2 (.inr (by simp)),h.symm,rfl⟩
     ·rcases qg.1 hpm with hh | hh
      ·have:=h2 p hh hpe;omega
      ·simp at hh;subst hh;omega
    ·rw[if_neg h]
     refine⟨⟨?_,λp hpm hpe=>?_⟩,h3⟩
     ·rcases h1 with h1 | ⟨p,hpm,h4⟩
      ·exact .inl h1
      ·exact .inr ⟨p,qg.2 (.inl hpm),h4⟩
     ·rcases qg.1 hpm with hh | hh
      ·exact h2 p hh hpe
      ·simp at hh;subst hh;exact absurd hpe.symm h
 have:=(key Q.length (Nat.le_refl _)).1
 rwa [qi]at this
def lAt (L:List Int) (i:Nat):Int:=(L[i]?).getD 0
def tAt (ts:List T3) (i:Nat):T3:=(ts[i]?).getD ⟨0,0,0⟩
def I8 (ts:List T3) (L:List Int) (k:Nat):List (P2 × Int):=(List.range k).flatMap λi=>(Q8 (tAt ts i)).map λe=>(e.und,lAt L i)
def Bs (g:P2->Int) (l:List P2) (v:Int):Int:=l.foldl (λa e=>min a (g e.und)) v
theorem Qm6 (g:P2->Int) (l:List P2) (e:P2) (v:Int):Bs g (l++[e]) v=min (Bs g l v) (g e.und):=by unfold Bs;rw[List.foldl_append];rfl
theorem Qjn (g:P2->Int) (l:List P2) (v:Int):(Bs g l v=v∨∃e∈l,g e.und=Bs g l v)/\Bs g l v<=v/\∀e∈l,Bs g l v<=g e.und:=by
 refine Q46 (p:=λl=>(Bs g l v=v∨∃e∈l,g e.und=Bs g l v)/\Bs g l v<=v/\∀e∈l,Bs g l v<=g e.und) ?_ ?_ l
 ·exact⟨.inl rfl,Int.le_refl _,by simp⟩
 ·rintro E x ⟨h1,h2,h3⟩
  rw[Qm6]
  refine⟨?_,by omega,λe he=>?_⟩
  ·by_cases hle:Bs g E v<=g x.und
   ·rw[Int.min_eq_left hle]
    rcases h1 with h1 | ⟨e,he,h4⟩
    ·exact .inl h1
    ·exact .inr ⟨e,by simp[he],h4⟩
   ·rw[Int.min_eq_right (by omega)]
    exact .inr ⟨x,by simp,rfl⟩
  ·rcases qg.1 he with h | h
   ·have:=h3 e h;omega
   ·simp at h;subst h;omega
def gOf (ts:List T3) (L:List Int):P2->Int:=Yq L.length (I8 ts L ts.length)
def Qla (ts:List T3) (L:List Int) (k:Nat):List Int:=(List.range k).map λi=>Bs (gOf ts L) (Q8 (tAt ts i)) (lAt L i)
theorem Qp2 (ts:List T3) (L:List Int) (k:Nat):(Qla ts L k).length=k:=by simp[Qla]
theorem pairs_mem {ts:List T3} {L:List Int} {k:Nat} {p:P2 × Int}:p∈I8 ts L k↔∃i<k,∃e∈Q8 (tAt ts i),p=(e.und,lAt L i):=by
 unfold I8
 rw[jq]
 constructor
 ·rintro⟨i,hi,h⟩
  obtain⟨e,he,rfl⟩:=qo.1 h
  exact⟨i,qz.1 hi,e,he,rfl⟩
 ·rintro⟨i,hi,e,he,rfl⟩
  exact⟨i,qz.2 hi,qo.2 ⟨e,he,rfl⟩⟩
theorem Qah {ts:List T3} {L:List Int} (h:PreLab ts L):Spread ts L (Qla ts L ts.length):=by
 have hget:∀i v,(Qla ts L ts.length)[i]?=some v->i<ts.length/\v=Bs (gOf ts L) (Q8 (tAt ts i)) (lAt L i):=by
  intro i v hv
  unfold Qla at hv
  rw[qp,qa]at hv
  obtain⟨j,hj,rfl⟩:=hv
  obtain⟨h1,h2⟩:=q8.1 hj
  simp at h1 h2
  subst h2
  exact⟨h1,rfl⟩
 have hL:∀i,i<ts.length->L[i]?=some (lAt L i):=λi hi=>by
  unfold lAt;rw[q9 (by rw[h.len];exact hi)];rfl
 have hT:∀i,i<ts.length->ts[i]?=some (tAt ts i):=λi hi=>by
  unfold tAt;rw[q9 hi];rfl
 have hadj:∀i j e e',i<ts.length->j<ts.length->e∈Q8 (tAt ts i)->e'∈Q8 (tAt ts j)->e.und=e'.und->near ts i j:=λi j e e' hi hj he he' hu =>
  .inr ⟨_,_,hT i hi,hT j hj,e,he,e',he',hu⟩
 refine⟨Qp2 _ _ _,λi v hv=>?_,λi j v u hv hn hu=>?_⟩
 ·obtain⟨hi,rfl⟩:=hget i v hv
  obtain⟨m1,m2,m3⟩:=Qjn (gOf ts L) (Q8 (tAt ts i)) (lAt L i)
  rcases m1 with m1 | ⟨e,he,m1⟩
  ·exact⟨i,.inl rfl,by rw[m1];exact hL i hi⟩
  ·obtain⟨l1,l2⟩:=Q9i L.length (I8 ts L ts.length) e.und
   rcases l1 with l1 | ⟨p,hp,l1,l3⟩
   ·exfalso
    have h1:=l2 (e.und,lAt L i) (pairs_mem.2 ⟨i,hi,e,he,rfl⟩) rfl
    have h2:=(h.con i _ (hL i hi)).2.1
    have h3:=h.len
    simp only at h1
    omega
   ·obtain⟨j,hj,e',he',rfl⟩:=pairs_mem.1 hp
    refine⟨j,hadj i j e e' hi hj he he' l1.symm,?_⟩
    rw[<- m1]
    show L[j]?=some (Yq L.length (I8 ts L ts.length) e.und)
    rw[<- l3]
    exact hL j hj
 ·obtain⟨hi,rfl⟩:=hget i v hv
  obtain⟨m1,m2,m3⟩:=Qjn (gOf ts L) (Q8 (tAt ts i)) (lAt L i)
  rcases hn with rfl | ⟨s,t,hs,ht,a,ha,b,hb,hab⟩
  ·rw[hL _ hi]at hu
   obtain rfl:=Option.some.inj hu
   exact m2
  ·have hj:=(q8.1 ht).1
   rw[hT i hi]at hs
   rw[hT j hj]at ht
   obtain rfl:=Option.some.inj hs
   obtain rfl:=Option.some.inj ht
   rw[hL j hj]at hu
   obtain rfl:=Option.some.inj hu
   have h1:=m3 a ha
   have h2:=(Q9i L.length (I8 ts L ts.length) a.und).2 (b.und,lAt L j) (pairs_mem.2 ⟨j,hj,b,hb,rfl⟩) hab.symm
   have h3:gOf ts L a.und=Yq L.length (I8 ts L ts.length) a.und:=rfl
   simp only at h2
   omega
theorem Qbn (ts:List T3):∃L,IsLab ts L:=by
 have key:∀(n:Nat) (L:List Int),PreLab ts L->Qdn L<n->∃K,IsLab ts K:=by
  intro n
  induction n with
  | zero=>intro L _ h;omega
  | succ n ih =>
    intro L hL hn
    by_cases h:Qla ts L ts.length=L
    ·exact⟨L,Spread.fix hL (by have:=Qah hL;rwa [h]at this)⟩
    ·have:=(Qah hL).sum hL h
     exact ih _ (hL.spread (Qah hL)) (by omega)
 exact key (Qdn ((List.range ts.length).map λ(j:Nat)=>(j:Int))+1) _ (pre_id ts) (by omega)
theorem IsLab.conn_iff {ts:List T3} {L:List Int} (h:IsLab ts L) {i j:Nat} (hi:i<ts.length) (hj:j<ts.length):Conn ts i j↔L[i]?=L[j]?:=by
 constructor
 ·exact h.conn
 ·intro he
  have h1:L[i]?=some (L[i]'(by rw[h.len];exact hi)):=q9 _
  have h2:=h1
  rw[he]at h2
  exact((h.con i _ h1).2.2).trans ((h.con j _ h2).2.2).symm
def usL (Q:List (P2 × Int)) (e:P2):List Int:=(Q.filter λp=>decide (p.1=e)).map Prod.snd
theorem Kl (Q:List (P2 × Int)) (p:P2 × Int) (e:P2):usL (Q++[p]) e=if p.1=e then usL Q e++[p.2] else usL Q e:=by
 unfold usL
 rw[List.filter_append,qx]
 by_cases h:p.1=e<;>simp[h]
theorem mem_usL {Q:List (P2 × Int)} {e:P2} {v:Int}:v∈usL Q e↔(e,v)∈Q:=by
 unfold usL
 rw[qo]
 constructor
 ·rintro⟨p,hp,rfl⟩
  have h:=qu.1 hp
  have h2:p.1=e:=by simpa using h.2
  subst h2;exact h.1
 ·intro h
  exact⟨(e,v),qu.2 ⟨h,by simp⟩,rfl⟩
theorem Qj5 (Q:List (P2 × Int)) (e:P2):(usL Q e).length<=Q.length:=by
 unfold usL;rw[List.length_map];exact jc _ _
def B1 (ts:List T3) (k:Nat):List (P2 × Int):=(List.range k).flatMap λi=>(Q8 (tAt ts i)).map λe=>(e.und,(i:Int))
theorem Qa0 (ts:List T3) (k:Nat):B1 ts (k+1)=B1 ts k++(Q8 (tAt ts k)).map λe=>(e.und,(k:Int)):=by
 unfold B1;rw[List.range_succ,List.flatMap_append];simp
theorem Qfx (ts:List T3) (k:Nat):(B1 ts k).length<=3*k:=by
 induction k with
 | zero=>simp[B1]
 | succ k ih =>
   rw[Qa0,j7,List.length_map]
   have:(Q8 (tAt ts k)).length<=3:=Xi _ 3
   omega
theorem Zr {ts:List T3} {i:Nat} (h:i<ts.length):ts[i]?=some (tAt ts i):=by unfold tAt;rw[q9 h];rfl
theorem mem_allP {ts:List T3} {e:P2} {v:Int}:(e,v)∈B1 ts ts.length↔∃j,j<ts.length/\v=(j:Int)/\∃a∈Q8 (tAt ts j),a.und=e:=by
 unfold B1
 rw[jq]
 constructor
 ·rintro⟨j,hj,h⟩
  obtain⟨a,ha,h2⟩:=qo.1 h
  simp only[Prod.mk.injEq]at h2
  exact⟨j,qz.1 hj,h2.2.symm,a,ha,h2.1⟩
 ·rintro⟨j,hj,rfl,a,ha,rfl⟩
  exact⟨j,qz.2 hj,qo.2 ⟨a,ha,rfl⟩⟩
theorem adj_us {ts:List T3} {i j:Nat} (hi:i<ts.length):adjI ts i j↔∃e∈Q8 (tAt ts i),(j:Int)∈usL (B1 ts ts.length) e.und:=by
 constructor
 ·rintro⟨s,t,hs,ht,a,ha,b,hb,hab⟩
  have hj:=(q8.1 ht).1
  rw[Zr hi]at hs
  rw[Zr hj]at ht
  obtain rfl:=Option.some.inj hs
  obtain rfl:=Option.some.inj ht
  exact⟨a,ha,mem_usL.2 (mem_allP.2 ⟨j,hj,rfl,b,hb,hab.symm⟩)⟩
 ·rintro⟨a,ha,h⟩
  obtain⟨j',hj,hjj,b,hb,hab⟩:=mem_allP.1 (mem_usL.1 h)
  obtain rfl:j=j':=by omega
  exact⟨_,_,Zr hi,Zr hj,a,ha,b,hb,hab.symm⟩
structure Part (ts:List T3) (D S:List Int) (i:Nat):Prop where
 nodup:(D++S).Nodup
 mem:∀v∈S,0<=v/\Conn ts i v.toNat
 start:(i:Int)∈S
structure Old (ts:List T3) (L:List Int) (D:List Int) (i:Nat):Prop where
 nodup:D.Nodup
 iff:∀v:Int,v∈D↔∃j:Nat,v=(j:Int)/\j<ts.length/\∃u,L[j]?=some u/\u<i
theorem Part.one {ts:List T3} {L D:List Int} {i:Nat} (h:Old ts L D i) (hi:i<ts.length) (hn:(i:Int)∉D):Part ts D [(i:Int)] i:=by
 refine⟨?_,λv hv=>?_,by simp⟩
 ·rw[List.nodup_append]
  exact⟨h.nodup,by simp,λa ha b hb=>by simp at hb;subst hb;rintro rfl;exact hn ha⟩
 ·simp at hv;subst hv
  exact⟨by omega,by rw[Int.toNat_natCast];exact .refl hi⟩
theorem Part.add {ts:List T3} {D S:List Int} {i:Nat} (h:Part ts D S i) {v u:Int} (hv:v∈S) (hu:0<=u) (hadj:adjI ts v.toNat u.toNat) (hn:u∉D++S):Part ts D (S++[u]) i:=by
 refine⟨?_,λw hw=>?_,by simp[h.start]⟩
 ·rw[<- j6,List.nodup_append]
  exact⟨h.nodup,by simp,λa ha b hb=>by simp at hb;subst hb;rintro rfl;exact hn ha⟩
 ·rcases qg.1 hw with h1 | h1
  ·exact h.mem w h1
  ·simp at h1;subst h1
   exact⟨hu,.tail (h.mem v hv).2 hadj⟩
theorem Part.all {ts:List T3} {L D S:List Int} {i:Nat} (hL:IsLab ts L) (hD:Old ts L D i) (h:Part ts D S i) (hi:i<ts.length) (hLi:L[i]?=some (i:Int))
  (hc:∀v∈S,∀j:Nat,adjI ts v.toNat j->(j:Int)∈D++S):∀v:Int,v∈S↔v∈shK L i ts.length:=by
 have hnd:∀j:Nat,Conn ts i j->(j:Int)∉D:=by
  intro j hj hd
  obtain⟨j',h1,h2,u,h3,h4⟩:=(hD.iff _).1 hd
  obtain rfl:j=j':=by omega
  have:=hL.conn hj
  rw[hLi,h3]at this
  have:=Option.some.inj this
  omega
 have hclo:∀j,Conn ts i j->(j:Int)∈S:=by
  intro j hj
  generalize hii:i=i' at hj
  induction hj with
  | refl _=>subst hii;exact h.start
  | tail h1 h2 ih =>
    subst hii
    have:=hc _ ih _ (by rw[Int.toNat_natCast];exact h2)
    rcases qg.1 this with h3 | h3
    ·exact absurd h3 (hnd _ (.tail h1 h2))
    ·exact h3
 intro v
 unfold shK
 rw[qo]
 constructor
 ·intro hv
  obtain⟨h1,h2⟩:=h.mem v hv
  have hlt:=h2.lt.2
  refine⟨v.toNat,qu.2 ⟨qz.2 hlt,?_⟩,by omega⟩
  have:=hL.conn h2
  rw[hLi]at this
  simpa using this.symm
 ·rintro⟨j,hj,rfl⟩
  have hf:=qu.1 hj
  have hjl:=qz.1 hf.1
  have hLj:L[j]?=some (i:Int):=by simpa using hf.2
  exact hclo j ((hL.conn_iff hi hjl).2 (by rw[hLi,hLj]))
theorem Qp4 {L S:List Int} {i n:Nat} (hn:S.Nodup) (hm:∀v:Int,v∈S↔v∈shK L i n):Zt S=shK L i n:=by
 have hsh:(shK L i n).Pairwise λa b=>a<b:=by
  unfold shK
  rw[ji]
  have h1:(List.range n).Pairwise (λa b:Nat=>a<b):=List.pairwise_lt_range
  exact(h1.filter _).imp λ{a b:Nat} (h:a<b)=>by show (a:Int)<(b:Int);omega
 have hso:(Zt S).Pairwise λa b=>a<=b:=by
  have:=List.pairwise_mergeSort (le:=λx y:Int=>decide (x<=y)) (λa b c h1 h2=>by simp at *;omega) (λa b=>by simp;omega) S
  exact this.imp λ{a b} h=>by simpa using h
 have hp:(Zt S).Perm S:=List.mergeSort_perm _ _
 have hnd:(Zt S).Nodup:=hp.nodup_iff.2 hn
 have hlt:(Zt S).Pairwise λa b=>a<b:=by
  rw[List.nodup_iff_pairwise_ne]at hnd
  exact(hso.and hnd).imp λ{a b} h=>by obtain⟨h1,h2⟩:=h;omega
 have hmm:∀v,v∈Zt S↔v∈shK L i n:=λv=>by rw[hp.mem_iff,hm]
 generalize Zt S=A at *
 generalize shK L i n=B at *
 clear hp hnd hso hm hn
 induction A generalizing B with
 | nil =>
   cases B with
   | nil=>rfl
   | cons b B=>have:=(hmm b).2 (by simp);simp at this
 | cons a A ih =>
   cases B with
   | nil=>have:=(hmm a).1 (by simp);simp at this
   | cons b B =>
     obtain⟨a1,a2⟩:=jd.1 hlt
     obtain⟨b1,b2⟩:=jd.1 hsh
     have hab:a=b:=by
      rcases List.mem_cons.1 ((hmm a).1 (by simp)) with h | h
      ·exact h
      ·rcases List.mem_cons.1 ((hmm b).2 (by simp)) with h' | h'
       ·exact h'.symm
       ·have:=b1 a h
        have:=a1 b h'
        omega
     subst hab
     rw[ih a2 B b2 λv=>?_]
     constructor
     ·intro hv
      rcases List.mem_cons.1 ((hmm v).1 (by simp[hv])) with h | h
      ·subst h;have:=a1 v hv;omega
      ·exact h
     ·intro hv
      rcases List.mem_cons.1 ((hmm v).2 (by simp[hv])) with h | h
      ·subst h;have:=b1 v hv;omega
      ·exact h
theorem Old.next {ts:List T3} {L D S:List Int} {i:Nat} (hL:IsLab ts L) (hD:Old ts L D i) (h:(D++S).Nodup) (hS:∀v:Int,v∈S↔v∈shK L i ts.length):Old ts L (D++S) (i+1) where
 nodup:=h
 iff v:=by
  rw[qg,hD.iff,hS]
  unfold shK
  rw[qo]
  constructor
  ·rintro (⟨j,h1,h2,u,h3,h4⟩ | ⟨j,hj,rfl⟩)
   ·exact⟨j,h1,h2,u,h3,by omega⟩
   ·have hf:=qu.1 hj
    exact⟨j,rfl,qz.1 hf.1,i,by simpa using hf.2,by omega⟩
  ·rintro⟨j,rfl,h2,u,h3,h4⟩
   by_cases hu:u<i
   ·exact .inl ⟨j,rfl,h2,u,h3,hu⟩
   ·have:u=i:=by omega
    subst this
    exact .inr ⟨j,qu.2 ⟨qz.2 h2,by simpa using h3⟩,rfl⟩
theorem Old.skip {ts:List T3} {L D:List Int} {i:Nat} (hL:IsLab ts L) (hD:Old ts L D i) (hd:(i:Int)∈D):Old ts L D (i+1)/\L[i]? ≠ some (i:Int):=by
 obtain⟨j,h1,h2,u,h3,h4⟩:=(hD.iff _).1 hd
 obtain rfl:i=j:=by omega
 have hne:L[i]? ≠ some (i:Int):=by rw[h3];intro hh;have:=Option.some.inj hh;omega
 refine⟨⟨hD.nodup,λv=>?_⟩,hne⟩
 rw[hD.iff]
 constructor
 ·rintro⟨j,k1,k2,w,k3,k4⟩;exact⟨j,k1,k2,w,k3,by omega⟩
 ·rintro⟨j,k1,k2,w,k3,k4⟩
  refine⟨j,k1,k2,w,k3,?_⟩
  refine jb λhw=>?_
  have hwi:w=i:=by omega
  subst hwi
  have:=hL.conn ((hL.con j _ k3).2.2)
  rw[k3,Int.toNat_natCast]at this
  exact hne this.symm
theorem Old.own {ts:List T3} {L D:List Int} {i:Nat} (hL:IsLab ts L) (hD:Old ts L D i) (hi:i<ts.length) (hd:(i:Int)∉D):L[i]?=some (i:Int):=by
 have h1:L[i]?=some (L[i]'(by rw[hL.len];exact hi)):=q9 _
 generalize L[i]'(by rw[hL.len];exact hi)=u at h1
 have h2:=(hL.con i u h1).2.1
 by_cases h:u=i
 ·rw[h1,h]
 ·exact absurd ((hD.iff _).2 ⟨i,rfl,hi,u,h1,by omega⟩) hd
def evU (p:Nat × Nat):V:=.own (p.1+2) p.2 0 p.2
structure UM (hx:List O) (KJ:List (P2 × (Nat × Nat))) (Q:List (P2 × Int)):Prop where
 val:∀(i:Nat) (k:P2) (j n:Nat),KJ[i]?=some (k,(j,n))->n=(usL Q k).length/\hx[j]?=some (.arr n 1 (ics (usL Q k)))
 dis:∀(i i':Nat) (k k':P2) (j n n':Nat),KJ[i]?=some (k,(j,n))->KJ[i']?=some (k',(j,n'))->i=i'
 key:(KJ.map Prod.fst).Nodup
 none:∀e,Zc e KJ=none->usL Q e=[]
theorem UM.nil:UM [] [] []:=⟨by simp,by simp,by simp,by simp[usL]⟩
theorem UM.app {hx:List O} {KJ:List (P2 × (Nat × Nat))} {Q:List (P2 × Int)} (h:UM hx KJ Q) (l:List O):UM (hx++l) KJ Q :=
 ⟨λi k j n hi=>by obtain⟨h1,h2⟩:=h.val i k j n hi;exact⟨h1,by rw[qd (q8.1 h2).1];exact h2⟩,h.dis,h.key,h.none⟩
theorem UM.new {hx:List O} {KJ:List (P2 × (Nat × Nat))} {Q:List (P2 × Int)} (h:UM hx KJ Q) {e:P2} {v:Int} (he:Zc e KJ=Option.none) {l:List O} {j0:Nat} (hj:hx.length<=j0) (ho:(hx++l)[j0]?=some (.arr 1 1 (ics [v]))) :
  UM (hx++l) (KJ++[(e,(j0,1))]) (Q++[(e,v)]):=by
 have hn:=h.none e he
 have hk:=fndG_none.1 he
 have hval:∀(i:Nat) (k:P2) (j n:Nat),(KJ++[(e,(j0,1))])[i]?=some (k,(j,n))->(i<KJ.length/\KJ[i]?=some (k,(j,n))/\k≠e/\j<hx.length)∨(i=KJ.length/\k=e/\j=j0/\n=1):=by
  intro i k j n hi
  by_cases hl:i<KJ.length
  ·rw[qd hl]at hi
   refine .inl ⟨hl,hi,?_,(q8.1 (h.val i k j n hi).2).1⟩
   rintro rfl
   exact hk (qo.2 ⟨_,qb hi,rfl⟩)
  ·rw[qf (by omega)]at hi
   have h0:i-KJ.length=0:=by
    have:=(q8.1 hi).1
    simp at this;omega
   rw[h0]at hi
   simp at hi
   exact .inr ⟨by omega,hi.1.symm,hi.2.1.symm,hi.2.2.symm⟩
 refine⟨λi k j n hi=>?_,λi i' k k' j n n' h1 h2=>?_,?_,λa ha=>?_⟩
 ·rcases hval i k j n hi with⟨_,h1,h2,_⟩ | ⟨_,rfl,rfl,rfl⟩
  ·have:=(h.app l).val i k j n h1
   rw[Kl,if_neg (λhh=>h2 hh.symm)]
   exact this
  ·rw[Kl,if_pos rfl,hn]
   exact⟨rfl,ho⟩
 ·rcases hval i k j n h1 with⟨_,a1,_,a2⟩ | ⟨a1,_,a2,_⟩<;>rcases hval i' k' j n' h2 with⟨_,b1,_,b2⟩ | ⟨b1,_,b2,_⟩
  ·exact h.dis i i' k k' j n n' a1 b1
  ·omega
  ·omega
  ·omega
 ·rw[qx,List.nodup_append]
  exact⟨h.key,by simp,λa ha b hb=>by simp at hb;subst hb;rintro rfl;exact hk ha⟩
 ·have hne:a≠e:=by
   rintro rfl
   rw[U9 he,if_pos rfl]at ha;simp at ha
  rw[U9 he,if_neg hne]at ha
  rw[Kl,if_neg (λhh=>hne hh.symm)]
  exact h.none a ha
theorem UM.old {hx:List O} {KJ:List (P2 × (Nat × Nat))} {Q:List (P2 × Int)} (h:UM hx KJ Q) {e:P2} {v:Int} {p j n:Nat} (he:Zc e KJ=some (p,(j,n))) :
  UM (hx.set j (.arr (n+1) 1 (ics (usL Q e)++[[.i .i64 v]]))) (KJ.set p (e,(j,n+1))) (Q++[(e,v)]):=by
 have hp:=Zx he
 have hpl:=(q8.1 hp).1
 obtain⟨hn,hj⟩:=h.val p e j n hp
 have hjl:=(q8.1 hj).1
 have hval:∀(i:Nat) (k:P2) (j' n':Nat),(KJ.set p (e,(j,n+1)))[i]?=some (k,(j',n'))->(i≠p/\KJ[i]?=some (k,(j',n'))/\k≠e/\j'≠j)∨(i=p/\k=e/\j'=j/\n'=n+1):=by
  intro i k j' n' hi
  by_cases hip:p=i
  ·subst hip
   rw[qm hpl]at hi
   simp at hi
   exact .inr ⟨rfl,hi.1.symm,hi.2.1.symm,hi.2.2.symm⟩
  ·rw[qt hip]at hi
   refine .inl ⟨λhh=>hip hh.symm,hi,?_,?_⟩
   ·rintro rfl
    have:=Yv h.key hi
    rw[he]at this
    simp at this
    exact hip this.1
   ·rintro rfl
    exact hip (h.dis p i _ _ _ _ _ hp hi)
 refine⟨λi k j' n' hi=>?_,λi i' k k' j' n1 n2 h1 h2=>?_,?_,λa ha=>?_⟩
 ·rcases hval i k j' n' hi with⟨_,h1,h2,h3⟩ | ⟨rfl,rfl,rfl,rfl⟩
  ·rw[Kl,if_neg (λhh=>h2 hh.symm),qt (λhh=>h3 hh.symm)]
   exact h.val i k j' n' h1
  ·rw[Kl,if_pos rfl,qm hjl]
   exact⟨by rw[hn];simp,by simp[ics]⟩
 ·rcases hval i k j' n1 h1 with⟨a0,a1,_,a2⟩ | ⟨a1,_,a2,_⟩<;>rcases hval i' k' j' n2 h2 with⟨b0,b1,_,b2⟩ | ⟨b1,_,b2,_⟩
  ·exact h.dis i i' k k' j' n1 n2 a1 b1
  ·exact absurd b2 a2
  ·exact absurd a2 b2
  ·omega
 ·have:(KJ.set p (e,(j,n+1))).map Prod.fst=KJ.map Prod.fst:=by
   rw[List.map_set]
   apply qy
   intro i
   by_cases hi:p=i
   ·subst hi
    rw[qm (by simpa using hpl),qp,hp];rfl
   ·rw[qt hi]
  rw[this];exact h.key
 ·rw[Q00 he]at ha
  split at ha
  ·simp at ha
  ·rename_i hne
   rw[Kl,if_neg (λhh=>hne hh.symm)]
   exact h.none a ha
theorem UM.cl {hx:List O} {KJ:List (P2 × (Nat × Nat))} {Q:List (P2 × Int)} (h:UM hx KJ Q) {N:Nat} (hN:hx.length+2<=N):∀e∈KJ.map (asG P2.enc evU),e.1.cl N=true/\e.2.cl N=true:=by
 intro x hx'
 obtain⟨⟨k,j,n⟩,hm,rfl⟩:=qo.1 hx'
 obtain⟨i,hi⟩:=qq hm
 have:=(q8.1 (h.val i k j n hi).2).1
 refine⟨?_,?_⟩
 ·simp[asG,P2.enc,P2.cs,V.cl,V.cl1,V.cl0]
 ·simp[asG,evU,V.cl,V.cl1,V.cl0];omega
theorem Flt.set {hx:List O} (h:Flt hx) {j:Nat} {o:O} (ho:∀n,o.cl n):Flt (hx.set j o):=λx hx' n=>by
 rcases List.mem_or_eq_of_mem_set hx' with h1 | rfl
 ·exact h x h1 n
 ·exact ho n
theorem lsV_nil:Le .nil (lsV []):=.inl (.inl (Le0.nil 1))
end Go.Abs
