/- Part of the library on which the proof stands: an abstract machine, its values and its soundness against the model; or what functions of the program do to such values. -/
import Derived.Test.YtcdjgldeiaiaoaaGreatGoQd
import Derived.Test.YtcdjgldeiaiaoaaGreatGoQe
import Derived.Test.YtcdjgldeiaiaoaaGreatGoOriD
set_option linter.unusedVariables false
set_option linter.unusedSimpArgs false
namespace Go.Abs
def Bv (a b:T3):Bool:=(Q2 a).any λx=>(Q2 b).any λy=>decide (x=y)
def oppB (a b:T3):Bool:=(Q2 a).any λx=>(Q2 b).any λy=>decide (x=y.rev)
theorem sameB_iff {a b:T3}:Bv a b=true↔∃e∈Q2 a,e∈Q2 b:=by
 unfold Bv
 simp only[List.any_eq_true,decide_eq_true_eq]
 constructor
 ·rintro⟨x,hx,y,hy,rfl⟩;exact⟨x,hx,hy⟩
 ·rintro⟨x,hx,hy⟩;exact⟨x,hx,x,hy,rfl⟩
theorem oppB_iff {a b:T3}:oppB a b=true↔∃e∈Q2 a,e.rev∈Q2 b:=by
 unfold oppB
 simp only[List.any_eq_true,decide_eq_true_eq]
 constructor
 ·rintro⟨x,hx,y,hy,rfl⟩;exact⟨y.rev,hx,hy⟩
 ·rintro⟨x,hx,hy⟩;exact⟨x,hx,x.rev,hy,rfl⟩
theorem both_adj {ts us:List T3} (h:Fl ts us) {i j:Nat} (hi:i<ts.length) (hj:j<ts.length):(Bv (tAt us i) (tAt us j) || oppB (tAt us i) (tAt us j))=true↔adjI ts i j:=by
 rw[Bool.or_eq_true,sameB_iff,oppB_iff]
 constructor
 ·intro hh
  refine h.symm.adj ?_
  rcases hh with⟨e,h1,h2⟩ | ⟨e,h1,h2⟩
  ·exact Wm (by rw[h.len];exact hi) (by rw[h.len];exact hj) h1 h2 rfl
  ·exact Wm (by rw[h.len];exact hi) (by rw[h.len];exact hj) h1 h2 (Bx e).symm
 ·intro hh
  obtain⟨_,_,a,ha,b,hb,hab⟩:=adj_edge (h.adj hh)
  rcases und_two hab with rfl | rfl
  ·exact .inl ⟨a,ha,hb⟩
  ·exact .inr ⟨b.rev,ha,hb⟩
theorem OrI.bad {ts us:List T3} {L X:List Int} {n:Nat} (h:OrI ts us L X n) {k:Nat} (hk:k<ts.length) (hno:∀vs,¬ Good ts vs L):OrI ts us L (X++[(k:Int)]) n :=
 ⟨h.fl,λi hi hn=>h.new i hi λhh=>hn (mem_snoc.2 (.inl hh)),h.first,by have:=h.num;simp;omega,λvs hv=>absurd hv (hno vs)⟩
theorem OrI.spread {ts us:List T3} {L X:List Int} {n:Nat} (h:OrI ts us L X n) {i k:Nat} (hi:i<ts.length) (hk:k<ts.length) (hix:(i:Int)∈X) (hx:(k:Int)∉X) (hLk:L[k]? ≠ some (k:Int))
  (hb:(Bv (tAt us i) (tAt us k) || oppB (tAt us i) (tAt us k))=true) :
  ∃n',OrI ts (if (Bv (tAt us i) (tAt us k) && !oppB (tAt us i) (tAt us k))=true then us.set k (tAt us k).rev else us) L (X++[(k:Int)]) n':=by
 cases hs:Bv (tAt us i) (tAt us k)<;>cases ho:oppB (tAt us i) (tAt us k)
 ·rw[hs,ho]at hb;simp at hb
 ·rw[if_neg (by simp)]
  obtain⟨e,h1,h2⟩:=oppB_iff.1 ho
  refine⟨n,h.keep hi hk hix hx h1 (λhh=>?_) (b:=e.rev) (by rw[<- h.new k hk hx];exact h2) (Bx e)⟩
  rw[sameB_iff.2 ⟨e,h1,hh⟩]at hs
  simp at hs
 ·rw[if_pos (by simp)]
  obtain⟨e,h1,h2⟩:=sameB_iff.1 hs
  exact⟨n+1,h.turn hi hk hix hx hLk h1 h2⟩
 ·rw[if_neg (by simp)]
  refine⟨n,h.bad hk λvs hv=>?_⟩
  obtain⟨h1,_⟩:=h.good vs hv
  obtain⟨e,e1,e2⟩:=sameB_iff.1 hs
  obtain⟨e',e3,e4⟩:=oppB_iff.1 ho
  have hvi:=h1 i hi hix
  have hvl:=hv.fl.len
  have huk:=h.new k hk hx
  rcases hv.fl.tat hk with h3 | h3
  ·have hik:=hv.coh i k e (by omega) (by omega) (by rw[<- hvi];exact e1) (by rw[h3,<- huk];exact e2)
   subst hik;exact hx hix
  ·have hik:=hv.coh i k e' (by omega) (by omega) (by rw[<- hvi];exact e3) (by rw[h3,mem_edges_rev,<- huk];exact e4)
   subst hik;exact hx hix
def dn (sh X:List Int):List (List V):=sh.map λv=>[.b (decide (v∈X))]
theorem dn_len (sh X:List Int):(dn sh X).length=sh.length:=by simp[dn]
theorem dn_get {sh X:List Int} {k:Nat} {v:Int} (h:sh[k]?=some v):(dn sh X)[k]?=some [.b (decide (v∈X))]:=by simp[dn,h]
theorem dn_none {sh X:List Int} (h:∀v∈sh,v∉X):List.replicate sh.length [V.b false]=dn sh X:=by
 unfold dn
 induction sh with
 | nil=>rfl
 | cons a l ih =>
   rw[List.length_cons,List.replicate_succ,List.map_cons,<- ih λv hv=>h v (by simp[hv])]
   have:=h a (by simp)
   simp[this]
theorem nodup_idxI {l:List Int} (hn:l.Nodup) {i j:Nat} {a:Int} (h1:l[i]?=some a) (h2:l[j]?=some a):i=j:=by
 obtain⟨a1,a2⟩:=List.getElem?_eq_some_iff.1 h1
 obtain⟨b1,b2⟩:=List.getElem?_eq_some_iff.1 h2
 rcases Nat.lt_trichotomy i j with h | h | h
 ·exact absurd (a2.trans b2.symm) (List.pairwise_iff_getElem.1 hn i j a1 b1 h)
 ·exact h
 ·exact absurd (b2.trans a2.symm) (List.pairwise_iff_getElem.1 hn j i b1 a1 h)
theorem dn_set {sh X:List Int} (hn:sh.Nodup) {k:Nat} {v:Int} (h:sh[k]?=some v):(dn sh X).set k [.b true]=dn sh (X++[v]):=by
 apply List.ext_getElem?
 intro i
 by_cases hi:k=i
 ·subst hi
  rw[List.getElem?_set_self (by rw[dn_len];exact(List.getElem?_eq_some_iff.1 h).1),dn_get h]
  simp
 ·rw[List.getElem?_set_ne hi]
  unfold dn
  rw[List.getElem?_map,List.getElem?_map]
  cases hw:sh[i]? with
  | none=>rfl
  | some w =>
    have hne:w≠v:=by
     rintro rfl
     exact hi (nodup_idxI hn h hw)
    simp[hne]
theorem dn_keep {sh X:List Int} {k:Nat} {v:Int} (h:sh[k]?=some v) (hv:v∉X):(dn sh X).set k [.b false]=dn sh X:=by
 apply List.ext_getElem?
 intro i
 by_cases hi:k=i
 ·subst hi
  rw[List.getElem?_set_self (by rw[dn_len];exact(List.getElem?_eq_some_iff.1 h).1),dn_get h]
  simp[hv]
 ·rw[List.getElem?_set_ne hi]
theorem Ea (sh X:List Int) (n:Nat):∀el∈dn sh X,∀x∈el,x.cl n=true:=by
 intro el hel x hx
 obtain⟨v,_,rfl⟩:=List.mem_map.1 hel
 simp at hx;subst hx;rfl
structure RI (ts us:List T3) (L X0 sh Y0 Y:List Int) (i k:Nat):Prop where
 ori:∃n,OrI ts us L (X0++Y) n
 nodup:Y.Nodup
 sub:∀v∈Y,v∈sh
 old:∀v∈Y0,v∈Y
 near:∀(i' k':Nat) (v w:Int),(i'<i∨(i'=i/\k'<k))->sh[i']?=some v->sh[k']?=some w->v∈Y0->adjI ts v.toNat w.toNat->w∈Y
theorem RI.row {ts us:List T3} {L X0 sh Y0 Y:List Int} {i:Nat} (h:RI ts us L X0 sh Y0 Y i sh.length):RI ts us L X0 sh Y0 Y (i+1) 0 :=
 ⟨h.ori,h.nodup,h.sub,h.old,λi' k' v w hik hv hw h0 ha=>by
  have hk:=(List.getElem?_eq_some_iff.1 hw).1
  exact h.near i' k' v w (by omega) hv hw h0 ha⟩
theorem RI.skip {ts us:List T3} {L X0 sh Y0 Y:List Int} {i k:Nat} (h:RI ts us L X0 sh Y0 Y i k) (hs:∀v w:Int,sh[i]?=some v->sh[k]?=some w->v∈Y0->adjI ts v.toNat w.toNat->w∈Y):RI ts us L X0 sh Y0 Y i (k+1) :=
 ⟨h.ori,h.nodup,h.sub,h.old,λi' k' v w hik hv hw h0 ha=>by
  by_cases hh:i'=i/\k'=k
  ·obtain⟨rfl,rfl⟩:=hh
   exact hs v w hv hw h0 ha
  ·exact h.near i' k' v w (by omega) hv hw h0 ha⟩
theorem RI.add {ts us us':List T3} {L X0 sh Y0 Y:List Int} {i k:Nat} {w:Int} (h:RI ts us L X0 sh Y0 Y i k) (hw:sh[k]?=some w) (hn:w∉Y) (ho:∃n,OrI ts us' L (X0++Y++[w]) n):RI ts us' L X0 sh Y0 (Y++[w]) i (k+1) :=
 ⟨by rwa [List.append_assoc]at ho,by
  rw[List.nodup_append]
  exact⟨h.nodup,by simp,λa ha b hb=>by simp at hb;subst hb;rintro rfl;exact hn ha⟩,λv hv=>by
  rcases List.mem_append.1 hv with hv | hv
  ·exact h.sub v hv
  ·simp at hv;subst hv;exact List.mem_of_getElem? hw,λv hv=>List.mem_append.2 (.inl (h.old v hv)),λi' k' v w' hik hv hw' h0 ha=>by
  by_cases hh:i'=i/\k'=k
  ·obtain⟨rfl,rfl⟩:=hh
   rw[hw]at hw'
   obtain rfl:=Option.some.inj hw'
   simp
  ·exact List.mem_append.2 (.inl (h.near i' k' v w' (by omega) hv hw' h0 ha))⟩
theorem RI.more {ts us:List T3} {L X0 sh Y0 Y:List Int} {q:Nat} (hL:IsLab ts L) (hsh:sh=shK L q ts.length) (hq:q<ts.length) (hLq:L[q]?=some (q:Int)) (hn0:Y0.Nodup) (hq0:(q:Int)∈Y0)
  (h:RI ts us L X0 sh Y0 Y sh.length 0):(∀w∈sh,w∈Y0)∨Y0.length+1<=Y.length:=by
 by_cases hall:∀w∈sh,w∈Y0
 ·exact .inl hall
 ·refine .inr ?_
  have hex:∃v w:Int,v∈Y0/\w∈sh/\w∉Y0/\adjI ts v.toNat w.toNat:=by
   refine Classical.byContradiction λhno=>hall λw hw=>?_
   have hmem:∀j:Nat,Conn ts q j->(j:Int)∈sh:=λj hj=>by
    rw[hsh]
    exact mem_shK2.2 ⟨j,rfl,hj.lt.2,by rw[<- hL.conn hj];exact hLq⟩
   have hclo:∀j:Nat,Conn ts q j->(j:Int)∈Y0:=by
    intro j hj
    induction hj with
    | refl _=>exact hq0
    | @tail a b h1 h2 ih =>
      refine Classical.byContradiction λhnb=>hno ⟨_,_,ih,hmem b (.tail h1 h2),hnb,by rw[Int.toNat_natCast,Int.toNat_natCast];exact h2⟩
   rw[hsh]at hw
   obtain⟨j,rfl,hj,hLj⟩:=mem_shK2.1 hw
   exact hclo j ((hL.conn_iff hq hj).2 (by rw[hLq,hLj]))
  obtain⟨v,w,hv,hw,hnw,ha⟩:=hex
  obtain⟨i',hi'⟩:=List.getElem?_of_mem (h.sub v (h.old v hv))
  obtain⟨k',hk'⟩:=List.getElem?_of_mem hw
  have hwY:=h.near i' k' v w (.inl (List.getElem?_eq_some_iff.1 hi').1) hi' hk' hv ha
  have:=K6 (A:=Y0++[w]) (B:=Y) (by
   rw[List.nodup_append]
   exact⟨hn0,by simp,λa ha0 b hb=>by simp at hb;subst hb;rintro rfl;exact hnw ha0⟩) (λa ha=>by
   rcases List.mem_append.1 ha with ha | ha
   ·exact h.old a ha
   ·simp at ha;subst ha;exact hwY)
  simpa using this
theorem full_of_len {Y sh:List Int} (hn:Y.Nodup) (hs:∀v∈Y,v∈sh) (hl:sh.length<=Y.length):∀w∈sh,w∈Y:=by
 intro w hw
 refine Decidable.byContradiction λhnw=>?_
 have:=K6 (A:=Y++[w]) (B:=sh) (by
  rw[List.nodup_append]
  exact⟨hn,by simp,λa ha b hb=>by simp at hb;subst hb;rintro rfl;exact hnw ha⟩) (λa ha=>by
  rcases List.mem_append.1 ha with ha | ha
  ·exact hs a ha
  ·simp at ha;subst ha;exact hw)
 simp at this
 omega
end Go.Abs
set_option linter.unusedVariables false
set_option linter.unusedSimpArgs false
namespace Go.Abs
def CommonC (P:Program) (f:FuncId):Prop:=∀a b:T3,CallIs P f [a.enc,b.enc] (.t [.b (Bv a b),.b (oppB a b)])
def SpreadOC (P:Program) (f:FuncId):Prop:=∀(ts us:List T3) (L X:List Int) (n q:Nat),IsLab ts L->OrI ts us L X n->q<ts.length->L[q]?=some (q:Int)->(∀v∈shK L q ts.length,v∉X)->ts.length<=4096 ->
 PureC P f [tsV us,isV (shK L q ts.length)] (λr=>∃us' n' X',r=tsV us'/\OrI ts us' L X' n'/\∀v,v∈X'↔v∈X∨v∈shK L q ts.length)
theorem any_snoc {α:Type} (l:List α) (x:α) (p:α->Bool):(l++[x]).any p=(l.any p || p x):=by simp
theorem shK_head {ts:List T3} {L:List Int} (h:IsLab ts L) {q n:Nat} (hq:q<n) (hLq:L[q]?=some (q:Int)):(shK L q n)[0]?=some (q:Int):=by
 have key:∀d,∃r,shK L q (q+1+d)=(q:Int)::r:=by
  intro d
  induction d with
  | zero=>exact⟨[],by rw[Nat.add_zero,shK_succ,shK_low h,if_pos hLq];rfl⟩
  | succ d ih =>
    obtain⟨r,hr⟩:=ih
    exact⟨_,by rw[<- Nat.add_assoc,shK_succ,hr,List.cons_append]⟩
 obtain⟨r,hr⟩:=key (n-(q+1))
 rw[show q+1+(n-(q+1))=n by omega]at hr
 rw[hr];rfl
section
variable {P:Program} (hm:P.follows .mixedOrders=true)
include hm
set_option maxRecDepth 20000 in
set_option maxHeartbeats 8000000 in
theorem ref11_common_ok {f fu:FuncId} (hf:Q9 P f (ref11_common.c fu) ref11_common.r ref11_common.n) (hu:Ye P fu):CommonC P f:=by
 intro a b
 refine PureC.is (Q7 hm hf (Nat.le_of_ble_eq_true rfl) ?_) rfl
 unfold ref11_common.c
 have h1:=hu a
 have h2:=hu b
 have hla:(Q2 a).length<=3:=Qz _ 3
 have hlb:(Q2 b).length<=3:=Qz _ 3
 have hs:Bv a b=(Q2 a).any λx=>(Q2 b).any λy=>decide (x=y):=rfl
 have ho:oppB a b=(Q2 a).any λx=>(Q2 b).any λy=>decide (x=y.rev):=rfl
 rw[hs,ho]
 generalize Q2 a=E at *
 generalize Q2 b=F at *
 simp[go_sem,T3.enc,T3.cs]at h1 h2 ⊢
 refine Qf h1 ?_
 simp[go_sem]
 refine Qf h2 ?_
 simp[go_sem]
 refine Qe (α:=Nat) (λi=>i<=E.length)
  (λi=>⟨[(6,.b ((E.take i).any λx=>F.any λy=>decide (x=y))),(7,.b ((E.take i).any λx=>F.any λy=>decide (x=y.rev))),(8,psV E),(9,psV F),(10,.i .i64 i)],[]⟩)
  (λi=>E.length-i) 0 (Nat.zero_le _) ?_ ?_
 ·simp[go_sem,psV]
 ·intro i hi
  by_cases hil:i=E.length
  ·subst hil
   rw[List.take_length]
   simp[go_sem,psV,ref11_common.r]
  ·have hlt:i<E.length:=by omega
   have hp:E[i]?=some E[i]:=List.getElem?_eq_getElem hlt
   have htk:=Qd hp
   generalize E[i]=x at hp htk
   obtain⟨_,hp'⟩:=List.getElem?_eq_some_iff.1 hp
   have hsn1:(E.take (i+1)).any (λx=>F.any λy=>decide (x=y))=((E.take i).any (λx=>F.any λy=>decide (x=y)) || F.any λy=>decide (x=y)):=by rw[htk,any_snoc]
   have hsn2:(E.take (i+1)).any (λx=>F.any λy=>decide (x=y.rev))=((E.take i).any (λx=>F.any λy=>decide (x=y.rev)) || F.any λy=>decide (x=y.rev)):=by rw[htk,any_snoc]
   generalize (E.take i).any (λx=>F.any λy=>decide (x=y))=A at *
   generalize (E.take i).any (λx=>F.any λy=>decide (x=y.rev))=B at *
   obtain⟨sK,hs0,hs1,hs2⟩:∃sK:Nat->Bool,sK 0=A/\sK F.length=(A || F.any λy=>decide (x=y))/\∀(j:Nat) (y:P2),F[j]?=some y->sK (j+1)=(sK j || (x.x == y.x && x.y == y.y)) :=
    ⟨λj=>A || (F.take j).any λy=>decide (x=y),by simp,by simp only[List.take_length],λj y hy=>by
     simp only;rw[Qd hy,any_snoc,p2_eq,Bool.or_assoc]⟩
   obtain⟨oK,ho0,ho1,ho2⟩:∃oK:Nat->Bool,oK 0=B/\oK F.length=(B || F.any λy=>decide (x=y.rev))/\∀(j:Nat) (y:P2),F[j]?=some y->oK (j+1)=(oK j || (x.x == y.y && x.y == y.x)) :=
    ⟨λj=>B || (F.take j).any λy=>decide (x=y.rev),by simp,by simp only[List.take_length],λj y hy=>by
     simp only;rw[Qd hy,any_snoc,p2_eq,Bool.or_assoc];rfl⟩
   rw[<- hs1]at hsn1
   rw[<- ho1]at hsn2
   simp[go_sem,psV,hlt]
   refine Qe (α:=Nat) (λj=>j<=F.length)
    (λj=>⟨[(6,.b (sK j)),(7,.b (oK j)),(8,psV E),(9,psV F),(10,.i .i64 i),(11,.i .i64 j)],[]⟩)
    (λj=>F.length-j) 0 (Nat.zero_le _) ?_ ?_
   ·simp[go_sem,psV,hs0,ho0]
   ·intro j hj
    by_cases hjl:j=F.length
    ·subst hjl
     simp (disch:=omega) [go_sem,psV,Q0]
     exact⟨i+1,by omega,by omega,hsn1.symm,hsn2.symm,by omega⟩
    ·have hjt:j<F.length:=by omega
     have hq:F[j]?=some F[j]:=List.getElem?_eq_getElem hjt
     generalize F[j]=y at hq
     obtain⟨_,hq'⟩:=List.getElem?_eq_some_iff.1 hq
     have hS:=hs2 j y hq
     have hO:=ho2 j y hq
     clear hs0 hs1 hs2 ho0 ho1 ho2 hsn1 hsn2 h1 h2
     cases c1:sK j<;>cases c2:oK j<;>cases hb:(x.x == y.y)<;>rw[c1]at hS<;>rw[c2,hb]at hO <;>
      simp (disch:=omega) [go_sem,psV,hlt,hp,hp',hjt,hq,hq',pcs,Q0,c1,c2,hb] <;>
      exact⟨j+1,by omega,by omega,by simp[hS],by simp[hO],by omega⟩
set_option maxRecDepth 20000 in
set_option maxHeartbeats 16000000 in
theorem ref11_spread_ok {f fc fr:FuncId} (hf:Q9 P f (ref11_spread.c fc fr) ref11_spread.r ref11_spread.n) (hc:CommonC P fc) (hr:RevTC P fr):SpreadOC P f:=by
 intro ts us0 L X n0 q hL hO0 hq hLq hXn hn4
 have hlen0:=hO0.fl.len
 have hLl:=hL.len
 have hnd:=shK_nodup2 L q ts.length
 have hhd:=shK_head hL hq hLq
 have hmem:∀v∈shK L q ts.length,∃j:Nat,v=(j:Int)/\j<ts.length/\L[j]?=some (q:Int):=λv hv=>mem_shK2.1 hv
 have hqm:(q:Int)∈shK L q ts.length:=mem_shK2.2 ⟨q,rfl,hq,hLq⟩
 have hsl:(shK L q ts.length).length<=4096:=by
  unfold shK
  rw[List.length_map]
  have:=List.length_filter_le (λ(j:Nat)=>decide (L[j]?=some (q:Int))) (List.range ts.length)
  rw[List.length_range]at this
  omega
 obtain⟨sh,hsh⟩:∃sh,sh=shK L q ts.length:=⟨_,rfl⟩
 rw[<- hsh]at hnd hhd hmem hqm hsl hXn ⊢
 have hd0:=dn_none hXn
 have hset0:=dn_set (X:=X) hnd hhd
 have hsl0:0<sh.length:=(List.getElem?_eq_some_iff.1 hhd).1
 have hnds:=dn_len sh X
 have g0:=dn_get (X:=X) hhd
 obtain⟨g0l,g0'⟩:=List.getElem?_eq_some_iff.1 g0
 refine Q7 hm hf (Nat.le_of_ble_eq_true rfl) ?_
 unfold ref11_spread.c
 simp[go_sem,tsV,isV]
 refine⟨⟨by omega,by omega⟩,?_⟩
 simp (disch:=omega) [go_sem,hd0,hset0,hsl0,hnds,g0,g0']
 refine⟨⟨by omega,by omega⟩,?_⟩
 refine Qe (α:=Nat × List T3 × List Int) (λp=>p.1<=sh.length/\p.2.1.length=ts.length/\(∃n,OrI ts p.2.1 L (X++p.2.2) n)/\p.2.2.Nodup/\(∀v∈p.2.2,v∈sh)/\(q:Int)∈p.2.2/\((∀w∈sh,w∈p.2.2)∨p.1+1<=p.2.2.length))
  (λp=>⟨[(1,isV sh),(5,.own 0 1 0 ts.length),(6,.own 1 1 0 sh.length),(7,.i .i64 p.1)],[.arr 1 3 (p.2.1.map T3.cs),.arr 1 1 (dn sh (X++p.2.2))]⟩)
  (λp=>sh.length-p.1) (0,us0,[(q:Int)]) ⟨Nat.zero_le _,hlen0,⟨n0,hO0.top hq (hXn _ hqm) hLq⟩,by simp,by simpa using hqm,by simp,.inr (by simp)⟩ ?_ ?_
 ·simp[go_sem,isV,hlen0,Qp]
  exact Ea _ _ _
 ·rintro⟨r,us,Y0⟩ ⟨hrl,hul,hO,hY1,hY2,hY3,hY4⟩
  simp only at hrl hul hO hY1 hY2 hY3 hY4 ⊢
  by_cases hrr:r=sh.length
  ·subst hrr
   have hall:∀w∈sh,w∈Y0:=by
    rcases hY4 with h | h
    ·exact h
    ·exact full_of_len hY1 hY2 (by omega)
   obtain⟨n,hO⟩:=hO
   have htk:List.take ts.length (us.map T3.cs)=us.map T3.cs:=List.take_of_length_le (by simp;omega)
   simp[go_sem,isV,ref11_spread.r,tsV,htk,hul,Zw]
   exact⟨us,rfl,n,_,hO,λv=>⟨λhv=>by
    rcases List.mem_append.1 hv with h | h
    ·exact .inl h
    ·exact .inr (hY2 v h),λhv=>by
    rcases hv with h | h
    ·exact List.mem_append.2 (.inl h)
    ·exact List.mem_append.2 (.inr (hall v h))⟩⟩
  ·have hrt:r<sh.length:=by omega
   simp[go_sem,isV,hrt]
   refine Qe (α:=Nat × List T3 × List Int) (λp=>p.1<=sh.length/\p.2.1.length=ts.length/\RI ts p.2.1 L X sh Y0 p.2.2 p.1 0)
    (λp=>⟨[(1,isV sh),(5,.own 0 1 0 ts.length),(6,.own 1 1 0 sh.length),(7,.i .i64 r),(8,.i .i64 p.1)],[.arr 1 3 (p.2.1.map T3.cs),.arr 1 1 (dn sh (X++p.2.2))]⟩)
    (λp=>sh.length-p.1) (0,us,Y0) ⟨Nat.zero_le _,hul,hO,hY1,hY2,λ_ h=>h,λi' k' v w h=>by omega⟩ ?_ ?_
   ·simp[go_sem,isV,Qp]
    exact Ea _ _ _
   ·clear hO hul
    rintro⟨i,us,Y⟩ ⟨hi,hul,hR⟩
    simp only at hi hul hR ⊢
    by_cases hil:i=sh.length
    ·subst hil
     have hmo:=hR.more hL hsh hq hLq hY1 hY3
     simp (disch:=omega) [go_sem,isV,Q0]
     refine⟨r+1,us,Y,⟨by omega,hul,hR.ori,hR.nodup,hR.sub,hR.old _ hY3,?_⟩,by omega,by omega,?_⟩
     ·rcases hmo with h | h
      ·exact .inl λw hw=>hR.old w (h w hw)
      ·rcases hY4 with h4 | h4
       ·exact .inl λw hw=>hR.old w (h4 w hw)
       ·exact .inr (by omega)
     ·simp[go_sem,Qp]
      exact Ea _ _ _
    ·have hit:i<sh.length:=by omega
     have hpi:sh[i]?=some sh[i]:=List.getElem?_eq_getElem hit
     have hvm:sh[i]∈sh:=List.getElem_mem _
     generalize sh[i]=v at hpi hvm
     obtain⟨_,hpi'⟩:=List.getElem?_eq_some_iff.1 hpi
     obtain⟨vj,hvj,hvl,hLv⟩:=hmem v hvm
     simp[go_sem,isV,hit]
     refine Qe (α:=Nat × List T3 × List Int) (λp=>p.1<=sh.length/\p.2.1.length=ts.length/\RI ts p.2.1 L X sh Y0 p.2.2 i p.1)
      (λp=>⟨[(1,isV sh),(5,.own 0 1 0 ts.length),(6,.own 1 1 0 sh.length),(7,.i .i64 r),(8,.i .i64 i),(9,.i .i64 p.1)],[.arr 1 3 (p.2.1.map T3.cs),.arr 1 1 (dn sh (X++p.2.2))]⟩)
      (λp=>sh.length-p.1) (0,us,Y) ⟨Nat.zero_le _,hul,hR⟩ ?_ ?_
     ·simp[go_sem,isV,Qp]
      exact Ea _ _ _
     ·clear hR hul
      rintro⟨k,us,Y⟩ ⟨hk,hul,hR⟩
      simp only at hk hul hR ⊢
      by_cases hkl:k=sh.length
      ·subst hkl
       simp (disch:=omega) [go_sem,isV,Q0]
       refine⟨i+1,us,Y,⟨by omega,hul,hR.row⟩,by omega,by omega,?_⟩
       simp[go_sem,Qp]
       exact Ea _ _ _
      ·have hkt:k<sh.length:=by omega
       have hpk:sh[k]?=some sh[k]:=List.getElem?_eq_getElem hkt
       have hwm:sh[k]∈sh:=List.getElem_mem _
       generalize sh[k]=w at hpk hwm
       obtain⟨_,hpk'⟩:=List.getElem?_eq_some_iff.1 hpk
       obtain⟨wj,hwj,hwl,hLw⟩:=hmem w hwm
       have gi:=dn_get (X:=X++Y) hpi
       have gk:=dn_get (X:=X++Y) hpk
       have hdl:=dn_len sh (X++Y)
       obtain⟨_,gi'⟩:=List.getElem?_eq_some_iff.1 gi
       obtain⟨_,gk'⟩:=List.getElem?_eq_some_iff.1 gk
       by_cases hvZ:v∈X++Y
       case neg =>
        rw[decide_eq_false hvZ]at gi gi'
        have hRs:=hR.skip λv' w' h1 h2 h3 h4=>by
         rw[hpi]at h1
         obtain rfl:=Option.some.inj h1
         exact absurd (List.mem_append.2 (.inr (hR.old _ h3))) hvZ
        simp (disch:=omega) [go_sem,isV,hit,hkt,hdl,gi,gi',gk,gk',Q0]
        refine⟨k+1,us,Y,⟨by omega,hul,hRs⟩,by omega,by omega,?_⟩
        simp[go_sem,Qp]
        exact Ea _ _ _
       rw[decide_eq_true hvZ]at gi gi'
       by_cases hwZ:w∈X++Y
       ·rw[decide_eq_true hwZ]at gk gk'
        have hRs:=hR.skip λv' w' h1 h2 h3 h4=>by
         rw[hpk]at h2
         obtain rfl:=Option.some.inj h2
         rcases List.mem_append.1 hwZ with h | h
         ·exact absurd h (hXn _ hwm)
         ·exact h
        simp (disch:=omega) [go_sem,isV,hit,hkt,hdl,gi,gi',gk,gk',Q0]
        refine⟨k+1,us,Y,⟨by omega,hul,hRs⟩,by omega,by omega,?_⟩
        simp[go_sem,Qp]
        exact Ea _ _ _
       rw[decide_eq_false hwZ]at gk gk'
       have hc1:=hc (tAt us vj) (tAt us wj)
       have hr1:=hr (tAt us wj)
       have tv:=Ql (ts:=us) (i:=vj) (by omega)
       have tw:=Ql (ts:=us) (i:=wj) (by omega)
       obtain⟨n,hOn⟩:=hR.ori
       have hadj:=both_adj hOn.fl hvl hwl
       have hLww:L[wj]? ≠ some (wj:Int):=by
        rw[hLw]
        intro hh
        have h1:=Option.some.inj hh
        rw[hwj,<- h1]at hwZ
        exact hwZ (List.mem_append.2 (.inr (hR.old _ hY3)))
       have hsp:=hOn.spread hvl hwl (by rw[<- hvj];exact hvZ) (by rw[<- hwj];exact hwZ) hLww
       have hwY:w∉Y:=λhh=>hwZ (List.mem_append.2 (.inr hh))
       have hadd:=λus' ho=>hR.add (us':=us') hpk hwY ho
       have hskip:¬ adjI ts vj wj->RI ts us L X sh Y0 Y i (k+1):=λhna=>hR.skip λv' w' h1 h2 h3 h4=>by
        rw[hpi]at h1
        rw[hpk]at h2
        obtain rfl:=Option.some.inj h1
        obtain rfl:=Option.some.inj h2
        rw[hvj,hwj,Int.toNat_natCast,Int.toNat_natCast]at h4
        exact absurd h4 hna
       have hst:=dn_set (X:=X++Y) hnd hpk
       have hsk:=dn_keep hpk hwZ
       rw[<- hadj]at hskip
       clear hadj
       have hps:∀t:T3,(us.map T3.cs).set wj t.cs=(us.set wj t).map T3.cs:=λt=>by rw[List.map_set]
       have hul':∀t:T3,(us.set wj t).length=ts.length:=λt=>by rw[List.length_set,hul]
       generalize tAt us vj=a at *
       generalize tAt us wj=b at *
       generalize Bv a b=s1 at *
       generalize oppB a b=o1 at *
       obtain⟨lv,tv'⟩:=List.getElem?_eq_some_iff.1 tv
       obtain⟨lw,tw'⟩:=List.getElem?_eq_some_iff.1 tw
       rw[hvj]at hpi hpi'
       rw[hwj]at hpk hpk' hst hadd
       simp[go_sem,T3.enc,tcs]at hc1 hr1
       simp (disch:=omega) [go_sem,isV,hit,hkt,hdl,gi,gi',gk,gk',hpi,hpi',hpk,hpk',tv,tv',tw,tw',lv,lw,hul,hvl,hwl,tcs,Q0]
       refine Qf hc1 ?_
       cases s1<;>cases o1
       ·simp (disch:=omega) [go_sem,isV,hkt,hdl,hsk,Q0]
        rw[gk']
        refine⟨by simp,k+1,us,Y,⟨by omega,hul,hskip (by simp)⟩,by omega,by omega,rfl,hsk,Ea _ _ _⟩
       ·simp (disch:=omega) [go_sem,isV,hkt,hdl,hst,Q0]
        rw[gk']
        obtain⟨n',ho⟩:=hsp (by simp)
        simp only[Bool.false_and,Bool.true_and,Bool.not_true,Bool.not_false,Bool.false_eq_true,if_true,if_false]at ho
        refine⟨by simp,k+1,us,Y++[(wj:Int)],⟨by omega,hul,hadd _ ⟨n',ho⟩⟩,by omega,by omega,rfl,?_,Ea _ _ _⟩
        rw[<- List.append_assoc]
        exact hst
       ·simp (disch:=omega) [go_sem,isV,hkt,hdl,hpk,hpk',tw,tw',lw,hul,hwl,tcs,Q0]
        refine Qf hr1 ?_
        simp (disch:=omega) [go_sem,isV,hkt,hdl,hst,hpk,hpk',tw,tw',lw,hul,hwl,tcs,Q0]
        rw[gk']
        obtain⟨n',ho⟩:=hsp (by simp)
        simp only[Bool.false_and,Bool.true_and,Bool.not_true,Bool.not_false,Bool.false_eq_true,if_true,if_false]at ho
        refine⟨by simp,k+1,us.set wj b.rev,Y++[(wj:Int)],⟨by omega,hul' _,hadd _ ⟨n',ho⟩⟩,by omega,by omega,hps _,?_,Ea _ _ _⟩
        rw[<- List.append_assoc]
        exact hst
       ·simp (disch:=omega) [go_sem,isV,hkt,hdl,hst,Q0]
        rw[gk']
        obtain⟨n',ho⟩:=hsp (by simp)
        simp only[Bool.false_and,Bool.true_and,Bool.not_true,Bool.not_false,Bool.false_eq_true,if_true,if_false]at ho
        refine⟨by simp,k+1,us,Y++[(wj:Int)],⟨by omega,hul,hadd _ ⟨n',ho⟩⟩,by omega,by omega,rfl,?_,Ea _ _ _⟩
        rw[<- List.append_assoc]
        exact hst
end
end Go.Abs
set_option linter.unusedVariables false
set_option linter.unusedSimpArgs false
namespace Go.Abs
theorem oriV_end {m:Mesh} {L:List Int} (hL:IsLab m.tris L) {us:List T3} {X:List Int} {n:Nat} (hO:OrI m.tris us L X n) (hall:∀i:Nat,i<m.tris.length->(i:Int)∈X) :
  (Yv us=true->oriV m=Kx (⟨m.verts,us⟩,difN m.tris us,0))/\(Yv us=false->oriV m=.t [.a [.nil,.nil],.i .i64 0,.i .i64 13]):=by
 obtain⟨h1,h2⟩:=hO.done hL hall
 constructor
 ·intro hcu
  obtain⟨h3,h4⟩:=h1 (cohB_iff.1 hcu)
  unfold oriV;rw[h3]
 ·intro hcu
  have h3:=h2 (λhh=>by rw[cohB_iff.2 hh]at hcu;simp at hcu)
  unfold oriV;rw[h3]
theorem flat_newS {shs:List (List Int)} (h:shs.flatten.Nodup) {k:Nat} {sh:List Int} (hp:shs[k]?=some sh):∀v∈sh,v∉(shs.take k).flatten:=by
 intro v hv hm
 have hlt:=(List.getElem?_eq_some_iff.1 hp).1
 have h1:=List.take_append_drop k shs
 rw[List.drop_eq_getElem_cons hlt,(List.getElem?_eq_some_iff.1 hp).2]at h1
 rw[<- h1,List.flatten_append,List.flatten_cons]at h
 exact(List.nodup_append.1 h).2.2 v hm v (List.mem_append.2 (.inl hv)) rfl
def difK (ts us:List T3) (k:Nat):Nat:=((List.range k).filter λi=>decide (tAt us i≠tAt ts i)).length
theorem difK_succ (ts us:List T3) (k:Nat):difK ts us (k+1)=difK ts us k+if tAt us k=tAt ts k then 0 else 1:=by
 unfold difK
 rw[List.range_succ,List.filter_append,List.length_append]
 by_cases h:tAt us k=tAt ts k<;>simp[h]
theorem difK_le (ts us:List T3) (k:Nat):difK ts us k<=k:=by
 have:=List.length_filter_le (λi=>decide (tAt us i≠tAt ts i)) (List.range k)
 rwa [List.length_range]at this
theorem t3_ext {a b:T3} (h1:a.a=b.a) (h2:a.b=b.b) (h3:a.c=b.c):a=b:=by cases a;cases b;simp_all
section
variable {P:Program} (hm:P.follows .mixedOrders=true)
include hm
set_option maxRecDepth 20000 in
set_option maxHeartbeats 16000000 in
theorem ref11_Orient_ok {f fc fs fp fh:FuncId} (hf:Q9 P f (ref11_Orient.c fc fs fp fh) ref11_Orient.r ref11_Orient.n) (hc:Z8 P fc) (hs:Xt P fs) (hsp:SpreadOC P fp) (hh:CohC P fh):Es P f:=by
 intro m
 by_cases hz:m.check=0
 case neg =>
  have hR:Zp m=(⟨[],[]⟩,0,m.check):=by unfold Zp;rw[if_pos hz]
  rw[hR]
  refine CallIs.res ?_ (Jy _)
  refine PureC.is (Q7 hm hf (Nat.le_of_ble_eq_true rfl) ?_) rfl
  unfold ref11_Orient.c
  simp[go_sem,Mesh.enc,Mesh.cs]
  refine Q3 (hc m) ?_
  simp[go_sem,hz,ref11_Orient.r]
 refine CallIs.res ?_ (oriV_le hz)
 obtain⟨z1,z2,z3,z4⟩:=Mesh.check_zero.1 hz
 obtain⟨L,hL⟩:=Uw m.tris
 have hLl:=hL.len
 have hR:m.shells=Zl L m.tris.length:=by unfold Mesh.shells;rw[if_pos hz,Yk hL,hLl]
 have hs1:=hs m
 have hend:=λus X n hO hall=>oriV_end hL (us:=us) (X:=X) (n:=n) hO hall
 have hshs:∀sh∈m.shells,∃q:Nat,q<m.tris.length/\L[q]?=some (q:Int)/\sh=shK L q m.tris.length:=λsh h=>by
  rw[hR]at h
  obtain⟨q,h1,h2,h3⟩:=shsK_mem.1 h
  rw[hLl]at h3
  exact⟨q,h1,h2,h3⟩
 have hcov:∀i:Nat,i<m.tris.length->∃sh∈m.shells,(i:Int)∈sh:=λi hi=>by
  obtain⟨q,_,_,_,h4,h5⟩:=lab_sh hL hi
  exact⟨_,by rw[hR];exact h4,h5⟩
 have hnd:m.shells.flatten.Nodup:=by rw[hR];exact shsK_nodup _ _
 have hok:=J3 hz
 generalize oriV m=RR at hend
 generalize m.shells=shs at *
 refine PureC.is (Q7 hm hf (Nat.le_of_ble_eq_true rfl) ?_) rfl
 unfold ref11_Orient.c
 simp[go_sem,Mesh.enc,Mesh.cs,vsV,tsV]
 refine Q3 (hc m) ?_
 simp[go_sem,hz]
 refine Q3 hs1 ?_
 simp[go_sem,lsV]
 refine⟨⟨by omega,by omega⟩,?_⟩
 refine Qe (α:=Nat × List T3 × List Int) (λp=>p.1<=shs.length/\p.2.1.length=m.tris.length/\(∃n,OrI m.tris p.2.1 L p.2.2 n)/\∀v,v∈p.2.2↔∃sh∈shs.take p.1,v∈sh)
  (λp=>⟨[(1,.p 0 1 0 0),(2,.p 1 1 0 0),(6,lsV shs),(7,if p.1=0 then .own 2 1 0 m.tris.length else tsV p.2.1),(8,.i .i64 p.1)],
   .arr 1 2 [m.cs]::.arr 1 2 [[.nil,.nil]]::if p.1=0 then [.arr 1 3 (p.2.1.map T3.cs)] else []⟩)
  (λp=>shs.length-p.1) (0,m.tris,[]) ⟨Nat.zero_le _,rfl,⟨0,OrI.start _ _⟩,by simp⟩ ?_ ?_
 ·simp[go_sem,lsV,Mesh.cs,vsV,tsV,Qp]
 ·rintro⟨k,us,X⟩ ⟨hk,hul,⟨n,hO⟩,hX⟩
  simp only at hk hul hO hX ⊢
  by_cases hkl:k=shs.length
  ·subst hkl
   rw[List.take_length]at hX
   obtain⟨hc1,hc2⟩:=hend us X n hO λi hi=>(hX _).2 (hcov i hi)
   have hh1:=hh us (by omega)
   have htk:List.take m.tris.length (us.map T3.cs)=us.map T3.cs:=List.take_of_length_le (by simp;omega)
   have hdf:difN m.tris us=difK m.tris us m.tris.length:=rfl
   rw[hdf]at hc1
   by_cases h0:shs.length=0
   ·have hnil:m.tris=[]:=by
     cases hts:m.tris with
     | nil=>rfl
     | cons t l =>
       obtain⟨sh,hm1,_⟩:=hcov 0 (by rw[hts];simp)
       have:=List.length_pos_of_mem hm1
       omega
    have hun:us=[]:=List.length_eq_zero_iff.1 (by rw[hul,hnil];rfl)
    subst hun
    have hcc:Yv []=true:=by simp[Yv,Q8]
    rw[hc1 hcc]
    rw[hcc]at hh1
    simp[go_sem,lsV,h0,Mesh.cs,vsV,tsV,hnil]
    refine Jb (vs:=[tsV []]) (by simp[Zu,frz,Xm,tsV]) (hh1 []) rfl ?_
    simp[go_sem]
    refine Qe (α:=Unit) (λ_=>True)
     (λ_=>⟨[(1,.p 0 1 0 0),(2,.p 1 1 0 0),(7,.own 2 1 0 0),(9,.i .i64 0),(10,.i .i64 0)],[.arr 1 2 [[.l 3 (m.verts.map V3.cs),.l 3 []]],.arr 1 2 [[.nil,.nil]],.arr 1 3 []]⟩)
     (λ_=>0) () trivial ?_ ?_
    ·simp[go_sem]
    ·intro _ _
     simp (disch:=omega) [go_sem,Mesh.cs,vsV,tsV,ref11_Orient.r,Kx,Mesh.enc,difK,Y7]
     exact⟨by omega,by omega⟩
   ·simp[go_sem,lsV,h0,Mesh.cs,vsV,tsV]
    refine Q3 hh1 ?_
    cases hcu:Yv us
    ·rw[hc2 hcu]
     simp (disch:=omega) [go_sem,ref11_Orient.r]
    ·rw[hc1 hcu]
     simp (disch:=omega) [go_sem]
     refine Qe (α:=Nat) (λi=>i<=m.tris.length)
      (λi=>⟨[(1,.p 0 1 0 0),(2,.p 1 1 0 0),(7,tsV us),(9,.i .i64 (difK m.tris us i)),(10,.i .i64 i)],[.arr 1 2 [m.cs],.arr 1 2 [[.nil,.nil]]]⟩)
      (λi=>m.tris.length-i) 0 (Nat.zero_le _) ?_ ?_
     ·simp[go_sem,difK,Mesh.cs,vsV,tsV]
     ·intro i hi
      by_cases hil:i=m.tris.length
      ·subst hil
       simp (disch:=omega) [go_sem,Mesh.cs,vsV,tsV,hul,ref11_Orient.r,Kx,Mesh.enc]
       exact⟨by omega,by omega⟩
      ·have hlt:i<m.tris.length:=by omega
       have h1:=Ql (ts:=us) (i:=i) (by omega)
       have h2:=Ql hlt
       have hsu:=difK_succ m.tris us i
       have hle:=difK_le m.tris us i
       generalize tAt us i=a at *
       generalize tAt m.tris i=b at *
       obtain⟨l1,h1'⟩:=List.getElem?_eq_some_iff.1 h1
       obtain⟨l2,h2'⟩:=List.getElem?_eq_some_iff.1 h2
       by_cases hab:a=b
       ·rw[if_pos hab,Nat.add_zero]at hsu
        subst hab
        simp (disch:=omega) [go_sem,Mesh.cs,vsV,tsV,hul,hlt,h1,h1',h2,h2',l1,l2,tcs,Q0]
        exact⟨i+1,by omega,by omega,by rw[hsu];simp,by omega⟩
       ·rw[if_neg hab]at hsu
        have hab':¬ (a.a=b.a/\a.b=b.b/\a.c=b.c):=λhh=>hab (t3_ext hh.1 hh.2.1 hh.2.2)
        simp (disch:=omega) [go_sem,Mesh.cs,vsV,tsV,hul,hlt,h1,h1',h2,h2',l1,l2,tcs,hab',Q0]
        exact λ_=>⟨i+1,by omega,by omega,by rw[hsu];omega,by omega⟩
  ·have hlt:k<shs.length:=by omega
   have hp0:shs[k]?=some shs[k]:=List.getElem?_eq_getElem hlt
   have hmw:shs[k]∈shs:=List.getElem_mem _
   have htk:=Qd hp0
   have hnew:=flat_newS hnd hp0
   generalize shs[k]=sh at hp0 hmw htk hnew
   obtain⟨_,hp'⟩:=List.getElem?_eq_some_iff.1 hp0
   obtain⟨q,hq,hLq,rfl⟩:=hshs sh hmw
   have hXn:∀v∈shK L q m.tris.length,v∉X:=λv hv hx=>by
    obtain⟨sh',h1,h2⟩:=(hX v).1 hx
    exact hnew v hv (List.mem_flatten.2 ⟨sh',h1,h2⟩)
   have hcall:=hsp m.tris us L X n q hL hO hq hLq hXn z2
   have hstep:∀X':List Int,(∀v,v∈X'↔v∈X∨v∈shK L q m.tris.length)->∀v,v∈X'↔∃sh∈shs.take (k+1),v∈sh:=λX' hX' v=>by
    rw[hX',htk,hX]
    constructor
    ·rintro (⟨sh,h1,h2⟩ | h)
     ·exact⟨sh,List.mem_append.2 (.inl h1),h2⟩
     ·exact⟨_,List.mem_append.2 (.inr (by simp)),h⟩
    ·rintro⟨sh,h1,h2⟩
     rcases List.mem_append.1 h1 with h1 | h1
     ·exact .inl ⟨sh,h1,h2⟩
     ·simp at h1;subst h1;exact .inr h2
   generalize shK L q m.tris.length=sh at *
   have htk3:List.take m.tris.length (us.map T3.cs)=us.map T3.cs:=List.take_of_length_le (by simp;omega)
   have hul2:m.tris.length<=us.length:=by omega
   have hnum:=hok.num
   by_cases h0:k=0
   ·subst h0
    simp (disch:=omega) [go_sem,lsV,Mesh.cs,vsV,tsV,hlt,hp0,hp']
    refine ACall_freeze (vs:=[tsV us,isV sh]) (by simp[Zu,frz,Xm,tsV,isV,htk3,hul2,Zw]) ((hcall.lift rfl _).mono ?_)
    rintro r h' ⟨⟨us',n',X',rfl,hO',hX'⟩,rfl⟩
    have hul':=hO'.fl.len
    simp (disch:=omega) [go_sem,lsV,tsV,Q0]
    refine⟨1,us',⟨by omega,by omega,X',⟨n',hO'⟩,hstep X' hX'⟩,by omega,?_⟩
    simp[go_sem,isV]
   ·simp (disch:=omega) [go_sem,lsV,Mesh.cs,vsV,tsV,h0,hlt,hp0,hp']
    refine ((hcall.lift rfl _).mono ?_)
    rintro r h' ⟨⟨us',n',X',rfl,hO',hX'⟩,rfl⟩
    have hul':=hO'.fl.len
    simp (disch:=omega) [go_sem,lsV,tsV,Q0]
    refine⟨k+1,us',⟨by omega,by omega,X',⟨n',hO'⟩,hstep X' hX'⟩,by omega,by omega,?_⟩
    simp[go_sem]
end
end Go.Abs
