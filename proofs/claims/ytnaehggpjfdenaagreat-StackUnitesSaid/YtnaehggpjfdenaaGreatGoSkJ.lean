/- Part of the library on which the proof stands: an abstract machine, its values and its soundness against the model; or what functions of the program do to such values. -/
import Derived.Test.YtnaehggpjfdenaaGreatGoSkH
import Derived.Test.YtnaehggpjfdenaaGreatGoSecE
import Derived.Test.YtnaehggpjfdenaaGreatGoRw
import Derived.Test.YtnaehggpjfdenaaGreatGoSet
import Derived.Test.YtnaehggpjfdenaaGreatGoSkB
import Derived.Test.YtnaehggpjfdenaaGreatGoRevC
import Derived.Test.YtnaehggpjfdenaaGreatGoOy
import Derived.Test.YtnaehggpjfdenaaGreatGoRsD
set_option linter.unusedVariables false
set_option linter.unusedSimpArgs false
set_option maxHeartbeats 8000000
set_option maxRecDepth 20000
namespace Go.Abs
def atV (l:List (List Rw)) (i:Nat):V:=match l[i]? with
 | some g=>rgV g
 | none=>.a [.nil]
theorem atV_le (l:List (List Rw)) (i:Nat):Le (atV l i) (rgV (atR l i)):=by
 unfold atV atR
 cases l[i]? with
 | some g=>exact Le.refl _
 | none=>exact .inl (.inr ⟨_,_,rfl,rfl,Le0.nil 2,trivial⟩)
def AtHC (P:Program) (f:FuncId):Prop:=∀(h:List O) (id g:Nat) (l:List (List Rw)) (i:Nat),l.length<=1000->i<=1000000->h[id]?=some (.arr g 1 (l.map rgE))->ACall P f [.own id g 0 l.length,.i .i64 i] h (λr h'=>r=atV l i/\h'=h)
theorem Uc (l:List (List Rw)) (N g:Nat):(O.arr g 1 (l.map rgE)).cl N:=λel hel x hx=>by
 obtain⟨w,hw,rfl⟩:=qo.1 hel
 exact Q40 l _ w hw x hx
theorem Qib {a l:List (List Rw)} {j:Nat} (h:j<max a.length l.length):(Wh a l).take (j+1)=(Wh a l).take j++[Xq (atR a j) (atR l j)]:=Qc (Q3g h)
section
variable {P:Program} (hm:P.follows .mixedOrders=true)
include hm
theorem Q8u {f:FuncId} (hf:Q9 P f L15.c L15.r L15.n):AtHC P f:=by
 intro h id g l i hl hi hid
 refine W7 λhcl=>?_
 refine Ie hm hf (qh rfl) ?_
 unfold L15.c atV
 generalize hK:Q5c h.length L15.r _=K
 obtain⟨hlt,hid'⟩:=q8.1 hid
 have gid:∀x:List O,(h++x)[id]?=some (.arr g 1 (l.map rgE)):=λx=>by rw[qd hlt];exact hid
 have fin:∀(env:List (Nat × V)) (c:V),get 4 env=.p h.length 1 0 0->(c=.nil∨∃q,c=rwL q)->(match l[i]? with | some g=>rgV g | none=>.a [.nil])=.a [c]->K .r ⟨env,h++[.arr 1 1 [[c]]]⟩:=by
  intro env c h1 h2 h3
  rw[<- hK,Q3b]
  refine⟨[.a [c]],h,?_,rfl,?_,by simp,by simp,?_,?_⟩
  ·simp[L15.r,Ym,h1,Qf,Yg,Xs]
  ·rcases h2 with rfl | ⟨q,rfl⟩<;>simp[rwL,V.cl,V.cl1,V.cl0]
  ·have:=Qr (n:=h.length) (a:=[O.arr 1 1 [[c]]]) (b:=[]) (h:=h) (λo1 h1=>hcl _ (Nat.le_refl _) o1 h1) (by trivial)
   rwa [List.append_nil]at this
  ·exact⟨by rw[h3];rfl,rfl⟩
 by_cases hlt2:i<l.length
 ·have hq:l[i]?=some l[i]:=q9 hlt2
  generalize l[i]=w at *
  obtain⟨_,hq'⟩:=q8.1 hq
  rw[hq]at fin
  simp (disch:=omega) [go_sem,gid,hlt2,hq,hq',rgE,Qf,Qq,show ¬ (i:Int)<0 by omega,show ¬ l.length<=i by omega]
  exact fin _ _ (by simp[go_sem]) (.inr ⟨w,rfl⟩) rfl
 ·have hq:l[i]?=none:=qk (by omega)
  rw[hq]at fin
  simp (disch:=omega) [go_sem,gid,hlt2,Qf,Qq,show ¬ (i:Int)<0 by omega,show l.length<=i by omega]
  exact fin _ _ (by simp[go_sem]) (.inl rfl) rfl
end
def Qhr (m:Mesh):Bool:=decide (m.verts.length<=60) && decide (m.tris.length<=60)
def Qgq (P:Program) (f:FuncId):Prop:=∀m:Mesh,CallIs P f [m.enc] (.b (Qhr m))
def LowC (P:Program) (f:FuncId):Prop:=∀(ms:List Mesh) (s:Sett),PureC P f [msV ms,s.enc] λr=>∃b,r=.b b/\(b=true->ms.length<=4)
section
variable {P:Program} (hm:P.follows .mixedOrders=true)
include hm
theorem Q9d {f:FuncId} (hf:Q9 P f L09.c L09.r L09.n):Qgq P f:=by
 intro m
 refine PureC.is (Q7 hm hf (qh rfl) ?_) rfl
 unfold L09.c Qhr
 by_cases h1:m.verts.length<=60
 ·by_cases h2:m.tris.length<=60
  ·simp[go_sem,Mesh.enc,Mesh.cs,vsV,tsV,h1,h2,show (m.verts.length:Int)<=60 by omega,show (m.tris.length:Int)<=60 by omega,L09.r]
  ·simp[go_sem,Mesh.enc,Mesh.cs,vsV,tsV,h1,h2,show (m.verts.length:Int)<=60 by omega,show ¬ (m.tris.length:Int)<=60 by omega,L09.r]
 ·simp[go_sem,Mesh.enc,Mesh.cs,vsV,tsV,h1,show ¬ (m.verts.length:Int)<=60 by omega,L09.r]
theorem Q9c {f ff:FuncId} (hf:Q9 P f (L0a.c ff) L0a.r L0a.n) (hff:Qgq P ff):LowC P f:=by
 intro ms s
 refine Q7 hm hf (qh rfl) ?_
 unfold L0a.c
 simp[go_sem,msV,Sett.enc]
 refine Qi (α:=Nat) (λi=>i<=ms.length/\i<=5)
  (λi=>⟨[(0,msV ms),(3,.p 0 1 0 0),(5,.i .i64 i)],[.arr 1 20 [s.cs]]⟩)
  (λi=>5-i) 0 ⟨Nat.zero_le _,Nat.zero_le _⟩ ?_ ?_
 ·simp[go_sem,msV]
  exact⟨rfl,K3 s 1⟩
 rintro i ⟨hi,hi5⟩
 by_cases hend:i<ms.length/\i<5
 case neg =>
  by_cases h1:i<ms.length
  ·have h2:i=5:=by omega
   subst h2
   have h1z:(5:Int)<ms.length:=by omega
   simp[go_sem,msV,h1,h1z,L0a.r]
   omega
  ·have h2:i=ms.length:=by omega
   subst h2
   simp[go_sem,msV,L0a.r]
   omega
 obtain⟨hlt,hlt5⟩:=hend
 have hq:ms[i]?=some ms[i]:=q9 hlt
 have hfc:=hff ms[i]
 generalize ms[i]=m at *
 obtain⟨_,hq'⟩:=q8.1 hq
 simp only[Mesh.enc,Mesh.cs]at hfc
 have hlt5z:(i:Int)<5:=by omega
 simp (disch:=omega) [go_sem,msV,hlt,hlt5,hlt5z,hq,hq',Mesh.cs,Q0]
 refine Q4 hfc ?_
 cases hfw:Qhr m with
 | false =>
   rw[hfw]at hfc
   simp[go_sem,L0a.r]
 | true =>
   have h60:m.verts.length<=60:=by
    unfold Qhr at hfw
    simp only[Bool.and_eq_true,decide_eq_true_eq]at hfw
    exact hfw.1
   simp[go_sem]
   refine Qi (α:=Nat) (λj=>j<=m.verts.length)
    (λj=>⟨[(0,msV ms),(3,.p 0 1 0 0),(5,.i .i64 i),(6,.i .i64 j)],[.arr 1 20 [s.cs]]⟩)
    (λj=>m.verts.length-j) 0 (Nat.zero_le _) ?_ ?_
   ·simp[go_sem,msV]
    exact K3 s 1
   intro j hj
   by_cases hjl:j=m.verts.length
   ·subst hjl
    simp (disch:=omega) [go_sem,msV,hlt,hq,hq',Mesh.cs,vsV,Q0]
    exact⟨i+1,⟨by omega,by omega⟩,by omega,by omega,K3 s 1⟩
   have hjt:j<m.verts.length:=by omega
   have hv:m.verts[j]?=some m.verts[j]:=q9 hjt
   generalize m.verts[j]=v at *
   obtain⟨_,hv'⟩:=q8.1 hv
   have hs1:s.cs[1]?=some (.i .i64 s.height):=rfl
   have hnext:∃x',x'<=m.verts.length/\m.verts.length-x'<m.verts.length-j/\(j:Int)+1=x':=⟨j+1,by omega,by omega,by omega⟩
   generalize hW:IntKind.i64.wrap (40*s.height)=W
   by_cases c1:4<=s.height
   ·by_cases c2:W<v.z
    ·by_cases c3:v.z<=65536
     ·simp (disch:=omega) [go_sem,msV,hlt,hq,hq',Mesh.cs,Sett.cs,vsV,hjt,hv,hv',vcs,hs1,hW,c1,c2,c3,Q0,L0a.r]
     ·simp (disch:=omega) [go_sem,msV,hlt,hq,hq',Mesh.cs,Sett.cs,vsV,hjt,hv,hv',vcs,hs1,hW,c1,c2,c3,Q0]
      exact⟨j+1,by omega,by omega,by omega⟩
    ·simp (disch:=omega) [go_sem,msV,hlt,hq,hq',Mesh.cs,Sett.cs,vsV,hjt,hv,hv',vcs,hs1,hW,c1,c2,Q0]
     exact⟨j+1,by omega,by omega,by omega⟩
   ·simp (disch:=omega) [go_sem,msV,hlt,hq,hq',Mesh.cs,Sett.cs,vsV,hjt,hv,hv',vcs,hs1,hW,c1,Q0]
    exact⟨j+1,by omega,by omega,by omega⟩
end
def Qfe (U:List Int) (x:Int):List Int:=if x∈U then U else U++[x]
def Qff (U:List Int) (t:T3):List Int:=Qfe (Qfe (Qfe U t.a) t.b) t.c
def Kc (ts:List T3):List Int:=ts.foldl Qff []
theorem Qe1 (ts:List T3) (t:T3):Kc (ts++[t])=Qff (Kc ts) t:=by simp[Kc]
theorem Q9h {U:List Int} (h:U.Nodup) (x:Int):(Qfe U x).Nodup/\(∀v,v∈Qfe U x↔v∈U∨v=x)/\(Qfe U x).length<=U.length+1:=by
 unfold Qfe
 split
 ·rename_i hx
  exact⟨h,λv=>⟨.inl,λhh=>hh.elim id (λe=>e ▸ hx)⟩,by omega⟩
 ·rename_i hx
  refine⟨?_,λv=>by simp,by simp⟩
  rw[List.nodup_append]
  exact⟨h,by simp,λa ha b hb=>by simp at hb;subst hb;rintro rfl;exact hx ha⟩
theorem insT_ok {U:List Int} (h:U.Nodup) (t:T3):(Qff U t).Nodup/\(∀v,v∈Qff U t↔v∈U∨v=t.a∨v=t.b∨v=t.c)/\(Qff U t).length<=U.length+3:=by
 obtain⟨a1,a2,a3⟩:=Q9h h t.a
 obtain⟨b1,b2,b3⟩:=Q9h a1 t.b
 obtain⟨c1,c2,c3⟩:=Q9h b1 t.c
 refine⟨c1,λv=>?_,by unfold Qff;omega⟩
 unfold Qff
 rw[c2,b2,a2,or_assoc,or_assoc]
theorem Qm4 (ts:List T3):(Kc ts).Nodup/\(∀v,v∈Kc ts↔∃t∈ts,v=t.a∨v=t.b∨v=t.c)/\(Kc ts).length<=3*ts.length:=by
 have key:∀k,k<=ts.length->(Kc (ts.take k)).Nodup/\(∀v,v∈Kc (ts.take k)↔∃t∈ts.take k,v=t.a∨v=t.b∨v=t.c)/\(Kc (ts.take k)).length<=3*k:=by
  intro k
  induction k with
  | zero=>intro _;simp[Kc]
  | succ k ih =>
    intro hk
    obtain⟨h1,h2,h3⟩:=ih (by omega)
    have hp:ts[k]?=some ts[k]:=q9 (by omega)
    rw[Qc hp,Qe1]
    obtain⟨i1,i2,i3⟩:=insT_ok h1 ts[k]
    refine⟨i1,λv=>?_,by omega⟩
    rw[i2,h2]
    constructor
    ·rintro (⟨t,ht,hv⟩ | hv)
     ·exact⟨t,qg.2 (.inl ht),hv⟩
     ·exact⟨ts[k],qg.2 (.inr (by simp)),hv⟩
    ·rintro⟨t,ht,hv⟩
     rcases qg.1 ht with h | h
     ·exact .inl ⟨t,h,hv⟩
     ·simp at h;subst h;exact .inr hv
 have:=key ts.length (Nat.le_refl _)
 rwa [qi]at this
def Mesh.euler (m:Mesh):Int:=if m.check=0 then ((Kc m.tris).length:Int)-m.edgesL.length+m.tris.length else 0
theorem Qc3 {l k:List Int} (hl:l.Nodup) (hk:k.Nodup) (h:∀v,v∈l↔v∈k):l.Perm k:=by
 rw[List.perm_iff_count]
 intro v
 have c:∀{l:List Int},l.Nodup->l.count v=if v∈l then 1 else 0:=λ{l} hl=>by
  by_cases he:v∈l
  ·rw[if_pos he]
   have h1:=List.count_pos_iff.2 he
   have h2:=List.nodup_iff_count.1 hl v
   omega
  ·rw[if_neg he];exact List.count_eq_zero.2 he
 rw[c hl,c hk]
 by_cases hv:v∈l
 ·rw[if_pos hv,if_pos ((h v).1 hv)]
 ·rw[if_neg hv,if_neg (λhh=>hv ((h v).2 hh))]
structure Sphere (T:List T3) (n:Nat):Prop where
 pos:0<T.length
 own:∃f:P2->Nat,∀p,p<T.length->∀e∈Q8 (tAt T p),f e=p
 clo:∀p,p<T.length->∀e∈Q8 (tAt T p),∃q,q<T.length/\e.rev∈Q8 (tAt T q)
 one:∀i,i<T.length->Conn T 0 i
 ok:Wi n T=true
 flat:∀t∈T,t.a≠t.b/\t.b≠t.c/\t.c≠t.a
 used:∀v:Nat,v<n->∃t∈T,(v:Int)=t.a∨(v:Int)=t.b∨(v:Int)=t.c
 num:T.length+4=2*n
theorem Sphere.coh {T:List T3} {n:Nat} (h:Sphere T n):Coh T:=by
 obtain⟨f,hf⟩:=h.own
 intro i j e hi hj h1 h2
 rw[<- hf i hi e h1,hf j hj e h2]
theorem Sphere.Clo {T:List T3} {n:Nat} (h:Sphere T n):Go.Abs.Clo T:=by
 intro e he
 obtain⟨p,hp,h1⟩:=mem_all.1 he
 obtain⟨q,hq,h2⟩:=h.clo p hp e h1
 exact mem_all.2 ⟨q,hq,h2⟩
theorem Q45:∀n,0<n->((List.range n).filter λi=>decide (i=0)).length=1
 | 0,h=>by omega
 | 1,_=>by simp
 | n+2,_=>by
   rw[List.range_succ,List.filter_append,j3,Q45 (n+1) (by omega)]
   simp
theorem Sphere.shells {m:Mesh} {n:Nat} (h:Sphere m.tris n) (hz:m.check=0):m.shells.length=1:=by
 obtain⟨L,hL⟩:=Q9e m.tris
 have hR:m.shells=J7 L m.tris.length:=by unfold Mesh.shells;rw[if_pos hz,Bi hL,hL.len]
 have h0:L[0]?=some 0:=by
  have h1:L[0]?=some (L[0]'(by rw[hL.len];exact h.pos)):=q9 _
  obtain⟨a,b,_⟩:=hL.con 0 _ h1
  rw[h1];congr 1;omega
 rw[hR]
 unfold J7
 rw[List.length_map]
 have:(List.range m.tris.length).filter (λ(i:Nat)=>decide (L[i]?=some (i:Int)))=(List.range m.tris.length).filter λi=>decide (i=0):=by
  refine List.filter_congr λi hi=>?_
  rw[decide_eq_decide,<- hL.conn (h.one i (qy.1 hi)),h0]
  constructor
  ·intro hh;have:=Option.some.inj hh;omega
  ·rintro rfl;rfl
 rw[this]
 exact Q45 _ h.pos
theorem Qa1 {t:T3} (h:t.a≠t.b/\t.b≠t.c/\t.c≠t.a):Q8 t=Ka t:=by
 have h2:Q8 t=(Ka t).filter λe=>decide (e.x≠e.y):=rfl
 rw[h2]
 unfold Ka
 simp[h.1,h.2.1,h.2.2]
theorem Bw:∀{T:List T3},(∀t∈T,t.a≠t.b/\t.b≠t.c/\t.c≠t.a)->(Qd T).length=3*T.length
 | [],_=>rfl
 | t::T,h=>by
   have h0:Qd (t::T)=Q8 t++Qd T:=rfl
   rw[h0,j3,Bw (λx hx=>h x (by simp[hx])),Qa1 (h t (by simp)),List.length_cons]
   simp only[Ka,List.length_cons,List.length_nil];omega
theorem Ql4 {l:List P2} (h:asc l):l.Nodup:=by
 unfold asc at h
 exact h.imp λ{a b} hab=>by rintro rfl;exact P2.lt_irrefl a hab
theorem Sphere.edges {m:Mesh} {n:Nat} (h:Sphere m.tris n) (hz:m.check=0):2*m.edgesL.length=3*m.tris.length:=by
 rw[<- Bw h.flat]
 have hnd:=coh_iff.2 h.coh
 have hcl:∀e∈Qd m.tris,e.rev∈Qd m.tris:=h.Clo
 have hne:∀e∈Qd m.tris,e.x≠e.y:=λe he=>Qg8 he
 have hE:m.edgesL=U4 ((Qd m.tris).map P2.und):=by unfold Mesh.edgesL;rw[if_pos hz]
 rw[hE]
 generalize Qd m.tris=A at *
 have hB1:(U4 (A.map P2.und)).length=(A.filter λe=>decide (e.x<e.y)).length:=by
  have hm:∀a,a∈U4 (A.map P2.und)↔a∈A.filter λe=>decide (e.x<e.y):=λa=>by
   rw[Ue,qo,qu,decide_eq_true_eq]
   constructor
   ·rintro⟨e,he,rfl⟩
    by_cases hlt:e.x<e.y
    ·rw[Qm6 hlt];exact⟨he,hlt⟩
    ·rw[und_gt hlt]
     have:=hne e he
     exact⟨hcl e he,by show e.y<e.x;omega⟩
   ·rintro⟨he,hlt⟩
    exact⟨a,he,Qm6 hlt⟩
  refine Nat.le_antisymm (Jh (Ql4 (Uq _)) λa ha=>(hm a).1 ha) (Jh (hnd.filter _) λa ha=>(hm a).2 ha)
 have hB2:(A.filter λe=>decide (e.x<e.y)).length=(A.filter λe=>!decide (e.x<e.y)).length:=by
  have hinj:∀l:List P2,l.Nodup->(l.map P2.rev).Nodup:=λl hl=>by
   rw[List.nodup_iff_pairwise_ne,je]
   exact hl.imp λ{a b} hab hh=>hab (by have:=congrArg P2.rev hh;exact this)
  refine Nat.le_antisymm ?_ ?_
  ·have:=Jh (hinj _ (hnd.filter λe=>decide (e.x<e.y))) (B:=A.filter λe=>!decide (e.x<e.y)) λa ha=>by
    obtain⟨b,hb,rfl⟩:=qo.1 ha
    obtain⟨h1,h2⟩:=qu.1 hb
    rw[decide_eq_true_eq]at h2
    refine qu.2 ⟨hcl b h1,?_⟩
    have:¬ b.rev.x<b.rev.y:=by show ¬ b.y<b.x;omega
    simp[this]
   simpa using this
  ·have:=Jh (hinj _ (hnd.filter λe=>!decide (e.x<e.y))) (B:=A.filter λe=>decide (e.x<e.y)) λa ha=>by
    obtain⟨b,hb,rfl⟩:=qo.1 ha
    obtain⟨h1,h2⟩:=qu.1 hb
    have h3:¬ b.x<b.y:=by simpa using h2
    have h4:=hne b h1
    refine qu.2 ⟨hcl b h1,?_⟩
    have:b.rev.x<b.rev.y:=by show b.y<b.x;omega
    simpa using this
   simpa using this
 have hsum:A.length=(A.filter λe=>decide (e.x<e.y)).length+(A.filter λe=>!decide (e.x<e.y)).length:=by
  generalize A=l
  induction l with
  | nil=>rfl
  | cons a l ih =>
    rw[List.filter_cons,List.filter_cons,List.length_cons]
    by_cases hh:a.x<a.y<;>simp[hh]<;>omega
 omega
theorem Sphere.euler {m:Mesh} (h:Sphere m.tris m.verts.length) (hz:m.check=0):m.euler=2:=by
 have hE:=h.edges hz
 obtain⟨u1,u2,_⟩:=Qm4 m.tris
 have hU:(Kc m.tris).length=m.verts.length:=by
  have hp:(Kc m.tris).Perm ((List.range m.verts.length).map λ(j:Nat)=>(j:Int)):=by
   refine Qc3 u1 ?_ λv=>?_
   ·rw[List.nodup_iff_pairwise_ne,je]
    have h0:(List.range m.verts.length).Nodup:=List.nodup_range
    rw[List.nodup_iff_pairwise_ne]at h0
    exact h0.imp λ{a b:Nat} (h:a≠b) (hh:(a:Int)=(b:Int))=>h (by omega)
   ·rw[u2,qo]
    constructor
    ·rintro⟨t,ht,hv⟩
     obtain⟨a1,a2,b1,b2,c1,c2⟩:=T3.ok_iff.1 (qj.1 h.ok t ht)
     exact⟨v.toNat,qy.2 (by omega),by omega⟩
    ·rintro⟨j,hj,rfl⟩
     exact h.used j (qy.1 hj)
  have:=hp.length_eq
  simpa using this
 have hn:=h.num
 unfold Mesh.euler
 rw[if_pos hz,hU]
 omega
theorem Sphere.all {m:Mesh} (h:Sphere m.tris m.verts.length) (hz:m.check=0):m.closed=true/\m.coh=true/\m.shells.length=1/\m.euler=2 :=
 ⟨Qg0 hz h.coh h.Clo,by unfold Mesh.coh;rw[hz,cohB_iff.2 h.coh];rfl,h.shells hz,h.euler hz⟩
def boxOwn (e:P2):Nat:=((List.range 12).find? λp=>decide (e∈Q8 (tAt Qk p))).getD 0
theorem X7 {i j:Nat} (h:((decide (i<12) && decide (j<12)) && (Q8 (tAt Qk i)).any λa=>(Q8 (tAt Qk j)).any λb=>decide (a.und=b.und))=true):adjI Qk i j:=by
 simp only[Bool.and_eq_true,decide_eq_true_eq,List.any_eq_true]at h
 obtain⟨⟨h1,h2⟩,a,ha,b,hb,hab⟩:=h
 exact Qqy h1 h2 ha hb hab
theorem box_sphere:Sphere Qk 8 where
 pos:=by decide
 own:=⟨boxOwn,by decide⟩
 clo:=by decide
 one:=by
  have c0:Conn Qk 0 0:=.refl (by decide)
  have c1:Conn Qk 0 1:=c0.tail (X7 (by decide))
  have c4:Conn Qk 0 4:=c1.tail (X7 (by decide))
  have c5:Conn Qk 0 5:=c4.tail (X7 (by decide))
  have c2:Conn Qk 0 2:=c5.tail (X7 (by decide))
  have c3:Conn Qk 0 3:=c2.tail (X7 (by decide))
  have c6:Conn Qk 0 6:=c3.tail (X7 (by decide))
  have c7:Conn Qk 0 7:=c6.tail (X7 (by decide))
  have c8:Conn Qk 0 8:=c5.tail (X7 (by decide))
  have c9:Conn Qk 0 9:=c8.tail (X7 (by decide))
  have c10:Conn Qk 0 10:=c7.tail (X7 (by decide))
  have c11:Conn Qk 0 11:=c10.tail (X7 (by decide))
  intro i hi
  have hi:i<12:=hi
  match i,hi with
  | 0,_=>exact c0
  | 1,_=>exact c1
  | 2,_=>exact c2
  | 3,_=>exact c3
  | 4,_=>exact c4
  | 5,_=>exact c5
  | 6,_=>exact c6
  | 7,_=>exact c7
  | 8,_=>exact c8
  | 9,_=>exact c9
  | 10,_=>exact c10
  | 11,_=>exact c11
 ok:=by decide
 flat:=by decide
 used:=by decide
 num:=by decide
theorem Qgw (p s:V3):Xd (Qe p s) Qk=6*s.x*s.y*s.z:=by
 have h:∀i:Nat,i<8->vAt (Qe p s) (i:Int)=(Qe p s).getD i ⟨0,0,0⟩:=λi _=>by
  unfold vAt;rw[Int.toNat_natCast,List.getD_eq_getElem?_getD]
 have h0:vAt (Qe p s) 0=⟨p.x,p.y,p.z⟩:=h 0 (by omega)
 have h1:vAt (Qe p s) 1=⟨p.x+s.x,p.y,p.z⟩:=h 1 (by omega)
 have h2:vAt (Qe p s) 2=⟨p.x,p.y+s.y,p.z⟩:=h 2 (by omega)
 have h3:vAt (Qe p s) 3=⟨p.x+s.x,p.y+s.y,p.z⟩:=h 3 (by omega)
 have h4:vAt (Qe p s) 4=⟨p.x,p.y,p.z+s.z⟩:=h 4 (by omega)
 have h5:vAt (Qe p s) 5=⟨p.x+s.x,p.y,p.z+s.z⟩:=h 5 (by omega)
 have h6:vAt (Qe p s) 6=⟨p.x,p.y+s.y,p.z+s.z⟩:=h 6 (by omega)
 have h7:vAt (Qe p s) 7=⟨p.x+s.x,p.y+s.y,p.z+s.z⟩:=h 7 (by omega)
 simp only[Xd,Qk,List.map_cons,List.map_nil,List.sum_cons,List.sum_nil,Qb3,h0,h1,h2,h3,h4,h5,h6,h7,Qd4,Qqh,crs]
 grind
def cr (p q:P2):Int:=p.x*q.y-p.y*q.x
structure SoundM (m:Mesh) (v:Int):Prop where
 a:m.closed=true
 b:m.coh=true
 c:m.shells.length=1
 d:m.euler=2
 e:m.vol6=v
 f:0<v
theorem Qmo {m:Mesh} {v:Int} (hv:Jl m.verts=true) (h:Sphere m.tris m.verts.length) (hl:m.verts.length<=200) (he:Xd m.verts m.tris=v) (hp:0<v):SoundM m v:=by
 have hn:=h.num
 have hz:m.check=0:=Mesh.check_zero.2 ⟨by omega,by omega,hv,h.ok⟩
 obtain⟨a,b,c,d⟩:=h.all hz
 exact⟨a,b,c,d,by unfold Mesh.vol6;rw[if_pos hz,he],hp⟩
theorem Q7z {p s:V3} (h1:1<=s.x) (h2:1<=s.y) (h3:1<=s.z) (hp:p.valid=true) (hs:(p.add s).valid=true):SoundM ⟨Qe p s,Qk⟩ (6*s.x*s.y*s.z):=by
 have q1:=V3.valid_iff.1 hp
 have q2:=V3.valid_iff.1 hs
 simp only[V3.add]at q2
 refine Qmo ?_ box_sphere (by simp[Qe]) (Qgw p s) ?_
 ·simp only[Jl,Qe,List.all_cons,List.all_nil,Bool.and_true,Bool.and_eq_true]
  refine⟨?_,?_,?_,?_,?_,?_,?_,?_⟩<;>rw[V3.valid_iff]<;>simp only<;>omega
 ·have a1:=Int.mul_pos (show (0:Int)<6*s.x by omega) (show (0:Int)<s.y by omega)
  exact Int.mul_pos a1 (by omega)
def upAt (m:Mesh) (z:Int) (e:P2):Option (Int × Int):=point (m.v e.x) (m.v e.y) z
theorem Qgy {m:Mesh} {z:Int} {e:P2} {p:Int × Int} (h:upAt m z e=some p):e.x≠e.y:=by
 intro he
 unfold upAt point at h
 rw[he]at h
 split at h
 ·rename_i hh;omega
 ·simp at h
theorem Ef {t:T3} {q:P2->Bool} (hq:∀e,q e=true->e.x≠e.y):(Q8 t).countP q=(Ka t).countP q:=by
 unfold Q8 Zr
 rw[List.countP_filter,qe (by simp[Ka])]
 refine List.countP_congr λe _=>?_
 have:=hq e
 by_cases h:q e=true
 ·simp[h,this h]
 ·simp[h]
theorem Qfw {a b c:V3} {z:Int} (ha:a.valid=true) (hb:b.valid=true) (hc:c.valid=true) (p:Int × Int) :
  ([Q6q z a b c].filter (·.found)).countP (λs=>decide (s.b=p))=[point a b z,point b c z,point c a z].countP (λo=>decide (o=some p)) /\
  ([Q6q z a b c].filter (·.found)).countP (λs=>decide (s.a=p))=[point b a z,point c b z,point a c z].countP (λo=>decide (o=some p)):=by
 by_cases h1:a.z<=z<;>by_cases h2:b.z<=z<;>by_cases h3:c.z<=z <;>
  simp[Q6q,Jv,Sg4.init,Sg4.step,point,ha,hb,hc,h1,h2,h3,Int.not_lt.2,Int.not_le.1,show (z<a.z)=¬ (a.z<=z) by simp,show (z<b.z)=¬ (b.z<=z) by simp,show (z<c.z)=¬ (c.z<=z) by simp,List.countP_cons]
theorem P2.rev_rev (e:P2):e.rev.rev=e:=rfl
theorem Q3s {m:Mesh} {z:Int} (hv:Jl m.verts=true) (p:Int × Int):∀ts:List T3,Wi m.verts.length ts=true ->
  (Y0 m z ts).countP (λs=>decide (s.b=p))=(Qd ts).countP (λe=>decide (upAt m z e=some p)) /\
  (Y0 m z ts).countP (λs=>decide (s.a=p))=(Qd ts).countP (λe=>decide (upAt m z e.rev=some p))
 | [],_=>⟨rfl,rfl⟩
 | t::ts,h=>by
   simp only[Wi,List.all_cons,Bool.and_eq_true]at h
   have ih:=Q3s (z:=z) hv p ts h.2
   obtain⟨_,h1,_,h2,_,h3⟩:=T3.ok_iff.1 h.1
   have hs:Y0 m z (t::ts)=[K7 m z t].filter (·.found)++Y0 m z ts:=by
    simp only[Y0,List.map_cons,List.filter_cons,List.filter_nil]
    split<;>rfl
   have ha:Qd (t::ts)=Q8 t++Qd ts:=rfl
   have hc:=Qfw (z:=z) (Mesh.v_valid hv h1) (Mesh.v_valid hv h2) (Mesh.v_valid hv h3) p
   rw[hs,ha,List.countP_append,List.countP_append,List.countP_append,List.countP_append,ih.1,ih.2,
    Ef (λe he=>Qgy (of_decide_eq_true he)),Ef (λe he=>λhh=>Qgy (of_decide_eq_true he) hh.symm)]
   unfold K7
   rw[hc.1,hc.2]
   exact⟨rfl,rfl⟩
theorem Qa4 {m:Mesh} (h:m.closed=true) (e:P2):(Qd m.tris).count e=(Qd m.tris).count e.rev:=by
 simp only[Mesh.closed,Bool.and_eq_true,decide_eq_true_eq]at h
 obtain⟨hz,hb⟩:=h
 have key:∀e:P2,(Qd m.tris).count e<=(Qd m.tris).count e.rev:=by
  intro e
  by_cases he:e∈Qd m.tris
  ·refine j7 λhlt=>?_
   have:e∈m.border:=mem_border.2 ⟨hz,he,by simp only[Mesh.use,hz,if_true];omega⟩
   rw[hb]at this;simp at this
  ·rw[List.count_eq_zero.2 he];omega
 have h1:=key e
 have h2:=key e.rev
 rw[P2.rev_rev]at h2
 omega
theorem Qd7 {m:Mesh} (h:m.closed=true):(Qd m.tris).Perm ((Qd m.tris).map P2.rev):=by
 rw[List.perm_iff_count]
 intro e
 rw[Qa4 h e,List.count,List.count,List.countP_map]
 refine List.countP_congr λx _=>?_
 simp only[Function.comp,beq_iff_eq]
 constructor
 ·rintro rfl;rfl
 ·rintro rfl;rfl
theorem Q5s {m:Mesh} {z:Int} (h:m.closed=true) (p:Int × Int) :
  (Zv m z).1.countP (λs=>decide (s.a=p))=(Zv m z).1.countP (λs=>decide (s.b=p)):=by
 have hz:m.check=0:=by
  simp only[Mesh.closed,Bool.and_eq_true,decide_eq_true_eq]at h;exact h.1
 obtain⟨z1,z2,z3,z4⟩:=Mesh.check_zero.1 hz
 unfold Zv
 rw[if_pos hz]
 split
 ·rfl
 ·have hc:=Q3s (z:=z) z3 p m.tris z4
  simp only
  rw[hc.1,hc.2,(Qd7 h).countP_eq,List.countP_map]
  rfl
theorem Qnm {m:Mesh} {n:Nat} (h:Sphere m.tris n) (hz:m.check=0) {sh:List Int} (hs:sh∈m.shells):Zm m.tris sh=m.tris:=by
 obtain⟨L,hL⟩:=Q9e m.tris
 have hR:m.shells=J7 L m.tris.length:=by unfold Mesh.shells;rw[if_pos hz,Bi hL,hL.len]
 rw[hR]at hs
 obtain⟨i,hi,hLi,rfl⟩:=shsK_mem.1 hs
 have hall:∀j,j<m.tris.length->L[j]?=some (i:Int):=λj hj=>by
  rw[<- hL.conn (h.one j hj),hL.conn (h.one i hi)];exact hLi
 have hsh:shK L i L.length=(List.range m.tris.length).map λ(j:Nat)=>(j:Int):=by
  unfold shK
  rw[hL.len]
  congr 1
  refine List.filter_eq_self.2 λj hj=>?_
  simpa using hall j (qy.1 hj)
 rw[hsh]
 unfold Zm
 rw[List.map_map]
 refine qx λj=>?_
 rw[qp]
 by_cases hj:j<m.tris.length
 ·rw[jk hj,Zt hj];rfl
 ·rw[qk (by simpa using hj),qk (by simpa using hj)];rfl
theorem box_ok {p s:V3} (h1:1<=s.x) (h2:1<=s.y) (h3:1<=s.z) (hp:p.valid=true) (hs:(p.add s).valid=true):(Mesh.mk (Qe p s) Qk).check=0/\U0 ⟨Qe p s,Qk⟩=0:=by
 have q1:=V3.valid_iff.1 hp
 have q2:=V3.valid_iff.1 hs
 simp only[V3.add]at q2
 have hv:Jl (Qe p s)=true:=by
  simp only[Jl,Qe,List.all_cons,List.all_nil,Bool.and_true,Bool.and_eq_true]
  refine⟨?_,?_,?_,?_,?_,?_,?_,?_⟩<;>rw[V3.valid_iff]<;>simp only<;>omega
 have hz:(Mesh.mk (Qe p s) Qk).check=0:=Mesh.check_zero.2 ⟨by simp[Qe],by simp[Qk],hv,box_sphere.ok⟩
 have hb:=Q7z h1 h2 h3 hp hs
 refine⟨hz,snd_iff.2 ⟨hz,hb.a,box_sphere.coh,λt ht=>?_,λsh hsh=>?_⟩⟩
 ·have hxy:s.x*s.y≠0:=Int.mul_ne_zero (by omega) (by omega)
  have hxz:s.x*s.z≠0:=Int.mul_ne_zero (by omega) (by omega)
  have hyz:s.y*s.z≠0:=Int.mul_ne_zero (by omega) (by omega)
  have key:∀a b c:V3,(b.sub a).crs (c.sub a)≠⟨0,0,0⟩->Wz a b c=false:=λa b c h=>by
   unfold Wz
   rw[decide_eq_false h]
   simp
  unfold Mesh.deg
  simp only[Qk,List.mem_cons,List.not_mem_nil,or_false]at ht
  rcases ht with rfl | rfl | rfl | rfl | rfl | rfl | rfl | rfl | rfl | rfl | rfl | rfl<;>refine key _ _ _ λhe=>?_<;>simp[Mesh.v,Qe,V3.sub,V3.crs]at he<;>(rcases Int.mul_eq_zero.1 he with he | he)<;>omega
 ·rw[Qnm (m:=Mesh.mk (Qe p s) Qk) box_sphere hz hsh]
  have:=hb.e
  have hf:=hb.f
  have e:Xd (Qe p s) Qk=6*s.x*s.y*s.z:=Qgw p s
  show 0<=Xd (Qe p s) Qk
  rw[e];omega
theorem Qqu {l:List Sg4} (h:∀p:Int × Int,l.countP (λs=>decide (s.a=p))=l.countP (λs=>decide (s.b=p))):Q00 (egs l):=by
 intro q
 have:=h (q.x,q.y)
 unfold egs
 rw[List.countP_map,List.countP_map]
 have e1:∀s:Sg4,decide (s.a=(q.x,q.y))=decide (s.eg.1=q):=λs=>by
  refine decide_eq_decide.2 ?_
  unfold Sg4.eg
  cases q
  simp[Prod.ext_iff]
 have e2:∀s:Sg4,decide (s.b=(q.x,q.y))=decide (s.eg.2=q):=λs=>by
  refine decide_eq_decide.2 ?_
  unfold Sg4.eg
  cases q
  simp[Prod.ext_iff]
 rw[List.countP_congr (p:=λs:Sg4=>decide (s.a=(q.x,q.y))) (q:=(λe=>decide (e.1=q)) ∘ Sg4.eg) (λs _=>by simp only[e1,Function.comp])]at this
 rw[List.countP_congr (p:=λs:Sg4=>decide (s.b=(q.x,q.y))) (q:=(λe=>decide (e.2=q)) ∘ Sg4.eg) (λs _=>by simp only[e2,Function.comp])]at this
 exact this
theorem Q8i {m:Mesh} (hc:m.closed=true) {z k:Int} (hz:-65536<=z/\z<=65536) (hk:Z2 k 32 1024=true):Zd m z k=(Uw (egs (Y0 m z m.tris)) k,0):=by
 have hz0:m.check=0:=by
  simp only[Mesh.closed,Bool.and_eq_true,decide_eq_true_eq]at hc;exact hc.1
 have hs:Zv m z=(Y0 m z m.tris,0):=by
  unfold Zv
  rw[if_pos hz0,if_neg (by omega)]
 have hb:=Qqu (l:=(Zv m z).1) (Q5s hc)
 unfold Zd
 rw[hs]at hb ⊢
 rw[if_neg (by rw[hk];simp),if_neg (by simp),if_pos hb]
end Go.Abs
