/- Part of the library on which the proof stands: an abstract machine, its values and its soundness against the model; or what functions of the program do to such values. -/
import Derived.Test.YtjggbpiapinceaaGreatGoShpO
import Derived.Test.YtjggbpiapinceaaGreatGoSp
import Derived.Test.YtjggbpiapinceaaGreatGoDet
import Derived.Test.YtjggbpiapinceaaGreatGoRsD
import Derived.Test.YtjggbpiapinceaaGreatGoBl
import Derived.Test.YtjggbpiapinceaaGreatGoShp
import Derived.Test.YtjggbpiapinceaaGreatGoOriB
import Derived.Test.YtjggbpiapinceaaGreatGoRevC
set_option linter.unusedVariables false
set_option linter.unusedSimpArgs false
set_option maxHeartbeats 4000000
set_option maxRecDepth 20000
namespace Go.Abs
noncomputable def Mesh.inv (m:Mesh):Bool:=m.shells.any λsh=>decide (Yv m.verts (Zi m.tris sh)<0)
noncomputable def Q03 (m:Mesh):Int :=
 if m.check≠0 then m.check else if m.closed=false then 12 else if Q01 m.tris=false then 13 else if m.tris.any m.deg=true then 1 else if m.inv=true then 1 else 0
structure Snd (m:Mesh):Prop where
 z:m.check=0
 clo:m.closed=true
 coh:Coh m.tris
 deg:∀t∈m.tris,m.deg t=false
 vol:∀sh∈m.shells,0<=Yv m.verts (Zi m.tris sh)
theorem snd_iff {m:Mesh}:Q03 m=0↔Snd m:=by
 unfold Q03
 constructor
 ·intro h
  by_cases h1:m.check=0
  case neg=>rw[if_pos h1]at h;exact absurd h h1
  rw[if_neg (by simpa using h1)]at h
  by_cases h2:m.closed=false
  case pos=>rw[if_pos h2]at h;simp at h
  rw[if_neg h2]at h
  by_cases h3:Q01 m.tris=false
  case pos=>rw[if_pos h3]at h;simp at h
  rw[if_neg h3]at h
  by_cases h4:m.tris.any m.deg=true
  case pos=>rw[if_pos h4]at h;simp at h
  rw[if_neg h4]at h
  by_cases h5:m.inv=true
  case pos=>rw[if_pos h5]at h;simp at h
  refine⟨h1,by simpa using h2,cohB_iff.1 (by simpa using h3),?_,?_⟩
  ·intro t ht
   cases hd:m.deg t with
   | false=>rfl
   | true=>exact absurd (List.any_eq_true.2 ⟨t,ht,hd⟩) h4
  ·intro sh hs
   by_cases hn:Yv m.verts (Zi m.tris sh)<0
   ·exact absurd (List.any_eq_true.2 ⟨sh,hs,by simpa using hn⟩) h5
   ·omega
 ·intro h
  have h4:m.tris.any m.deg=false:=by
   rw[List.any_eq_false];intro t ht;rw[h.deg t ht];simp
  have h5:m.inv=false:=by
   unfold Mesh.inv
   rw[List.any_eq_false];intro sh hs;have:=h.vol sh hs;simp;omega
  rw[if_neg (by simpa using h.z),if_neg (by rw[h.clo];simp),if_neg (by rw[cohB_iff.2 h.coh];simp),if_neg (by rw[h4];simp),if_neg (by rw[h5];simp)]
def Qc6 (U:List Int) (x:Int):List Int:=if x∈U then U else U++[x]
def Qc7 (U:List Int) (t:T3):List Int:=Qc6 (Qc6 (Qc6 U t.a) t.b) t.c
def Ju (ts:List T3):List Int:=ts.foldl Qc7 []
theorem Qau (ts:List T3) (t:T3):Ju (ts++[t])=Qc7 (Ju ts) t:=by simp[Ju]
theorem Q6m {U:List Int} (h:U.Nodup) (x:Int):(Qc6 U x).Nodup/\(∀v,v∈Qc6 U x↔v∈U∨v=x)/\(Qc6 U x).length<=U.length+1:=by
 unfold Qc6
 split
 ·rename_i hx
  exact⟨h,λv=>⟨.inl,λhh=>hh.elim id (λe=>e ▸ hx)⟩,by omega⟩
 ·rename_i hx
  refine⟨?_,λv=>by simp,by simp⟩
  rw[List.nodup_append]
  exact⟨h,by simp,λa ha b hb=>by simp at hb;subst hb;rintro rfl;exact hx ha⟩
theorem insT_ok {U:List Int} (h:U.Nodup) (t:T3):(Qc7 U t).Nodup/\(∀v,v∈Qc7 U t↔v∈U∨v=t.a∨v=t.b∨v=t.c)/\(Qc7 U t).length<=U.length+3:=by
 obtain⟨a1,a2,a3⟩:=Q6m h t.a
 obtain⟨b1,b2,b3⟩:=Q6m a1 t.b
 obtain⟨c1,c2,c3⟩:=Q6m b1 t.c
 refine⟨c1,λv=>?_,by unfold Qc7;omega⟩
 unfold Qc7
 rw[c2,b2,a2,or_assoc,or_assoc]
theorem Qia (ts:List T3):(Ju ts).Nodup/\(∀v,v∈Ju ts↔∃t∈ts,v=t.a∨v=t.b∨v=t.c)/\(Ju ts).length<=3*ts.length:=by
 have key:∀k,k<=ts.length->(Ju (ts.take k)).Nodup/\(∀v,v∈Ju (ts.take k)↔∃t∈ts.take k,v=t.a∨v=t.b∨v=t.c)/\(Ju (ts.take k)).length<=3*k:=by
  intro k
  induction k with
  | zero=>intro _;simp[Ju]
  | succ k ih =>
    intro hk
    obtain⟨h1,h2,h3⟩:=ih (by omega)
    have hp:ts[k]?=some ts[k]:=q9 (by omega)
    rw[Qf hp,Qau]
    obtain⟨i1,i2,i3⟩:=insT_ok h1 ts[k]
    refine⟨i1,λv=>?_,by omega⟩
    rw[i2,h2]
    constructor
    ·rintro (⟨t,ht,hv⟩ | hv)
     ·exact⟨t,qg.2 (.inl ht),hv⟩
     ·exact⟨ts[k],qg.2 (.inr (by simp)),hv⟩
    ·rintro⟨t,ht,hv⟩
     rcases qg.1 ht with h | h
     ·exact .inl ⟨t,h,hv⟩
     ·simp at h;subst h;exact .inr hv
 have:=key ts.length (Nat.le_refl _)
 rwa [qi]at this
def Mesh.euler (m:Mesh):Int:=if m.check=0 then ((Ju m.tris).length:Int)-m.edgesL.length+m.tris.length else 0
theorem Q92 {l k:List Int} (hl:l.Nodup) (hk:k.Nodup) (h:∀v,v∈l↔v∈k):l.Perm k:=by
 rw[List.perm_iff_count]
 intro v
 have c:∀{l:List Int},l.Nodup->l.count v=if v∈l then 1 else 0:=λ{l} hl=>by
  by_cases he:v∈l
  ·rw[if_pos he]
   have h1:=List.count_pos_iff.2 he
   have h2:=List.nodup_iff_count.1 hl v
   omega
  ·rw[if_neg he];exact List.count_eq_zero.2 he
 rw[c hl,c hk]
 by_cases hv:v∈l
 ·rw[if_pos hv,if_pos ((h v).1 hv)]
 ·rw[if_neg hv,if_neg (λhh=>hv ((h v).2 hh))]
structure Sphere (T:List T3) (n:Nat):Prop where
 pos:0<T.length
 own:∃f:P2->Nat,∀p,p<T.length->∀e∈Q7 (tAt T p),f e=p
 clo:∀p,p<T.length->∀e∈Q7 (tAt T p),∃q,q<T.length/\e.rev∈Q7 (tAt T q)
 one:∀i,i<T.length->Conn T 0 i
 ok:W2 n T=true
 flat:∀t∈T,t.a≠t.b/\t.b≠t.c/\t.c≠t.a
 used:∀v:Nat,v<n->∃t∈T,(v:Int)=t.a∨(v:Int)=t.b∨(v:Int)=t.c
 num:T.length+4=2*n
theorem Sphere.coh {T:List T3} {n:Nat} (h:Sphere T n):Coh T:=by
 obtain⟨f,hf⟩:=h.own
 intro i j e hi hj h1 h2
 rw[<- hf i hi e h1,hf j hj e h2]
theorem Sphere.Clo {T:List T3} {n:Nat} (h:Sphere T n):Go.Abs.Clo T:=by
 intro e he
 obtain⟨p,hp,h1⟩:=mem_all.1 he
 obtain⟨q,hq,h2⟩:=h.clo p hp e h1
 exact mem_all.2 ⟨q,hq,h2⟩
theorem Q2b:∀n,0<n->((List.range n).filter λi=>decide (i=0)).length=1
 | 0,h=>by omega
 | 1,_=>by simp
 | n+2,_=>by
   rw[List.range_succ,List.filter_append,j3,Q2b (n+1) (by omega)]
   simp
theorem Sphere.shells {m:Mesh} {n:Nat} (h:Sphere m.tris n) (hz:m.check=0):m.shells.length=1:=by
 obtain⟨L,hL⟩:=Q6j m.tris
 have hR:m.shells=Xr L m.tris.length:=by unfold Mesh.shells;rw[if_pos hz,Ic hL,hL.len]
 have h0:L[0]?=some 0:=by
  have h1:L[0]?=some (L[0]'(by rw[hL.len];exact h.pos)):=q9 _
  obtain⟨a,b,_⟩:=hL.con 0 _ h1
  rw[h1];congr 1;omega
 rw[hR]
 unfold Xr
 rw[List.length_map]
 have:(List.range m.tris.length).filter (λ(i:Nat)=>decide (L[i]?=some (i:Int)))=(List.range m.tris.length).filter λi=>decide (i=0):=by
  refine List.filter_congr λi hi=>?_
  rw[decide_eq_decide,<- hL.conn (h.one i (qy.1 hi)),h0]
  constructor
  ·intro hh;have:=Option.some.inj hh;omega
  ·rintro rfl;rfl
 rw[this]
 exact Q2b _ h.pos
theorem Q76 {t:T3} (h:t.a≠t.b/\t.b≠t.c/\t.c≠t.a):Q7 t=Jq t:=by
 have h2:Q7 t=(Jq t).filter λe=>decide (e.x≠e.y):=rfl
 rw[h2]
 unfold Jq
 simp[h.1,h.2.1,h.2.2]
theorem Ir:∀{T:List T3},(∀t∈T,t.a≠t.b/\t.b≠t.c/\t.c≠t.a)->(Qb T).length=3*T.length
 | [],_=>rfl
 | t::T,h=>by
   have h0:Qb (t::T)=Q7 t++Qb T:=rfl
   rw[h0,j3,Ir (λx hx=>h x (by simp[hx])),Q76 (h t (by simp)),List.length_cons]
   simp only[Jq,List.length_cons,List.length_nil];omega
theorem Qha {l:List P2} (h:asc l):l.Nodup:=by
 unfold asc at h
 exact h.imp λ{a b} hab=>by rintro rfl;exact P2.lt_irrefl a hab
theorem Sphere.edges {m:Mesh} {n:Nat} (h:Sphere m.tris n) (hz:m.check=0):2*m.edgesL.length=3*m.tris.length:=by
 rw[<- Ir h.flat]
 have hnd:=coh_iff.2 h.coh
 have hcl:∀e∈Qb m.tris,e.rev∈Qb m.tris:=h.Clo
 have hne:∀e∈Qb m.tris,e.x≠e.y:=λe he=>Qcz he
 have hE:m.edgesL=Wn ((Qb m.tris).map P2.und):=by unfold Mesh.edgesL;rw[if_pos hz]
 rw[hE]
 generalize Qb m.tris=A at *
 have hB1:(Wn (A.map P2.und)).length=(A.filter λe=>decide (e.x<e.y)).length:=by
  have hm:∀a,a∈Wn (A.map P2.und)↔a∈A.filter λe=>decide (e.x<e.y):=λa=>by
   rw[Wu,qo,qu,decide_eq_true_eq]
   constructor
   ·rintro⟨e,he,rfl⟩
    by_cases hlt:e.x<e.y
    ·rw[Qic hlt];exact⟨he,hlt⟩
    ·rw[und_gt hlt]
     have:=hne e he
     exact⟨hcl e he,by show e.y<e.x;omega⟩
   ·rintro⟨he,hlt⟩
    exact⟨a,he,Qic hlt⟩
  refine Nat.le_antisymm (J0 (Qha (U2 _)) λa ha=>(hm a).1 ha) (J0 (hnd.filter _) λa ha=>(hm a).2 ha)
 have hB2:(A.filter λe=>decide (e.x<e.y)).length=(A.filter λe=>!decide (e.x<e.y)).length:=by
  have hinj:∀l:List P2,l.Nodup->(l.map P2.rev).Nodup:=λl hl=>by
   rw[List.nodup_iff_pairwise_ne,jd]
   exact hl.imp λ{a b} hab hh=>hab (by have:=congrArg P2.rev hh;exact this)
  refine Nat.le_antisymm ?_ ?_
  ·have:=J0 (hinj _ (hnd.filter λe=>decide (e.x<e.y))) (B:=A.filter λe=>!decide (e.x<e.y)) λa ha=>by
    obtain⟨b,hb,rfl⟩:=qo.1 ha
    obtain⟨h1,h2⟩:=qu.1 hb
    rw[decide_eq_true_eq]at h2
    refine qu.2 ⟨hcl b h1,?_⟩
    have:¬ b.rev.x<b.rev.y:=by show ¬ b.y<b.x;omega
    simp[this]
   simpa using this
  ·have:=J0 (hinj _ (hnd.filter λe=>!decide (e.x<e.y))) (B:=A.filter λe=>decide (e.x<e.y)) λa ha=>by
    obtain⟨b,hb,rfl⟩:=qo.1 ha
    obtain⟨h1,h2⟩:=qu.1 hb
    have h3:¬ b.x<b.y:=by simpa using h2
    have h4:=hne b h1
    refine qu.2 ⟨hcl b h1,?_⟩
    have:b.rev.x<b.rev.y:=by show b.y<b.x;omega
    simpa using this
   simpa using this
 have hsum:A.length=(A.filter λe=>decide (e.x<e.y)).length+(A.filter λe=>!decide (e.x<e.y)).length:=by
  generalize A=l
  induction l with
  | nil=>rfl
  | cons a l ih =>
    rw[List.filter_cons,List.filter_cons,List.length_cons]
    by_cases hh:a.x<a.y<;>simp[hh]<;>omega
 omega
theorem Sphere.euler {m:Mesh} (h:Sphere m.tris m.verts.length) (hz:m.check=0):m.euler=2:=by
 have hE:=h.edges hz
 obtain⟨u1,u2,_⟩:=Qia m.tris
 have hU:(Ju m.tris).length=m.verts.length:=by
  have hp:(Ju m.tris).Perm ((List.range m.verts.length).map λ(j:Nat)=>(j:Int)):=by
   refine Q92 u1 ?_ λv=>?_
   ·rw[List.nodup_iff_pairwise_ne,jd]
    have h0:(List.range m.verts.length).Nodup:=List.nodup_range
    rw[List.nodup_iff_pairwise_ne]at h0
    exact h0.imp λ{a b:Nat} (h:a≠b) (hh:(a:Int)=(b:Int))=>h (by omega)
   ·rw[u2,qo]
    constructor
    ·rintro⟨t,ht,hv⟩
     obtain⟨a1,a2,b1,b2,c1,c2⟩:=T3.ok_iff.1 (qj.1 h.ok t ht)
     exact⟨v.toNat,qy.2 (by omega),by omega⟩
    ·rintro⟨j,hj,rfl⟩
     exact h.used j (qy.1 hj)
  have:=hp.length_eq
  simpa using this
 have hn:=h.num
 unfold Mesh.euler
 rw[if_pos hz,hU]
 omega
theorem Sphere.all {m:Mesh} (h:Sphere m.tris m.verts.length) (hz:m.check=0):m.closed=true/\m.coh=true/\m.shells.length=1/\m.euler=2 :=
 ⟨Qcq hz h.coh h.Clo,by unfold Mesh.coh;rw[hz,cohB_iff.2 h.coh];rfl,h.shells hz,h.euler hz⟩
def boxOwn (e:P2):Nat:=((List.range 12).find? λp=>decide (e∈Q7 (tAt Qi p))).getD 0
theorem Yo {i j:Nat} (h:((decide (i<12) && decide (j<12)) && (Q7 (tAt Qi i)).any λa=>(Q7 (tAt Qi j)).any λb=>decide (a.und=b.und))=true):adjI Qi i j:=by
 simp only[Bool.and_eq_true,decide_eq_true_eq,List.any_eq_true]at h
 obtain⟨⟨h1,h2⟩,a,ha,b,hb,hab⟩:=h
 exact Qmo h1 h2 ha hb hab
theorem box_sphere:Sphere Qi 8 where
 pos:=by decide
 own:=⟨boxOwn,by decide⟩
 clo:=by decide
 one:=by
  have c0:Conn Qi 0 0:=.refl (by decide)
  have c1:Conn Qi 0 1:=c0.tail (Yo (by decide))
  have c4:Conn Qi 0 4:=c1.tail (Yo (by decide))
  have c5:Conn Qi 0 5:=c4.tail (Yo (by decide))
  have c2:Conn Qi 0 2:=c5.tail (Yo (by decide))
  have c3:Conn Qi 0 3:=c2.tail (Yo (by decide))
  have c6:Conn Qi 0 6:=c3.tail (Yo (by decide))
  have c7:Conn Qi 0 7:=c6.tail (Yo (by decide))
  have c8:Conn Qi 0 8:=c5.tail (Yo (by decide))
  have c9:Conn Qi 0 9:=c8.tail (Yo (by decide))
  have c10:Conn Qi 0 10:=c7.tail (Yo (by decide))
  have c11:Conn Qi 0 11:=c10.tail (Yo (by decide))
  intro i hi
  have hi:i<12:=hi
  match i,hi with
  | 0,_=>exact c0
  | 1,_=>exact c1
  | 2,_=>exact c2
  | 3,_=>exact c3
  | 4,_=>exact c4
  | 5,_=>exact c5
  | 6,_=>exact c6
  | 7,_=>exact c7
  | 8,_=>exact c8
  | 9,_=>exact c9
  | 10,_=>exact c10
  | 11,_=>exact c11
 ok:=by decide
 flat:=by decide
 used:=by decide
 num:=by decide
theorem Qdf (p s:V3):Yv (Qd p s) Qi=6*s.x*s.y*s.z:=by
 have h:∀i:Nat,i<8->vAt (Qd p s) (i:Int)=(Qd p s).getD i ⟨0,0,0⟩:=λi _=>by
  unfold vAt;rw[Int.toNat_natCast,List.getD_eq_getElem?_getD]
 have h0:vAt (Qd p s) 0=⟨p.x,p.y,p.z⟩:=h 0 (by omega)
 have h1:vAt (Qd p s) 1=⟨p.x+s.x,p.y,p.z⟩:=h 1 (by omega)
 have h2:vAt (Qd p s) 2=⟨p.x,p.y+s.y,p.z⟩:=h 2 (by omega)
 have h3:vAt (Qd p s) 3=⟨p.x+s.x,p.y+s.y,p.z⟩:=h 3 (by omega)
 have h4:vAt (Qd p s) 4=⟨p.x,p.y,p.z+s.z⟩:=h 4 (by omega)
 have h5:vAt (Qd p s) 5=⟨p.x+s.x,p.y,p.z+s.z⟩:=h 5 (by omega)
 have h6:vAt (Qd p s) 6=⟨p.x,p.y+s.y,p.z+s.z⟩:=h 6 (by omega)
 have h7:vAt (Qd p s) 7=⟨p.x+s.x,p.y+s.y,p.z+s.z⟩:=h 7 (by omega)
 simp only[Yv,Qi,List.map_cons,List.map_nil,List.sum_cons,List.sum_nil,Q85,h0,h1,h2,h3,h4,h5,h6,h7,Qa0,Qm1,crs]
 grind
def cr (p q:P2):Int:=p.x*q.y-p.y*q.x
def Iv (P:Program) (f:FuncId):Prop:=∀v:V3,CallIs P f [v.enc] (.b (v.within 131072))
def Qem (P:Program) (f:FuncId):Prop:=∀b c:V3,b.valid=true->c.valid=true->CallIs P f [b.enc,c.enc] (crs b c).enc
def DotVC (P:Program) (f:FuncId):Prop:=∀a b:V3,a.valid=true->b.within 8589934592=true->CallIs P f [a.enc,b.enc] (.i .i64 (Qm1 a b))
theorem Xc {v:V3} (h:v.valid=true):v.within 131072=true:=by
 have:=V3.valid_iff.1 h
 simp[V3.within];omega
theorem Q83 {v:V3} {a b:Int} (hab:a<=b) (h:v.within a=true):v.within b=true:=by
 simp[V3.within]at h ⊢;omega
theorem Qco {b c:V3} (hb:b.valid=true) (hc:c.valid=true):(crs b c).within 8589934592=true:=by
 have:=crs_b hb hc
 simp[V3.within];omega
section
variable {P:Program} (hm:P.follows .mixedOrders=true)
include hm
theorem Q5n {f fw:FuncId} (hf:Qa P f (L20.c fw) L20.r L20.n) (hw:U3 P fw):Iv P f:=by
 intro v
 refine PureC.is (Q8 hm hf (qh rfl) ?_) rfl
 unfold L20.c
 simp[go_sem,V3.enc,V3.cs]
 refine Q5 ((hw v 131072 (by omega) (by omega)).is rfl) ?_
 simp[go_sem,L20.r]
theorem Q5p {f fs:FuncId} (hf:Qa P f (L1v.c fs) L1v.r L1v.n) (hs:Iv P fs):Qem P f:=by
 intro b c hb hc
 refine PureC.is (Q8 hm hf (qh rfl) ?_) rfl
 unfold L1v.c
 have h1:=hs b
 have h2:=hs c
 rw[Xc hb]at h1
 rw[Xc hc]at h2
 obtain⟨b1,b2,b3,b4,b5,b6⟩:=V3.valid_iff.1 hb
 obtain⟨c1,c2,c3,c4,c5,c6⟩:=V3.valid_iff.1 hc
 have m1:=Ks b3 b4 c5 c6
 have m2:=Ks b5 b6 c3 c4
 have m3:=Ks b5 b6 c1 c2
 have m4:=Ks b1 b2 c5 c6
 have m5:=Ks b1 b2 c3 c4
 have m6:=Ks b3 b4 c1 c2
 have hcr:crs b c=⟨b.y*c.z-b.z*c.y,b.z*c.x-b.x*c.z,b.x*c.y-b.y*c.x⟩:=rfl
 rw[hcr]
 simp[go_sem,V3.enc,V3.cs]at h1 h2 ⊢
 refine Q5 h1 ?_
 simp[go_sem]
 refine Q5 h2 ?_
 simp (disch:=omega) [go_sem,Q3,L1v.r]
theorem Qar {f fs fw:FuncId} (hf:Qa P f (L1x.c fs fw) L1x.r L1x.n) (hs:Iv P fs) (hw:U3 P fw):DotVC P f:=by
 intro a b ha hb
 refine PureC.is (Q8 hm hf (qh rfl) ?_) rfl
 unfold L1x.c
 have h1:=hs a
 have h2:=(hw b 1099511627776 (by omega) (by omega)).is rfl
 rw[Xc ha]at h1
 rw[Q83 (by omega) hb]at h2
 obtain⟨b1,b2,b3,b4,b5,b6⟩:=V3.valid_iff.1 ha
 simp only[V3.within,Bool.and_eq_true,decide_eq_true_eq]at hb
 obtain⟨⟨⟨⟨⟨c1,c2⟩,c3⟩,c4⟩,c5⟩,c6⟩:=hb
 have m1:=Qbt b1 b2 c1 c2
 have m2:=Qbt b3 b4 c3 c4
 have m3:=Qbt b5 b6 c5 c6
 have hd:Qm1 a b=a.x*b.x+a.y*b.y+a.z*b.z:=rfl
 rw[hd]
 simp[go_sem,V3.enc,V3.cs]at h1 h2 ⊢
 refine Q5 h1 ?_
 simp[go_sem]
 refine Q5 h2 ?_
 simp (disch:=omega) [go_sem,Q3,L1x.r]
theorem Qas {f fs fc fd:FuncId} (hf:Qa P f (L1w.c fs fc fd) L1w.r L1w.n) (hs:Iv P fs) (hc:Qem P fc) (hd:DotVC P fd):DetC P f:=by
 intro x y z hx hy hz
 refine PureC.is (Q8 hm hf (qh rfl) ?_) rfl
 unfold L1w.c
 have h1:=hs y
 have h2:=hs z
 rw[Xc hy]at h1
 rw[Xc hz]at h2
 simp[go_sem,V3.enc,V3.cs]at h1 h2 ⊢
 refine Q5 h1 ?_
 simp[go_sem]
 refine Q5 h2 ?_
 simp[go_sem]
 refine Qx (hc y z hy hz) ?_
 simp[go_sem]
 refine Qx (hd x (crs y z) hx (Qco hy hz)) ?_
 simp[go_sem,L1w.r,Qa0]
theorem Q15 {f fc fd:FuncId} (hf:Qa P f (L0e.c fc fd) L0e.r L0e.n) (hc:Jl P fc) (hd:DetC P fd):VolC P f:=by
 intro m
 refine PureC.is (Q8 hm hf (qh rfl) ?_) rfl
 unfold L0e.c
 have hv:m.vol6=if m.check=0 then Yv m.verts m.tris else 0:=rfl
 by_cases hz:m.check=0
 case neg =>
  rw[hv,if_neg hz]
  simp[go_sem,Mesh.enc,Mesh.cs]
  refine Q5 (hc m) ?_
  simp[go_sem,hz,L0e.r]
 rw[hv,if_pos hz]
 obtain⟨z1,z2,z3,z4⟩:=Mesh.check_zero.1 hz
 simp[go_sem,Mesh.enc,Mesh.cs]
 refine Q5 (hc m) ?_
 simp[go_sem,hz,vsV,tsV]
 refine Qj (α:=Nat) (λk=>k<=m.tris.length)
  (λk=>⟨[(1,.p 0 1 0 0),(3,.i .i64 (Yv m.verts (m.tris.take k))),(10,tsV m.tris),(11,.i .i64 m.tris.length),(12,.i .i64 k)],[.arr 1 2 [m.cs]]⟩)
  (λk=>m.tris.length-k) 0 (Nat.zero_le _) ?_ ?_
 ·simp[go_sem,Mesh.cs,vsV,tsV,Ej]
 ·intro k hk
  by_cases hkl:k=m.tris.length
  ·subst hkl
   rw[qi]
   simp[go_sem,Mesh.cs,vsV,tsV,L0e.r]
  ·have hlt:k<m.tris.length:=by omega
   have hp:m.tris[k]?=some m.tris[k]:=q9 hlt
   generalize m.tris[k]=t at hp
   obtain⟨_,hp'⟩:=q8.1 hp
   have hok:=Ek z4 hp
   obtain⟨a1,a2,b1,b2,c1,c2⟩:=T3.ok_iff.1 hok
   have ga:=Q19 a1 a2
   have gb:=Q19 b1 b2
   have gc:=Q19 c1 c2
   have va:=Xw z3 a1 a2
   have vb:=Xw z3 b1 b2
   have vc:=Xw z3 c1 c2
   have hb1:=Qi6 z3 (ts:=m.tris.take k) (by
    simp only[W2,qj]at z4 ⊢
    exact λx hx=>z4 x (jk hx))
   have hb2:=Qi5 z3 hok
   have hln:((m.tris.take k).length:Int)<=4096:=by rw[qv];omega
   have hs:Yv m.verts (m.tris.take (k+1))=Yv m.verts (m.tris.take k)+Q85 m.verts t:=by
    rw[List.take_add_one,hp,Qi7,Option.toList_some,Ws,Ej];omega
   have hvt:Q85 m.verts t=Qa0 (vAt m.verts t.a) (vAt m.verts t.b) (vAt m.verts t.c):=rfl
   have hdd:=hd _ _ _ va vb vc
   rw[<- hvt]at hdd
   clear hvt
   generalize vAt m.verts t.a=A at *
   generalize vAt m.verts t.b=B at *
   generalize vAt m.verts t.c=C at *
   generalize Yv m.verts (m.tris.take k)=S at *
   generalize Q85 m.verts t=T at *
   obtain⟨ia,ga'⟩:=q8.1 ga
   obtain⟨ib,gb'⟩:=q8.1 gb
   obtain⟨ic,gc'⟩:=q8.1 gc
   simp[go_sem,Mesh.cs,vsV,tsV,hlt,hp,hp',tcs,a1,b1,c1,ga,gb,gc,ia,ib,ic,ga',gb',gc',vcs]
   simp[go_sem,V3.enc,vcs]at hdd
   refine Qx hdd ?_
   simp (disch:=omega) [go_sem,Q3]
   refine⟨k+1,by omega,by omega,?_⟩
   exact⟨hs.symm,by omega⟩
end
structure SoundM (m:Mesh) (v:Int):Prop where
 a:m.closed=true
 b:m.coh=true
 c:m.shells.length=1
 d:m.euler=2
 e:m.vol6=v
 f:0<v
theorem Qis {m:Mesh} {v:Int} (hv:Yh m.verts=true) (h:Sphere m.tris m.verts.length) (hl:m.verts.length<=200) (he:Yv m.verts m.tris=v) (hp:0<v):SoundM m v:=by
 have hn:=h.num
 have hz:m.check=0:=Mesh.check_zero.2 ⟨by omega,by omega,hv,h.ok⟩
 obtain⟨a,b,c,d⟩:=h.all hz
 exact⟨a,b,c,d,by unfold Mesh.vol6;rw[if_pos hz,he],hp⟩
theorem Q5d {p s:V3} (h1:1<=s.x) (h2:1<=s.y) (h3:1<=s.z) (hp:p.valid=true) (hs:(p.add s).valid=true):SoundM ⟨Qd p s,Qi⟩ (6*s.x*s.y*s.z):=by
 have q1:=V3.valid_iff.1 hp
 have q2:=V3.valid_iff.1 hs
 simp only[V3.add]at q2
 refine Qis ?_ box_sphere (by simp[Qd]) (Qdf p s) ?_
 ·simp only[Yh,Qd,List.all_cons,List.all_nil,Bool.and_true,Bool.and_eq_true]
  refine⟨?_,?_,?_,?_,?_,?_,?_,?_⟩<;>rw[V3.valid_iff]<;>simp only<;>omega
 ·have a1:=Int.mul_pos (show (0:Int)<6*s.x by omega) (show (0:Int)<s.y by omega)
  exact Int.mul_pos a1 (by omega)
def upAt (m:Mesh) (z:Int) (e:P2):Option (Int × Int):=point (m.v e.x) (m.v e.y) z
theorem Qdh {m:Mesh} {z:Int} {e:P2} {p:Int × Int} (h:upAt m z e=some p):e.x≠e.y:=by
 intro he
 unfold upAt point at h
 rw[he]at h
 split at h
 ·rename_i hh;omega
 ·simp at h
theorem Ui {t:T3} {q:P2->Bool} (hq:∀e,q e=true->e.x≠e.y):(Q7 t).countP q=(Jq t).countP q:=by
 unfold Q7 Zm
 rw[List.countP_filter,qe (by simp[Jq])]
 refine List.countP_congr λe _=>?_
 have:=hq e
 by_cases h:q e=true
 ·simp[h,this h]
 ·simp[h]
theorem Qcn {a b c:V3} {z:Int} (ha:a.valid=true) (hb:b.valid=true) (hc:c.valid=true) (p:Int × Int) :
  ([U8 z a b c].filter (·.found)).countP (λs=>decide (s.b=p))=[point a b z,point b c z,point c a z].countP (λo=>decide (o=some p)) /\
  ([U8 z a b c].filter (·.found)).countP (λs=>decide (s.a=p))=[point b a z,point c b z,point a c z].countP (λo=>decide (o=some p)):=by
 by_cases h1:a.z<=z<;>by_cases h2:b.z<=z<;>by_cases h3:c.z<=z <;>
  simp[U8,Xq,Sg4.init,Sg4.step,point,ha,hb,hc,h1,h2,h3,Int.not_lt.2,Int.not_le.1,show (z<a.z)=¬ (a.z<=z) by simp,show (z<b.z)=¬ (b.z<=z) by simp,show (z<c.z)=¬ (c.z<=z) by simp,List.countP_cons]
theorem P2.rev_rev (e:P2):e.rev.rev=e:=rfl
theorem Q21 {m:Mesh} {z:Int} (hv:Yh m.verts=true) (p:Int × Int):∀ts:List T3,W2 m.verts.length ts=true ->
  (Qw m z ts).countP (λs=>decide (s.b=p))=(Qb ts).countP (λe=>decide (upAt m z e=some p)) /\
  (Qw m z ts).countP (λs=>decide (s.a=p))=(Qb ts).countP (λe=>decide (upAt m z e.rev=some p))
 | [],_=>⟨rfl,rfl⟩
 | t::ts,h=>by
   simp only[W2,List.all_cons,Bool.and_eq_true]at h
   have ih:=Q21 (z:=z) hv p ts h.2
   obtain⟨_,h1,_,h2,_,h3⟩:=T3.ok_iff.1 h.1
   have hs:Qw m z (t::ts)=[Y5 m z t].filter (·.found)++Qw m z ts:=by
    simp only[Qw,List.map_cons,List.filter_cons,List.filter_nil]
    split<;>rfl
   have ha:Qb (t::ts)=Q7 t++Qb ts:=rfl
   have hc:=Qcn (z:=z) (Mesh.v_valid hv h1) (Mesh.v_valid hv h2) (Mesh.v_valid hv h3) p
   rw[hs,ha,List.countP_append,List.countP_append,List.countP_append,List.countP_append,ih.1,ih.2,
    Ui (λe he=>Qdh (of_decide_eq_true he)),Ui (λe he=>λhh=>Qdh (of_decide_eq_true he) hh.symm)]
   unfold Y5
   rw[hc.1,hc.2]
   exact⟨rfl,rfl⟩
theorem Q79 {m:Mesh} (h:m.closed=true) (e:P2):(Qb m.tris).count e=(Qb m.tris).count e.rev:=by
 simp only[Mesh.closed,Bool.and_eq_true,decide_eq_true_eq]at h
 obtain⟨hz,hb⟩:=h
 have key:∀e:P2,(Qb m.tris).count e<=(Qb m.tris).count e.rev:=by
  intro e
  by_cases he:e∈Qb m.tris
  ·refine j7 λhlt=>?_
   have:e∈m.border:=mem_border.2 ⟨hz,he,by simp only[Mesh.use,hz,if_true];omega⟩
   rw[hb]at this;simp at this
  ·rw[List.count_eq_zero.2 he];omega
 have h1:=key e
 have h2:=key e.rev
 rw[P2.rev_rev]at h2
 omega
theorem Qa2 {m:Mesh} (h:m.closed=true):(Qb m.tris).Perm ((Qb m.tris).map P2.rev):=by
 rw[List.perm_iff_count]
 intro e
 rw[Q79 h e,List.count,List.count,List.countP_map]
 refine List.countP_congr λx _=>?_
 simp only[Function.comp,beq_iff_eq]
 constructor
 ·rintro rfl;rfl
 ·rintro rfl;rfl
theorem Q3s {m:Mesh} {z:Int} (h:m.closed=true) (p:Int × Int) :
  (Zb m z).1.countP (λs=>decide (s.a=p))=(Zb m z).1.countP (λs=>decide (s.b=p)):=by
 have hz:m.check=0:=by
  simp only[Mesh.closed,Bool.and_eq_true,decide_eq_true_eq]at h;exact h.1
 obtain⟨z1,z2,z3,z4⟩:=Mesh.check_zero.1 hz
 unfold Zb
 rw[if_pos hz]
 split
 ·rfl
 ·have hc:=Q21 (z:=z) z3 p m.tris z4
  simp only
  rw[hc.1,hc.2,(Qa2 h).countP_eq,List.countP_map]
  rfl
theorem Qjn {m:Mesh} {n:Nat} (h:Sphere m.tris n) (hz:m.check=0) {sh:List Int} (hs:sh∈m.shells):Zi m.tris sh=m.tris:=by
 obtain⟨L,hL⟩:=Q6j m.tris
 have hR:m.shells=Xr L m.tris.length:=by unfold Mesh.shells;rw[if_pos hz,Ic hL,hL.len]
 rw[hR]at hs
 obtain⟨i,hi,hLi,rfl⟩:=shsK_mem.1 hs
 have hall:∀j,j<m.tris.length->L[j]?=some (i:Int):=λj hj=>by
  rw[<- hL.conn (h.one j hj),hL.conn (h.one i hi)];exact hLi
 have hsh:shK L i L.length=(List.range m.tris.length).map λ(j:Nat)=>(j:Int):=by
  unfold shK
  rw[hL.len]
  congr 1
  refine List.filter_eq_self.2 λj hj=>?_
  simpa using hall j (qy.1 hj)
 rw[hsh]
 unfold Zi
 rw[List.map_map]
 refine qx λj=>?_
 rw[qp]
 by_cases hj:j<m.tris.length
 ·rw[ji hj,Zn hj];rfl
 ·rw[qk (by simpa using hj),qk (by simpa using hj)];rfl
theorem box_ok {p s:V3} (h1:1<=s.x) (h2:1<=s.y) (h3:1<=s.z) (hp:p.valid=true) (hs:(p.add s).valid=true):(Mesh.mk (Qd p s) Qi).check=0/\Q03 ⟨Qd p s,Qi⟩=0:=by
 have q1:=V3.valid_iff.1 hp
 have q2:=V3.valid_iff.1 hs
 simp only[V3.add]at q2
 have hv:Yh (Qd p s)=true:=by
  simp only[Yh,Qd,List.all_cons,List.all_nil,Bool.and_true,Bool.and_eq_true]
  refine⟨?_,?_,?_,?_,?_,?_,?_,?_⟩<;>rw[V3.valid_iff]<;>simp only<;>omega
 have hz:(Mesh.mk (Qd p s) Qi).check=0:=Mesh.check_zero.2 ⟨by simp[Qd],by simp[Qi],hv,box_sphere.ok⟩
 have hb:=Q5d h1 h2 h3 hp hs
 refine⟨hz,snd_iff.2 ⟨hz,hb.a,box_sphere.coh,λt ht=>?_,λsh hsh=>?_⟩⟩
 ·have hxy:s.x*s.y≠0:=Int.mul_ne_zero (by omega) (by omega)
  have hxz:s.x*s.z≠0:=Int.mul_ne_zero (by omega) (by omega)
  have hyz:s.y*s.z≠0:=Int.mul_ne_zero (by omega) (by omega)
  have key:∀a b c:V3,(b.sub a).crs (c.sub a)≠⟨0,0,0⟩->Wk a b c=false:=λa b c h=>by
   unfold Wk
   rw[decide_eq_false h]
   simp
  unfold Mesh.deg
  simp only[Qi,List.mem_cons,List.not_mem_nil,or_false]at ht
  rcases ht with rfl | rfl | rfl | rfl | rfl | rfl | rfl | rfl | rfl | rfl | rfl | rfl<;>refine key _ _ _ λhe=>?_<;>simp[Mesh.v,Qd,V3.sub,V3.crs]at he<;>(rcases Int.mul_eq_zero.1 he with he | he)<;>omega
 ·rw[Qjn (m:=Mesh.mk (Qd p s) Qi) box_sphere hz hsh]
  have:=hb.e
  have hf:=hb.f
  have e:Yv (Qd p s) Qi=6*s.x*s.y*s.z:=Qdf p s
  show 0<=Yv (Qd p s) Qi
  rw[e];omega
theorem Qmk {l:List Sg4} (h:∀p:Int × Int,l.countP (λs=>decide (s.a=p))=l.countP (λs=>decide (s.b=p))):BalE (egs l):=by
 intro q
 have:=h (q.x,q.y)
 unfold egs
 rw[List.countP_map,List.countP_map]
 have e1:∀s:Sg4,decide (s.a=(q.x,q.y))=decide (s.eg.1=q):=λs=>by
  refine decide_eq_decide.2 ?_
  unfold Sg4.eg
  cases q
  simp[Prod.ext_iff]
 have e2:∀s:Sg4,decide (s.b=(q.x,q.y))=decide (s.eg.2=q):=λs=>by
  refine decide_eq_decide.2 ?_
  unfold Sg4.eg
  cases q
  simp[Prod.ext_iff]
 rw[List.countP_congr (p:=λs:Sg4=>decide (s.a=(q.x,q.y))) (q:=(λe=>decide (e.1=q)) ∘ Sg4.eg) (λs _=>by simp only[e1,Function.comp])]at this
 rw[List.countP_congr (p:=λs:Sg4=>decide (s.b=(q.x,q.y))) (q:=(λe=>decide (e.2=q)) ∘ Sg4.eg) (λs _=>by simp only[e2,Function.comp])]at this
 exact this
theorem Q5x {m:Mesh} (hc:m.closed=true) {z k:Int} (hz:-65536<=z/\z<=65536) (hk:Zz k 32 1024=true):Zd m z k=(Jz (egs (Qw m z m.tris)) k,0):=by
 have hz0:m.check=0:=by
  simp only[Mesh.closed,Bool.and_eq_true,decide_eq_true_eq]at hc;exact hc.1
 have hs:Zb m z=(Qw m z m.tris,0):=by
  unfold Zb
  rw[if_pos hz0,if_neg (by omega)]
 have hb:=Qmk (l:=(Zb m z).1) (Q3s hc)
 unfold Zd
 rw[hs]at hb ⊢
 rw[if_neg (by rw[hk];simp),if_neg (by simp),if_pos hb]
end Go.Abs
