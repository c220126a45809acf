/- Part of the library on which the proof stands: an abstract machine, its values and its soundness against the model; or what functions of the program do to such values. -/
import Derived.Test.YtjggbpiapinceaaGreatGoTpE
import Derived.Test.YtjggbpiapinceaaGreatGoSl
import Derived.Test.YtjggbpiapinceaaGreatGoSecH
import Derived.Test.YtjggbpiapinceaaGreatGoRw
import Derived.Test.YtjggbpiapinceaaGreatGoSkB
import Derived.Test.YtjggbpiapinceaaGreatGoOriB
import Derived.Test.YtjggbpiapinceaaGreatGoDet
import Derived.Test.YtjggbpiapinceaaGreatGoStB
import Derived.Test.YtjggbpiapinceaaGreatGoRevC
import Derived.Test.YtjggbpiapinceaaGreatGoRsD
set_option linter.unusedVariables false
set_option linter.unusedSimpArgs false
set_option maxHeartbeats 4000000
set_option maxRecDepth 20000
namespace Go.Abs
def Qgx (U:List Int) (x:Int):List Int:=if x∈U then U else U++[x]
def Qgy (U:List Int) (t:T3):List Int:=Qgx (Qgx (Qgx U t.a) t.b) t.c
def Kt (ts:List T3):List Int:=ts.foldl Qgy []
theorem Qfi (ts:List T3) (t:T3):Kt (ts++[t])=Qgy (Kt ts) t:=by simp[Kt]
theorem Qau {U:List Int} (h:U.Nodup) (x:Int):(Qgx U x).Nodup/\(∀v,v∈Qgx U x↔v∈U∨v=x)/\(Qgx U x).length<=U.length+1:=by
 unfold Qgx
 split
 ·rename_i hx
  exact⟨h,λv=>⟨.inl,λhh=>hh.elim id (λe=>e ▸ hx)⟩,by omega⟩
 ·rename_i hx
  refine⟨?_,λv=>by simp,by simp⟩
  rw[List.nodup_append]
  exact⟨h,by simp,λa ha b hb=>by simp at hb;subst hb;rintro rfl;exact hx ha⟩
theorem insT_ok {U:List Int} (h:U.Nodup) (t:T3):(Qgy U t).Nodup/\(∀v,v∈Qgy U t↔v∈U∨v=t.a∨v=t.b∨v=t.c)/\(Qgy U t).length<=U.length+3:=by
 obtain⟨a1,a2,a3⟩:=Qau h t.a
 obtain⟨b1,b2,b3⟩:=Qau a1 t.b
 obtain⟨c1,c2,c3⟩:=Qau b1 t.c
 refine⟨c1,λv=>?_,by unfold Qgy;omega⟩
 unfold Qgy
 rw[c2,b2,a2,or_assoc,or_assoc]
theorem Qo4 (ts:List T3):(Kt ts).Nodup/\(∀v,v∈Kt ts↔∃t∈ts,v=t.a∨v=t.b∨v=t.c)/\(Kt ts).length<=3*ts.length:=by
 have key:∀k,k<=ts.length->(Kt (ts.take k)).Nodup/\(∀v,v∈Kt (ts.take k)↔∃t∈ts.take k,v=t.a∨v=t.b∨v=t.c)/\(Kt (ts.take k)).length<=3*k:=by
  intro k
  induction k with
  | zero=>intro _;simp[Kt]
  | succ k ih =>
    intro hk
    obtain⟨h1,h2,h3⟩:=ih (by omega)
    have hp:ts[k]?=some ts[k]:=q9 (by omega)
    rw[Qd hp,Qfi]
    obtain⟨i1,i2,i3⟩:=insT_ok h1 ts[k]
    refine⟨i1,λv=>?_,by omega⟩
    rw[i2,h2]
    constructor
    ·rintro (⟨t,ht,hv⟩ | hv)
     ·exact⟨t,qg.2 (.inl ht),hv⟩
     ·exact⟨ts[k],qg.2 (.inr (by simp)),hv⟩
    ·rintro⟨t,ht,hv⟩
     rcases qg.1 ht with h | h
     ·exact .inl ⟨t,h,hv⟩
     ·simp at h;subst h;exact .inr hv
 have:=key ts.length (Nat.le_refl _)
 rwa [qi]at this
def Mesh.euler (m:Mesh):Int:=if m.check=0 then ((Kt m.tris).length:Int)-m.edgesL.length+m.tris.length else 0
theorem Qdc {l k:List Int} (hl:l.Nodup) (hk:k.Nodup) (h:∀v,v∈l↔v∈k):l.Perm k:=by
 rw[List.perm_iff_count]
 intro v
 have c:∀{l:List Int},l.Nodup->l.count v=if v∈l then 1 else 0:=λ{l} hl=>by
  by_cases he:v∈l
  ·rw[if_pos he]
   have h1:=List.count_pos_iff.2 he
   have h2:=List.nodup_iff_count.1 hl v
   omega
  ·rw[if_neg he];exact List.count_eq_zero.2 he
 rw[c hl,c hk]
 by_cases hv:v∈l
 ·rw[if_pos hv,if_pos ((h v).1 hv)]
 ·rw[if_neg hv,if_neg (λhh=>hv ((h v).2 hh))]
structure Sphere (T:List T3) (n:Nat):Prop where
 pos:0<T.length
 own:∃f:P2->Nat,∀p,p<T.length->∀e∈Q6 (tAt T p),f e=p
 clo:∀p,p<T.length->∀e∈Q6 (tAt T p),∃q,q<T.length/\e.rev∈Q6 (tAt T q)
 one:∀i,i<T.length->Conn T 0 i
 ok:U7 n T=true
 flat:∀t∈T,t.a≠t.b/\t.b≠t.c/\t.c≠t.a
 used:∀v:Nat,v<n->∃t∈T,(v:Int)=t.a∨(v:Int)=t.b∨(v:Int)=t.c
 num:T.length+4=2*n
theorem Sphere.coh {T:List T3} {n:Nat} (h:Sphere T n):Coh T:=by
 obtain⟨f,hf⟩:=h.own
 intro i j e hi hj h1 h2
 rw[<- hf i hi e h1,hf j hj e h2]
theorem Sphere.Clo {T:List T3} {n:Nat} (h:Sphere T n):Go.Abs.Clo T:=by
 intro e he
 obtain⟨p,hp,h1⟩:=mem_all.1 he
 obtain⟨q,hq,h2⟩:=h.clo p hp e h1
 exact mem_all.2 ⟨q,hq,h2⟩
theorem Q56:∀n,0<n->((List.range n).filter λi=>decide (i=0)).length=1
 | 0,h=>by omega
 | 1,_=>by simp
 | n+2,_=>by
   rw[List.range_succ,List.filter_append,j4,Q56 (n+1) (by omega)]
   simp
theorem Sphere.shells {m:Mesh} {n:Nat} (h:Sphere m.tris n) (hz:m.check=0):m.shells.length=1:=by
 obtain⟨L,hL⟩:=Up m.tris
 have hR:m.shells=Yk L m.tris.length:=by unfold Mesh.shells;rw[if_pos hz,Ym hL,hL.len]
 have h0:L[0]?=some 0:=by
  have h1:L[0]?=some (L[0]'(by rw[hL.len];exact h.pos)):=q9 _
  obtain⟨a,b,_⟩:=hL.con 0 _ h1
  rw[h1];congr 1;omega
 rw[hR]
 unfold Yk
 rw[List.length_map]
 have:(List.range m.tris.length).filter (λ(i:Nat)=>decide (L[i]?=some (i:Int)))=(List.range m.tris.length).filter λi=>decide (i=0):=by
  refine List.filter_congr λi hi=>?_
  rw[decide_eq_decide,<- hL.conn (h.one i (qz.1 hi)),h0]
  constructor
  ·intro hh;have:=Option.some.inj hh;omega
  ·rintro rfl;rfl
 rw[this]
 exact Q56 _ h.pos
theorem Qbf {t:T3} (h:t.a≠t.b/\t.b≠t.c/\t.c≠t.a):Q6 t=Yq t:=by
 have h2:Q6 t=(Yq t).filter λe=>decide (e.x≠e.y):=rfl
 rw[h2]
 unfold Yq
 simp[h.1,h.2.1,h.2.2]
theorem Q10:∀{T:List T3},(∀t∈T,t.a≠t.b/\t.b≠t.c/\t.c≠t.a)->(Qc T).length=3*T.length
 | [],_=>rfl
 | t::T,h=>by
   have h0:Qc (t::T)=Q6 t++Qc T:=rfl
   rw[h0,j4,Q10 (λx hx=>h x (by simp[hx])),Qbf (h t (by simp)),List.length_cons]
   simp only[Yq,List.length_cons,List.length_nil];omega
theorem Qmz {l:List P2} (h:asc l):l.Nodup:=by
 unfold asc at h
 exact h.imp λ{a b} hab=>by rintro rfl;exact P2.lt_irrefl a hab
theorem Sphere.edges {m:Mesh} {n:Nat} (h:Sphere m.tris n) (hz:m.check=0):2*m.edgesL.length=3*m.tris.length:=by
 rw[<- Q10 h.flat]
 have hnd:=coh_iff.2 h.coh
 have hcl:∀e∈Qc m.tris,e.rev∈Qc m.tris:=h.Clo
 have hne:∀e∈Qc m.tris,e.x≠e.y:=λe he=>Qhu he
 have hE:m.edgesL=E6 ((Qc m.tris).map P2.und):=by unfold Mesh.edgesL;rw[if_pos hz]
 rw[hE]
 generalize Qc m.tris=A at *
 have hB1:(E6 (A.map P2.und)).length=(A.filter λe=>decide (e.x<e.y)).length:=by
  have hm:∀a,a∈E6 (A.map P2.und)↔a∈A.filter λe=>decide (e.x<e.y):=λa=>by
   rw[Ej,qp,qv,decide_eq_true_eq]
   constructor
   ·rintro⟨e,he,rfl⟩
    by_cases hlt:e.x<e.y
    ·rw[Qo6 hlt];exact⟨he,hlt⟩
    ·rw[und_gt hlt]
     have:=hne e he
     exact⟨hcl e he,by show e.y<e.x;omega⟩
   ·rintro⟨he,hlt⟩
    exact⟨a,he,Qo6 hlt⟩
  refine Nat.le_antisymm (Xc (Qmz (Ew _)) λa ha=>(hm a).1 ha) (Xc (hnd.filter _) λa ha=>(hm a).2 ha)
 have hB2:(A.filter λe=>decide (e.x<e.y)).length=(A.filter λe=>!decide (e.x<e.y)).length:=by
  have hinj:∀l:List P2,l.Nodup->(l.map P2.rev).Nodup:=λl hl=>by
   rw[List.nodup_iff_pairwise_ne,je]
   exact hl.imp λ{a b} hab hh=>hab (by have:=congrArg P2.rev hh;exact this)
  refine Nat.le_antisymm ?_ ?_
  ·have:=Xc (hinj _ (hnd.filter λe=>decide (e.x<e.y))) (B:=A.filter λe=>!decide (e.x<e.y)) λa ha=>by
    obtain⟨b,hb,rfl⟩:=qp.1 ha
    obtain⟨h1,h2⟩:=qv.1 hb
    rw[decide_eq_true_eq]at h2
    refine qv.2 ⟨hcl b h1,?_⟩
    have:¬ b.rev.x<b.rev.y:=by show ¬ b.y<b.x;omega
    simp[this]
   simpa using this
  ·have:=Xc (hinj _ (hnd.filter λe=>!decide (e.x<e.y))) (B:=A.filter λe=>decide (e.x<e.y)) λa ha=>by
    obtain⟨b,hb,rfl⟩:=qp.1 ha
    obtain⟨h1,h2⟩:=qv.1 hb
    have h3:¬ b.x<b.y:=by simpa using h2
    have h4:=hne b h1
    refine qv.2 ⟨hcl b h1,?_⟩
    have:b.rev.x<b.rev.y:=by show b.y<b.x;omega
    simpa using this
   simpa using this
 have hsum:A.length=(A.filter λe=>decide (e.x<e.y)).length+(A.filter λe=>!decide (e.x<e.y)).length:=by
  generalize A=l
  induction l with
  | nil=>rfl
  | cons a l ih =>
    rw[List.filter_cons,List.filter_cons,List.length_cons]
    by_cases hh:a.x<a.y<;>simp[hh]<;>omega
 omega
theorem Sphere.euler {m:Mesh} (h:Sphere m.tris m.verts.length) (hz:m.check=0):m.euler=2:=by
 have hE:=h.edges hz
 obtain⟨u1,u2,_⟩:=Qo4 m.tris
 have hU:(Kt m.tris).length=m.verts.length:=by
  have hp:(Kt m.tris).Perm ((List.range m.verts.length).map λ(j:Nat)=>(j:Int)):=by
   refine Qdc u1 ?_ λv=>?_
   ·rw[List.nodup_iff_pairwise_ne,je]
    have h0:(List.range m.verts.length).Nodup:=List.nodup_range
    rw[List.nodup_iff_pairwise_ne]at h0
    exact h0.imp λ{a b:Nat} (h:a≠b) (hh:(a:Int)=(b:Int))=>h (by omega)
   ·rw[u2,qp]
    constructor
    ·rintro⟨t,ht,hv⟩
     obtain⟨a1,a2,b1,b2,c1,c2⟩:=T3.ok_iff.1 (qj.1 h.ok t ht)
     exact⟨v.toNat,qz.2 (by omega),by omega⟩
    ·rintro⟨j,hj,rfl⟩
     exact h.used j (qz.1 hj)
  have:=hp.length_eq
  simpa using this
 have hn:=h.num
 unfold Mesh.euler
 rw[if_pos hz,hU]
 omega
theorem Sphere.all {m:Mesh} (h:Sphere m.tris m.verts.length) (hz:m.check=0):m.closed=true/\m.coh=true/\m.shells.length=1/\m.euler=2 :=
 ⟨Q6m hz h.coh h.Clo,by unfold Mesh.coh;rw[hz,cohB_iff.2 h.coh];rfl,h.shells hz,h.euler hz⟩
def nx (n i:Nat):Nat:=if i+1=n then 0 else i+1
def boxOwn (e:P2):Nat:=((List.range 12).find? λp=>decide (e∈Q6 (tAt Qn p))).getD 0
theorem Xp {i j:Nat} (h:((decide (i<12) && decide (j<12)) && (Q6 (tAt Qn i)).any λa=>(Q6 (tAt Qn j)).any λb=>decide (a.und=b.und))=true):adjI Qn i j:=by
 simp only[Bool.and_eq_true,decide_eq_true_eq,List.any_eq_true]at h
 obtain⟨⟨h1,h2⟩,a,ha,b,hb,hab⟩:=h
 exact E8 h1 h2 ha hb hab
theorem box_sphere:Sphere Qn 8 where
 pos:=by decide
 own:=⟨boxOwn,by decide⟩
 clo:=by decide
 one:=by
  have c0:Conn Qn 0 0:=.refl (by decide)
  have c1:Conn Qn 0 1:=c0.tail (Xp (by decide))
  have c4:Conn Qn 0 4:=c1.tail (Xp (by decide))
  have c5:Conn Qn 0 5:=c4.tail (Xp (by decide))
  have c2:Conn Qn 0 2:=c5.tail (Xp (by decide))
  have c3:Conn Qn 0 3:=c2.tail (Xp (by decide))
  have c6:Conn Qn 0 6:=c3.tail (Xp (by decide))
  have c7:Conn Qn 0 7:=c6.tail (Xp (by decide))
  have c8:Conn Qn 0 8:=c5.tail (Xp (by decide))
  have c9:Conn Qn 0 9:=c8.tail (Xp (by decide))
  have c10:Conn Qn 0 10:=c7.tail (Xp (by decide))
  have c11:Conn Qn 0 11:=c10.tail (Xp (by decide))
  intro i hi
  have hi:i<12:=hi
  match i,hi with
  | 0,_=>exact c0
  | 1,_=>exact c1
  | 2,_=>exact c2
  | 3,_=>exact c3
  | 4,_=>exact c4
  | 5,_=>exact c5
  | 6,_=>exact c6
  | 7,_=>exact c7
  | 8,_=>exact c8
  | 9,_=>exact c9
  | 10,_=>exact c10
  | 11,_=>exact c11
 ok:=by decide
 flat:=by decide
 used:=by decide
 num:=by decide
theorem Qii (p s:V3):Y5 (Qi p s) Qn=6*s.x*s.y*s.z:=by
 have h:∀i:Nat,i<8->vAt (Qi p s) (i:Int)=(Qi p s).getD i ⟨0,0,0⟩:=λi _=>by
  unfold vAt;rw[Int.toNat_natCast,List.getD_eq_getElem?_getD]
 have h0:vAt (Qi p s) 0=⟨p.x,p.y,p.z⟩:=h 0 (by omega)
 have h1:vAt (Qi p s) 1=⟨p.x+s.x,p.y,p.z⟩:=h 1 (by omega)
 have h2:vAt (Qi p s) 2=⟨p.x,p.y+s.y,p.z⟩:=h 2 (by omega)
 have h3:vAt (Qi p s) 3=⟨p.x+s.x,p.y+s.y,p.z⟩:=h 3 (by omega)
 have h4:vAt (Qi p s) 4=⟨p.x,p.y,p.z+s.z⟩:=h 4 (by omega)
 have h5:vAt (Qi p s) 5=⟨p.x+s.x,p.y,p.z+s.z⟩:=h 5 (by omega)
 have h6:vAt (Qi p s) 6=⟨p.x,p.y+s.y,p.z+s.z⟩:=h 6 (by omega)
 have h7:vAt (Qi p s) 7=⟨p.x+s.x,p.y+s.y,p.z+s.z⟩:=h 7 (by omega)
 simp only[Y5,Qn,List.map_cons,List.map_nil,List.sum_cons,List.sum_nil,Q70,h0,h1,h2,h3,h4,h5,h6,h7,Q6k,Qmi,crs]
 grind
def cr (p q:P2):Int:=p.x*q.y-p.y*q.x
def L0o.c (L0g L20 L0q L1u L1t L22 L0i L0s:FuncId):C :=(.seq (.reg [Au 1 (.box (.t 0)),Au 2 (.alloc [.nil,.nil]),Ac 3 0,Ac 4 0]) (.seq (.reg [Ag 15 2 1,Au 16 (.call L0g [.t 15]),Am 5 16]) (.seq (.blk 0 (.seq (.reg [Am 18 5,Ak .neq 19 18 0,Am 17 19]) (.ite (.t 17) (.seq (.reg [Au 20 (.build [.nil,.nil] []),Am 21 5,As 2 2 20,Ac 3 0,Am 4 21]) .ret) (.seq (.reg [Ag 23 2 1,Au 24 (.call L20 [.t 23]),Au 25 (.un .not (.t 24)),Am 22 25]) (.ite (.t 22) (.seq (.reg [Au 26 (.build [.nil,.nil] []),As 2 2 26,Ac 3 0,Ac 4 12]) .ret) (.seq (.reg [Af 28 1 1,Al 29 28,Au 30 (.call L0q [.t 29]),Au 31 (.un .not (.t 30)),
 Am 27 31]) (.ite (.t 27) (.seq (.reg [Au 32 (.build [.nil,.nil] []),As 2 2 32,Ac 3 0,Ac 4 13]) .ret) .skip))))))) (.seq (.drw [Af 33 0 1,Al 34 33,Au 35 (.call L1u [.t 34]),Af 36 1 1,Al 37 36,Au 38 (.call L1t [.t 37]),Au 39 (.build [.nil,.nil] [(0,1,(.t 35)),(1,1,(.t 38))]),Au 6 (.alloc [.nil,.nil]),As 2 6 39] [[],[],[],[2],[2],[],[],[],[]]) (.seq (.reg [Ac 7 0]) (.seq (.seq (.reg [Ag 40 2 1,Au 41 (.call L22 [.t 40]),An 42 0 41,Ac 43 0]) (.blk 1 (.loop (.seq (.reg [Aj .lss 44 43 42]) (.seq (.ite (.t 44) .skip (.exit 1)) (.seq (.blk 2 (.seq (.reg [Ai 45 1 41 43,Al 46 45,Am 9 46]) (.seq (.reg [Af 47 0 1,
 Al 48 47,Au 49 (.build [.nil,.nil] [(0,1,(.t 48))]),Au 10 (.alloc [.nil,.nil]),As 2 10 49]) (.seq (.seq (.reg [Am 50 9,An 51 0 50,Ac 52 0]) (.blk 3 (.loop (.seq (.reg [Aj .lss 53 52 51]) (.seq (.ite (.t 53) .skip (.exit 3)) (.seq (.blk 4 (.seq (.reg [Ai 54 1 50 52,Al 55 54,Am 12 55]) (.drw [Af 56 1 10,Al 57 56,Af 58 1 1,Al 59 58,Am 60 12,Ai 61 3 59 60,Ag 62 3 61,Au 63 (.bsi 3 1 [(.i .i64 0),(.i .i64 0),(.i .i64 0)] [(0,(.t 62))]),Au 64 (.app 3 24 (.t 57) (.t 63)),Af 65 1 10,As 1 65 64] []))) (.reg [Ad 66 52 1,Am 52 66]))))))) (.seq (.seq (.reg [Ag 67 2 10,Au 68 (.call L0i [.t 67]),Ak .geq 69 68 0])
 (.ite (.t 69) (.exit 2) .skip)) (.seq (.reg [Am 70 7,Ad 71 70 1,Am 7 71]) (.seq (.reg [Am 72 9,An 73 0 72,Ac 74 0]) (.blk 5 (.loop (.seq (.reg [Aj .lss 75 74 73]) (.seq (.ite (.t 75) .skip (.exit 5)) (.seq (.blk 6 (.seq (.reg [Ai 76 1 72 74,Al 77 76,Am 14 77]) (.drw [Af 78 1 6,Al 79 78,Am 80 14,Af 81 1 1,Al 82 81,Am 83 14,Ai 84 3 82 83,Ag 85 3 84,Au 86 (.call L0s [.t 85]),Ai 87 3 79 80,As 3 87 86] [[],[],[],[],[],[],[],[],[0,1],[],[]]))) (.reg [Ad 88 74 1,Am 74 88]))))))))))))) (.reg [Ad 89 43 1,Am 43 89]))))))) (.seq (.reg [Ag 90 2 6,Am 91 7,As 2 2 90,Am 3 91,Ac 4 0]) .ret)))))))
def L0o.r:List Rr:=[.cell 2 (some 2),.tmp 3,.tmp 4]
abbrev L0o.n:Nat:=92
def Q13 (P:Program) (f:FuncId):Prop:=∀v:V3,CallIs P f [v.enc] (.b (v.within 131072))
def Qjy (P:Program) (f:FuncId):Prop:=∀b c:V3,b.valid=true->c.valid=true->CallIs P f [b.enc,c.enc] (crs b c).enc
def DotVC (P:Program) (f:FuncId):Prop:=∀a b:V3,a.valid=true->b.within 8589934592=true->CallIs P f [a.enc,b.enc] (.i .i64 (Qmi a b))
theorem J6 {v:V3} (h:v.valid=true):v.within 131072=true:=by
 have:=V3.valid_iff.1 h
 simp[V3.within];omega
theorem Qcg {v:V3} {a b:Int} (hab:a<=b) (h:v.within a=true):v.within b=true:=by
 simp[V3.within]at h ⊢;omega
theorem Qhj {b c:V3} (hb:b.valid=true) (hc:c.valid=true):(crs b c).within 8589934592=true:=by
 have:=crs_b hb hc
 simp[V3.within];omega
section
variable {P:Program} (hm:P.follows .mixedOrders=true)
include hm
theorem Q9p {f fw:FuncId} (hf:Qa P f (L2h.c fw) L2h.r L2h.n) (hw:Ez P fw):Q13 P f:=by
 intro v
 refine PureC.is (Q8 hm hf (qh rfl) ?_) rfl
 unfold L2h.c
 simp[go_sem,V3.enc,V3.cs]
 refine Q4 ((hw v 131072 (by omega) (by omega)).is rfl) ?_
 simp[go_sem,L2h.r]
theorem Q9r {f fs:FuncId} (hf:Qa P f (L2b.c fs) L2b.r L2b.n) (hs:Q13 P fs):Qjy P f:=by
 intro b c hb hc
 refine PureC.is (Q8 hm hf (qh rfl) ?_) rfl
 unfold L2b.c
 have h1:=hs b
 have h2:=hs c
 rw[J6 hb]at h1
 rw[J6 hc]at h2
 obtain⟨b1,b2,b3,b4,b5,b6⟩:=V3.valid_iff.1 hb
 obtain⟨c1,c2,c3,c4,c5,c6⟩:=V3.valid_iff.1 hc
 have m1:=U6 b3 b4 c5 c6
 have m2:=U6 b5 b6 c3 c4
 have m3:=U6 b5 b6 c1 c2
 have m4:=U6 b1 b2 c5 c6
 have m5:=U6 b1 b2 c3 c4
 have m6:=U6 b3 b4 c1 c2
 have hcr:crs b c=⟨b.y*c.z-b.z*c.y,b.z*c.x-b.x*c.z,b.x*c.y-b.y*c.x⟩:=rfl
 rw[hcr]
 simp[go_sem,V3.enc,V3.cs]at h1 h2 ⊢
 refine Q4 h1 ?_
 simp[go_sem]
 refine Q4 h2 ?_
 simp (disch:=omega) [go_sem,Q3,L2b.r]
theorem Qfg {f fs fw:FuncId} (hf:Qa P f (L2d.c fs fw) L2d.r L2d.n) (hs:Q13 P fs) (hw:Ez P fw):DotVC P f:=by
 intro a b ha hb
 refine PureC.is (Q8 hm hf (qh rfl) ?_) rfl
 unfold L2d.c
 have h1:=hs a
 have h2:=(hw b 1099511627776 (by omega) (by omega)).is rfl
 rw[J6 ha]at h1
 rw[Qcg (by omega) hb]at h2
 obtain⟨b1,b2,b3,b4,b5,b6⟩:=V3.valid_iff.1 ha
 simp only[V3.within,Bool.and_eq_true,decide_eq_true_eq]at hb
 obtain⟨⟨⟨⟨⟨c1,c2⟩,c3⟩,c4⟩,c5⟩,c6⟩:=hb
 have m1:=Qgl b1 b2 c1 c2
 have m2:=Qgl b3 b4 c3 c4
 have m3:=Qgl b5 b6 c5 c6
 have hd:Qmi a b=a.x*b.x+a.y*b.y+a.z*b.z:=rfl
 rw[hd]
 simp[go_sem,V3.enc,V3.cs]at h1 h2 ⊢
 refine Q4 h1 ?_
 simp[go_sem]
 refine Q4 h2 ?_
 simp (disch:=omega) [go_sem,Q3,L2d.r]
theorem Qfh {f fs fc fd:FuncId} (hf:Qa P f (L2c.c fs fc fd) L2c.r L2c.n) (hs:Q13 P fs) (hc:Qjy P fc) (hd:DotVC P fd):DetC P f:=by
 intro x y z hx hy hz
 refine PureC.is (Q8 hm hf (qh rfl) ?_) rfl
 unfold L2c.c
 have h1:=hs y
 have h2:=hs z
 rw[J6 hy]at h1
 rw[J6 hz]at h2
 simp[go_sem,V3.enc,V3.cs]at h1 h2 ⊢
 refine Q4 h1 ?_
 simp[go_sem]
 refine Q4 h2 ?_
 simp[go_sem]
 refine Qp (hc y z hy hz) ?_
 simp[go_sem]
 refine Qp (hd x (crs y z) hx (Qhj hy hz)) ?_
 simp[go_sem,L2c.r,Q6k]
theorem Q3q {f fc fd:FuncId} (hf:Qa P f (L0i.c fc fd) L0i.r L0i.n) (hc:Ys P fc) (hd:DetC P fd):VolC P f:=by
 intro m
 refine PureC.is (Q8 hm hf (qh rfl) ?_) rfl
 unfold L0i.c
 have hv:m.vol6=if m.check=0 then Y5 m.verts m.tris else 0:=rfl
 by_cases hz:m.check=0
 case neg =>
  rw[hv,if_neg hz]
  simp[go_sem,Mesh.enc,Mesh.cs]
  refine Q4 (hc m) ?_
  simp[go_sem,hz,L0i.r]
 rw[hv,if_pos hz]
 obtain⟨z1,z2,z3,z4⟩:=Mesh.check_zero.1 hz
 simp[go_sem,Mesh.enc,Mesh.cs]
 refine Q4 (hc m) ?_
 simp[go_sem,hz,vsV,tsV]
 refine Qf (α:=Nat) (λk=>k<=m.tris.length)
  (λk=>⟨[(1,.p 0 1 0 0),(3,.i .i64 (Y5 m.verts (m.tris.take k))),(10,tsV m.tris),(11,.i .i64 m.tris.length),(12,.i .i64 k)],[.arr 1 2 [m.cs]]⟩)
  (λk=>m.tris.length-k) 0 (Nat.zero_le _) ?_ ?_
 ·simp[go_sem,Mesh.cs,vsV,tsV,Bw]
 ·intro k hk
  by_cases hkl:k=m.tris.length
  ·subst hkl
   rw[qi]
   simp[go_sem,Mesh.cs,vsV,tsV,L0i.r]
  ·have hlt:k<m.tris.length:=by omega
   have hp:m.tris[k]?=some m.tris[k]:=q9 hlt
   generalize m.tris[k]=t at hp
   obtain⟨_,hp'⟩:=q8.1 hp
   have hok:=Bx z4 hp
   obtain⟨a1,a2,b1,b2,c1,c2⟩:=T3.ok_iff.1 hok
   have ga:=Q3y a1 a2
   have gb:=Q3y b1 b2
   have gc:=Q3y c1 c2
   have va:=Jq z3 a1 a2
   have vb:=Jq z3 b1 b2
   have vc:=Jq z3 c1 c2
   have hb1:=Qo0 z3 (ts:=m.tris.take k) (by
    simp only[U7,qj]at z4 ⊢
    exact λx hx=>z4 x (jk hx))
   have hb2:=Qny z3 hok
   have hln:((m.tris.take k).length:Int)<=4096:=by rw[qw];omega
   have hs:Y5 m.verts (m.tris.take (k+1))=Y5 m.verts (m.tris.take k)+Q70 m.verts t:=by
    rw[List.take_add_one,hp,Qo1,Option.toList_some,Jp,Bw];omega
   have hvt:Q70 m.verts t=Q6k (vAt m.verts t.a) (vAt m.verts t.b) (vAt m.verts t.c):=rfl
   have hdd:=hd _ _ _ va vb vc
   rw[<- hvt]at hdd
   clear hvt
   generalize vAt m.verts t.a=A at *
   generalize vAt m.verts t.b=B at *
   generalize vAt m.verts t.c=C at *
   generalize Y5 m.verts (m.tris.take k)=S at *
   generalize Q70 m.verts t=T at *
   obtain⟨ia,ga'⟩:=q8.1 ga
   obtain⟨ib,gb'⟩:=q8.1 gb
   obtain⟨ic,gc'⟩:=q8.1 gc
   simp[go_sem,Mesh.cs,vsV,tsV,hlt,hp,hp',tcs,a1,b1,c1,ga,gb,gc,ia,ib,ic,ga',gb',gc',vcs]
   simp[go_sem,V3.enc,vcs]at hdd
   refine Qp hdd ?_
   simp (disch:=omega) [go_sem,Q3]
   refine⟨k+1,by omega,by omega,?_⟩
   exact⟨hs.symm,by omega⟩
end
structure SoundM (m:Mesh) (v:Int):Prop where
 a:m.closed=true
 b:m.coh=true
 c:m.shells.length=1
 d:m.euler=2
 e:m.vol6=v
 f:0<v
theorem Qoo {m:Mesh} {v:Int} (hv:Kn m.verts=true) (h:Sphere m.tris m.verts.length) (hl:m.verts.length<=200) (he:Y5 m.verts m.tris=v) (hp:0<v):SoundM m v:=by
 have hn:=h.num
 have hz:m.check=0:=Mesh.check_zero.2 ⟨by omega,by omega,hv,h.ok⟩
 obtain⟨a,b,c,d⟩:=h.all hz
 exact⟨a,b,c,d,by unfold Mesh.vol6;rw[if_pos hz,he],hp⟩
theorem Q9h {p s:V3} (h1:1<=s.x) (h2:1<=s.y) (h3:1<=s.z) (hp:p.valid=true) (hs:(p.add s).valid=true):SoundM ⟨Qi p s,Qn⟩ (6*s.x*s.y*s.z):=by
 have q1:=V3.valid_iff.1 hp
 have q2:=V3.valid_iff.1 hs
 simp only[V3.add]at q2
 refine Qoo ?_ box_sphere (by simp[Qi]) (Qii p s) ?_
 ·simp only[Kn,Qi,List.all_cons,List.all_nil,Bool.and_true,Bool.and_eq_true]
  refine⟨?_,?_,?_,?_,?_,?_,?_,?_⟩<;>rw[V3.valid_iff]<;>simp only<;>omega
 ·have a1:=Int.mul_pos (show (0:Int)<6*s.x by omega) (show (0:Int)<s.y by omega)
  exact Int.mul_pos a1 (by omega)
def upAt (m:Mesh) (z:Int) (e:P2):Option (Int × Int):=point (m.v e.x) (m.v e.y) z
theorem Qik {m:Mesh} {z:Int} {e:P2} {p:Int × Int} (h:upAt m z e=some p):e.x≠e.y:=by
 intro he
 unfold upAt point at h
 rw[he]at h
 split at h
 ·rename_i hh;omega
 ·simp at h
theorem Il {t:T3} {q:P2->Bool} (hq:∀e,q e=true->e.x≠e.y):(Q6 t).countP q=(Yq t).countP q:=by
 unfold Q6 Zs
 rw[List.countP_filter,qe (by simp[Yq])]
 refine List.countP_congr λe _=>?_
 have:=hq e
 by_cases h:q e=true
 ·simp[h,this h]
 ·simp[h]
theorem Qhi {a b c:V3} {z:Int} (ha:a.valid=true) (hb:b.valid=true) (hc:c.valid=true) (p:Int × Int) :
  ([Q6l z a b c].filter (·.found)).countP (λs=>decide (s.b=p))=[point a b z,point b c z,point c a z].countP (λo=>decide (o=some p)) /\
  ([Q6l z a b c].filter (·.found)).countP (λs=>decide (s.a=p))=[point b a z,point c b z,point a c z].countP (λo=>decide (o=some p)):=by
 by_cases h1:a.z<=z<;>by_cases h2:b.z<=z<;>by_cases h3:c.z<=z <;>
  simp[Q6l,Jl,Sg4.init,Sg4.step,point,ha,hb,hc,h1,h2,h3,Int.not_lt.2,Int.not_le.1,show (z<a.z)=¬ (a.z<=z) by simp,show (z<b.z)=¬ (b.z<=z) by simp,show (z<c.z)=¬ (c.z<=z) by simp,List.countP_cons]
theorem P2.rev_rev (e:P2):e.rev.rev=e:=rfl
theorem Q4w {m:Mesh} {z:Int} (hv:Kn m.verts=true) (p:Int × Int):∀ts:List T3,U7 m.verts.length ts=true ->
  (Zk m z ts).countP (λs=>decide (s.b=p))=(Qc ts).countP (λe=>decide (upAt m z e=some p)) /\
  (Zk m z ts).countP (λs=>decide (s.a=p))=(Qc ts).countP (λe=>decide (upAt m z e.rev=some p))
 | [],_=>⟨rfl,rfl⟩
 | t::ts,h=>by
   simp only[U7,List.all_cons,Bool.and_eq_true]at h
   have ih:=Q4w (z:=z) hv p ts h.2
   obtain⟨_,h1,_,h2,_,h3⟩:=T3.ok_iff.1 h.1
   have hs:Zk m z (t::ts)=[Jw m z t].filter (·.found)++Zk m z ts:=by
    simp only[Zk,List.map_cons,List.filter_cons,List.filter_nil]
    split<;>rfl
   have ha:Qc (t::ts)=Q6 t++Qc ts:=rfl
   have hc:=Qhi (z:=z) (Mesh.v_valid hv h1) (Mesh.v_valid hv h2) (Mesh.v_valid hv h3) p
   rw[hs,ha,List.countP_append,List.countP_append,List.countP_append,List.countP_append,ih.1,ih.2,
    Il (λe he=>Qik (of_decide_eq_true he)),Il (λe he=>λhh=>Qik (of_decide_eq_true he) hh.symm)]
   unfold Jw
   rw[hc.1,hc.2]
   exact⟨rfl,rfl⟩
theorem Qbj {m:Mesh} (h:m.closed=true) (e:P2):(Qc m.tris).count e=(Qc m.tris).count e.rev:=by
 simp only[Mesh.closed,Bool.and_eq_true,decide_eq_true_eq]at h
 obtain⟨hz,hb⟩:=h
 have key:∀e:P2,(Qc m.tris).count e<=(Qc m.tris).count e.rev:=by
  intro e
  by_cases he:e∈Qc m.tris
  ·refine j8 λhlt=>?_
   have:e∈m.border:=mem_border.2 ⟨hz,he,by simp only[Mesh.use,hz,if_true];omega⟩
   rw[hb]at this;simp at this
  ·rw[List.count_eq_zero.2 he];omega
 have h1:=key e
 have h2:=key e.rev
 rw[P2.rev_rev]at h2
 omega
theorem Qep {m:Mesh} (h:m.closed=true):(Qc m.tris).Perm ((Qc m.tris).map P2.rev):=by
 rw[List.perm_iff_count]
 intro e
 rw[Qbj h e,List.count,List.count,List.countP_map]
 refine List.countP_congr λx _=>?_
 simp only[Function.comp,beq_iff_eq]
 constructor
 ·rintro rfl;rfl
 ·rintro rfl;rfl
theorem Q7b {m:Mesh} {z:Int} (h:m.closed=true) (p:Int × Int) :
  (Y3 m z).1.countP (λs=>decide (s.a=p))=(Y3 m z).1.countP (λs=>decide (s.b=p)):=by
 have hz:m.check=0:=by
  simp only[Mesh.closed,Bool.and_eq_true,decide_eq_true_eq]at h;exact h.1
 obtain⟨z1,z2,z3,z4⟩:=Mesh.check_zero.1 hz
 unfold Y3
 rw[if_pos hz]
 split
 ·rfl
 ·have hc:=Q4w (z:=z) z3 p m.tris z4
  simp only
  rw[hc.1,hc.2,(Qep h).countP_eq,List.countP_map]
  rfl
theorem Qpl {m:Mesh} {n:Nat} (h:Sphere m.tris n) (hz:m.check=0) {sh:List Int} (hs:sh∈m.shells):Qq m.tris sh=m.tris:=by
 obtain⟨L,hL⟩:=Up m.tris
 have hR:m.shells=Yk L m.tris.length:=by unfold Mesh.shells;rw[if_pos hz,Ym hL,hL.len]
 rw[hR]at hs
 obtain⟨i,hi,hLi,rfl⟩:=shsK_mem.1 hs
 have hall:∀j,j<m.tris.length->L[j]?=some (i:Int):=λj hj=>by
  rw[<- hL.conn (h.one j hj),hL.conn (h.one i hi)];exact hLi
 have hsh:shK L i L.length=(List.range m.tris.length).map λ(j:Nat)=>(j:Int):=by
  unfold shK
  rw[hL.len]
  congr 1
  refine List.filter_eq_self.2 λj hj=>?_
  simpa using hall j (qz.1 hj)
 rw[hsh]
 unfold Qq
 rw[List.map_map]
 refine qy λj=>?_
 rw[qq]
 by_cases hj:j<m.tris.length
 ·rw[ji hj,Qr hj];rfl
 ·rw[qk (by simpa using hj),qk (by simpa using hj)];rfl
theorem box_ok {p s:V3} (h1:1<=s.x) (h2:1<=s.y) (h3:1<=s.z) (hp:p.valid=true) (hs:(p.add s).valid=true):(Mesh.mk (Qi p s) Qn).check=0/\W9 ⟨Qi p s,Qn⟩=0:=by
 have q1:=V3.valid_iff.1 hp
 have q2:=V3.valid_iff.1 hs
 simp only[V3.add]at q2
 have hv:Kn (Qi p s)=true:=by
  simp only[Kn,Qi,List.all_cons,List.all_nil,Bool.and_true,Bool.and_eq_true]
  refine⟨?_,?_,?_,?_,?_,?_,?_,?_⟩<;>rw[V3.valid_iff]<;>simp only<;>omega
 have hz:(Mesh.mk (Qi p s) Qn).check=0:=Mesh.check_zero.2 ⟨by simp[Qi],by simp[Qn],hv,box_sphere.ok⟩
 have hb:=Q9h h1 h2 h3 hp hs
 refine⟨hz,snd_iff.2 ⟨hz,hb.a,box_sphere.coh,λt ht=>?_,λsh hsh=>?_⟩⟩
 ·have hxy:s.x*s.y≠0:=Int.mul_ne_zero (by omega) (by omega)
  have hxz:s.x*s.z≠0:=Int.mul_ne_zero (by omega) (by omega)
  have hyz:s.y*s.z≠0:=Int.mul_ne_zero (by omega) (by omega)
  have key:∀a b c:V3,(b.sub a).crs (c.sub a)≠⟨0,0,0⟩->Wx a b c=false:=λa b c h=>by
   unfold Wx
   rw[decide_eq_false h]
   simp
  unfold Mesh.deg
  simp only[Qn,List.mem_cons,List.not_mem_nil,or_false]at ht
  rcases ht with rfl | rfl | rfl | rfl | rfl | rfl | rfl | rfl | rfl | rfl | rfl | rfl<;>refine key _ _ _ λhe=>?_<;>simp[Mesh.v,Qi,V3.sub,V3.crs]at he<;>(rcases Int.mul_eq_zero.1 he with he | he)<;>omega
 ·rw[Qpl (m:=Mesh.mk (Qi p s) Qn) box_sphere hz hsh]
  have:=hb.e
  have hf:=hb.f
  have e:Y5 (Qi p s) Qn=6*s.x*s.y*s.z:=Qii p s
  show 0<=Y5 (Qi p s) Qn
  rw[e];omega
theorem Qsj {l:List Sg4} (h:∀p:Int × Int,l.countP (λs=>decide (s.a=p))=l.countP (λs=>decide (s.b=p))):Q19 (egs l):=by
 intro q
 have:=h (q.x,q.y)
 unfold egs
 rw[List.countP_map,List.countP_map]
 have e1:∀s:Sg4,decide (s.a=(q.x,q.y))=decide (s.eg.1=q):=λs=>by
  refine decide_eq_decide.2 ?_
  unfold Sg4.eg
  cases q
  simp[Prod.ext_iff]
 have e2:∀s:Sg4,decide (s.b=(q.x,q.y))=decide (s.eg.2=q):=λs=>by
  refine decide_eq_decide.2 ?_
  unfold Sg4.eg
  cases q
  simp[Prod.ext_iff]
 rw[List.countP_congr (p:=λs:Sg4=>decide (s.a=(q.x,q.y))) (q:=(λe=>decide (e.1=q)) ∘ Sg4.eg) (λs _=>by simp only[e1,Function.comp])]at this
 rw[List.countP_congr (p:=λs:Sg4=>decide (s.b=(q.x,q.y))) (q:=(λe=>decide (e.2=q)) ∘ Sg4.eg) (λs _=>by simp only[e2,Function.comp])]at this
 exact this
theorem Wm {m:Mesh} (hc:m.closed=true) {z k:Int} (hz:-65536<=z/\z<=65536) (hk:Xn k 32 1024=true):Wn m z k=(W2 (egs (Zk m z m.tris)) k,0):=by
 have hz0:m.check=0:=by
  simp only[Mesh.closed,Bool.and_eq_true,decide_eq_true_eq]at hc;exact hc.1
 have hs:Y3 m z=(Zk m z m.tris,0):=by
  unfold Y3
  rw[if_pos hz0,if_neg (by omega)]
 have hb:=Qsj (l:=(Y3 m z).1) (Q7b hc)
 unfold Wn
 rw[hs]at hb ⊢
 rw[if_neg (by rw[hk];simp),if_neg (by simp),if_pos hb]
end Go.Abs
