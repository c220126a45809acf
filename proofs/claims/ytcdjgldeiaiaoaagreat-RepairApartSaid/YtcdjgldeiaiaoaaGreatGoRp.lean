/- Part of the library on which the proof stands: an abstract machine, its values and its soundness against the model; or what functions of the program do to such values. -/
import Derived.Test.YtcdjgldeiaiaoaaGreatGoShpN
import Derived.Test.YtcdjgldeiaiaoaaGreatGoOriC
import Derived.Test.YtcdjgldeiaiaoaaGreatGoLp
import Derived.Test.YtcdjgldeiaiaoaaGreatGoWeA
set_option linter.unusedVariables false
set_option linter.unusedSimpArgs false
set_option maxHeartbeats 4000000
namespace Go.Abs
def E3 (m:Mesh) (d:V3):V :=
 if m.check≠0 then Ww noMesh 1 else if Yb (m.verts.map (·.add d))=false then Ww noMesh 8 else Ww (m.mapV (·.add d)) 0
def Qnj (P:Program) (f:FuncId):Prop:=∀(m:Mesh) (d:V3),d.inR=true->CallIs P f [m.enc,d.enc] (E3 m d)
def Q59 (P:Program) (f:FuncId):Prop:=∀m:Mesh,m.verts.length<=1000000->CallIs P f [m.enc] (if Yb m.verts=false then Ww noMesh 8 else Ww m 0)
section
variable {P:Program} (hm:P.follows .mixedOrders=true)
include hm
theorem Iw {f ff:FuncId} (hf:Qc P f (L17.c ff) L17.r L17.n) (hfit:Qeb P ff):Q59 P f:=by
 intro m hml
 cases h1:Yb m.verts
 ·rw[if_pos rfl]
  refine CallIs.res (r:=.t [.a [.nil,.nil],.i .i64 8]) ?_ (Q0r 8)
  refine PureC.is (Q9 hm hf (qh rfl) ?_) rfl
  unfold L17.c
  simp[go_sem,Mesh.enc,Mesh.cs]
  refine Q6 (hfit m.verts hml) ?_
  simp[go_sem,h1,L17.r]
 rw[if_neg (by simp)]
 refine PureC.is (Q9 hm hf (qh rfl) ?_) rfl
 unfold L17.c
 simp[go_sem,Mesh.enc,Mesh.cs]
 refine Q6 (hfit m.verts hml) ?_
 simp[go_sem,h1,L17.r,Ww,Mesh.enc,Mesh.cs,vsV,tsV]
theorem Qin {f fp:FuncId} (hf:Qc P f (L15.c fp) L15.r L15.n) (hp:Qfl P fp) (v d:V3) {h:List O} {id:Nat} (ho:h[id]?=some (.arr 1 3 [d.cs])) :
  ACall P f [v.enc,.p id 1 0 0] h (λr h'=>r=(v.plus d).enc/\h'=h):=by
 have hlt:id<h.length:=(q8.1 ho).1
 have hap:∀l:List O,(h++l)[id]?=some (.arr 1 3 [d.cs]):=λl=>by rw[qd hlt];exact ho
 refine Ym λhcl=>?_
 refine X3 hm hf (qh rfl) ?_
 unfold L15.c
 simp[go_sem,V3.enc,vcs,Qa,Qd,Qq,Qn,hap]
 refine Q6 (hp v d) ?_
 simp[go_sem,V3.enc,vcs,Qa,Qd,Qq,Qn,hap]
 refine⟨[(v.plus d).enc],by simp[L15.r,go_sem,Qa,V3.enc,vcs],by simp[V3.enc],h,by simp[V3.enc,vcs,V.cl,V.cl1,V.cl0],Nat.le_refl _,by omega,?_,rfl,rfl⟩
 have:=Z0 (n:=h.length) (a:=[.arr 1 3 [v.cs],.arr 1 3 [(v.plus d).cs]]) (b:=[]) (hcl h.length (Nat.le_refl _)) trivial
 rw[List.append_nil]at this
 exact this
theorem Q37 {f fk fn f1 fch fck:FuncId} (hf:Qc P f (L14.c fk fn f1 fch fck) L14.r L14.n) (hk:Zp P fk) (hnear:Qni P fn)
  {fcv fct fp:FuncId} (hfch:Qc P fch (L16.c fcv fct) L16.r L16.n) (hcv:Yj P fcv 3) (hct:Yj P fct 3) (hf1:Qc P f1 (L15.c fp) L15.r L15.n) (hcal:Z4 P f1=true) (hp:Qfl P fp) (hck:Q59 P fck):Qnj P f:=by
 intro m d hd
 by_cases h1:m.check=0
 case neg =>
  have:E3 m d=Ww noMesh 1:=by simp[E3,h1]
  rw[this]
  refine CallIs.res (r:=.t [.a [.nil,.nil],.i .i64 1]) ?_ (Q0r 1)
  refine PureC.is (Q9 hm hf (qh rfl) ?_) rfl
  unfold L14.c
  simp[go_sem,Mesh.enc,Mesh.cs,V3.enc,V3.cs]
  refine Q6 (hk m) ?_
  simp[go_sem,h1,L14.r]
 obtain⟨z1,z2,z3,z4⟩:=Mesh.check_zero.1 h1
 by_cases h2:0<m.verts.length/\d.within 131072=false
 ·have:E3 m d=Ww noMesh 8:=by
   have:Yb (m.verts.map (·.add d))=false:=by
    cases hvs:m.verts with
    | nil=>rw[hvs]at h2;simp at h2
    | cons v r =>
      rw[Bool.eq_false_iff]
      intro h3
      simp only[Yb,List.map_cons,List.all_cons,Bool.and_eq_true]at h3
      have hv:v.valid=true:=Ij z3 (k:=0) (by rw[hvs];rfl)
      have:=Q5b hv h3.1
      rw[this]at h2;simp at h2
   simp[E3,h1,this]
  rw[this]
  refine CallIs.res (r:=.t [.a [.nil,.nil],.i .i64 8]) ?_ (Q0r 8)
  refine PureC.is (Q9 hm hf (qh rfl) ?_) rfl
  unfold L14.c
  simp[go_sem,Mesh.enc,Mesh.cs,V3.enc,V3.cs]
  refine Q6 (hk m) ?_
  simp[go_sem,h1,vsV,h2.1]
  refine Q6 (hnear d) ?_
  simp[go_sem,h2.2,L14.r]
 have hg:∀v∈m.verts,v.plus d=v.add d:=by
  intro v hv
  have hne:0<m.verts.length:=List.length_pos_of_mem hv
  have hw:d.within 131072=true:=by
   cases hd2:d.within 131072
   ·exact absurd ⟨hne,hd2⟩ h2
   ·rfl
  obtain⟨i,hi⟩:=qr hv
  exact Qjx (Ij z3 hi) hw
 have hmap:m.verts.map (λv=>v.plus d)=m.verts.map (λv=>v.add d):=jl hg
 have hres:E3 m d=if Yb (m.mapV (·.add d)).verts=false then Ww noMesh 8 else Ww (m.mapV (·.add d)) 0:=by
  unfold E3;rw[if_neg (by simp[h1])];rfl
 have hexm:∃m' e,E3 m d=Ww m' e:=by
  rw[hres];split
  ·exact⟨_,_,rfl⟩
  ·exact⟨_,_,rfl⟩
 have hck':=hck (m.mapV (·.add d)) (by simp[Mesh.mapV];omega)
 rw[<- hres]at hck'
 obtain⟨m',e,hme⟩:=hexm
 rw[hme]at hck' ⊢
 have hchg:=Qdu hm (h:=[.arr 1 2 [m.cs],.arr 1 3 [d.cs],.arr 1 2 [[.nil,.nil]]]) (T:=[1]) (caps:=[.p 1 1 0 0]) (g:=λv=>v.plus d) hfch m z1 z2 hcv hct hcal (by simp)
  (by intro n hn;simp[V.cl,V.cl1,V.cl0];simp at hn;omega)
  (by intro n hn o ho;simp at ho;rcases ho with rfl | rfl | rfl<;>simp[O.cl,Mesh.cs,vsV,tsV,vcs,or_imp,forall_and,V.cl,V.cl1,V.cl0])
  (λv hv h2 hag=>Qin hm hf1 hp v d (by rw[hag 1 (by simp)];rfl))
 rw[hmap]at hchg
 refine PureC.is (Q9 hm hf (qh rfl) ?_) rfl
 unfold L14.c
 simp[go_sem,Mesh.enc,Mesh.cs,V3.enc,V3.cs]
 refine Q6 (hk m) ?_
 by_cases h3:0<m.verts.length
 case pos =>
  have hw:d.within 131072=true:=by
   cases hd2:d.within 131072
   ·exact absurd ⟨h3,hd2⟩ h2
   ·rfl
  simp[go_sem,h1,vsV,h3]
  refine Q6 (hnear d) ?_
  simp[go_sem,hw]
  refine J4 hchg ?_
  simp[go_sem]
  refine Kq (vs:=[(m.mapV (·.add d)).enc]) ?_ hck' ?_
  ·simp[go_sem,Yr,frz,Jc,Mesh.mapV,Mesh.enc,Mesh.cs,vsV,tsV,Yy,Y4]
  simp[go_sem,L14.r,Ww,Mesh.enc,Mesh.cs,vsV,tsV]
 case neg =>
  simp[go_sem,h1,vsV,h3]
  refine J4 hchg ?_
  simp[go_sem]
  refine Kq (vs:=[(m.mapV (·.add d)).enc]) ?_ hck' ?_
  ·simp[go_sem,Yr,frz,Jc,Mesh.mapV,Mesh.enc,Mesh.cs,vsV,tsV,Yy,Y4]
  simp[go_sem,L14.r,Ww,Mesh.enc,Mesh.cs,vsV,tsV]
end
theorem Kz {m:Mesh} (hz:m.check=0) {g:V3->V3} (hg:Yb (m.verts.map g)=true):(m.mapV g).check=0:=by
 obtain⟨z1,z2,z3,z4⟩:=Mesh.check_zero.1 hz
 refine Mesh.check_zero.2 ⟨by simpa[Mesh.mapV]using z1,z2,hg,?_⟩
 simpa[Mesh.mapV]using z4
theorem Ug {vs:List V3} {g:V3->V3} {i:Int} (h0:0<=i) (h:i<vs.length):vAt (vs.map g) i=g (vAt vs i):=by
 have h1:=Io h0 h
 unfold vAt
 rw[qq,h1];rfl
theorem Qiv {vs:List V3} {g:V3->V3} {t:T3} (ht:t.ok vs.length=true):Q05 (vs.map g) t=Ig (g (vAt vs t.a)) (g (vAt vs t.b)) (g (vAt vs t.c)):=by
 obtain⟨a1,a2,b1,b2,c1,c2⟩:=T3.ok_iff.1 ht
 unfold Q05
 rw[Ug a1 a2,Ug b1 b2,Ug c1 c2]
theorem J9 {m:Mesh} (hz:m.check=0):m.vol6=Za m.verts m.tris:=by unfold Mesh.vol6;rw[if_pos hz]
theorem Qdr {m:Mesh} (h:m.closed=true) (e:P2):(Q8 m.tris).count e=(Q8 m.tris).count e.rev:=by
 have key:∀e:P2,(Q8 m.tris).count e<=(Q8 m.tris).count e.rev:=by
  intro e
  unfold Mesh.closed at h
  simp only[Bool.and_eq_true,decide_eq_true_eq]at h
  obtain⟨hz,hb⟩:=h
  by_cases he:e∈Q8 m.tris
  ·have hne:¬ e∈m.border:=by rw[hb];simp
   rw[mem_border]at hne
   have h1:¬ m.use e.rev<m.use e:=λhh=>hne ⟨hz,he,hh⟩
   unfold Mesh.use at h1
   rw[if_pos hz,if_pos hz]at h1
   omega
  ·rw[List.count_eq_zero_of_not_mem he];omega
 have h1:=key e
 have h2:=key e.rev
 rw[show e.rev.rev=e from rfl]at h2
 omega
theorem Q8t {m:Mesh} (h:m.closed=true):(Q8 m.tris).Perm ((Q8 m.tris).map P2.rev):=by
 rw[List.perm_iff_count]
 intro e
 rw[Qdr h e,List.count,List.count,List.countP_map]
 refine List.countP_congr λx _=>?_
 simp only[Function.comp,beq_iff_eq]
 constructor
 ·rintro rfl;rfl
 ·rintro rfl;rfl
theorem Qjz {a b:List Int} (h:a.Perm b):a.sum=b.sum:=by
 induction h with
 | nil=>rfl
 | cons x _ ih=>simp only[List.sum_cons,ih]
 | swap x y l=>simp only[List.sum_cons];omega
 | trans _ _ h1 h2=>rw[h1,h2]
theorem Qdq {m:Mesh} (h:m.closed=true) {g:P2->Int} (hg:∀e,g e.rev=- g e):((Q8 m.tris).map g).sum=0:=by
 have h1:=Qjz ((Q8t h).map g)
 rw[List.map_map]at h1
 have h2:∀l:List P2,(l.map (g ∘ P2.rev)).sum=- (l.map g).sum:=by
  intro l
  induction l with
  | nil=>rfl
  | cons a l ih=>simp only[List.map_cons,List.sum_cons,ih,Function.comp,hg];omega
 rw[h2]at h1
 omega
theorem Q1g (g:P2->Int) (hg:∀e:P2,e.x=e.y->g e=0):∀ts:List T3,((Q8 ts).map g).sum=(ts.map λt=>g ⟨t.a,t.b⟩+g ⟨t.b,t.c⟩+g ⟨t.c,t.a⟩).sum
 | []=>rfl
 | t::ts=>by
   have h0:Q8 (t::ts)=Q5 t++Q8 ts:=rfl
   have h1:((Q5 t).map g).sum=g ⟨t.a,t.b⟩+g ⟨t.b,t.c⟩+g ⟨t.c,t.a⟩:=by
    have h2:Q5 t=(Y5 t).filter λe=>decide (e.x≠e.y):=rfl
    have h3:∀l:List P2,((l.filter λe=>decide (e.x≠e.y)).map g).sum=(l.map g).sum:=by
     intro l
     induction l with
     | nil=>rfl
     | cons a l ih =>
       rw[List.filter_cons]
       by_cases h:a.x=a.y
       ·simp only[h,ne_eq,not_true,decide_false,Bool.false_eq_true,if_false,ih,List.map_cons,List.sum_cons,hg a h];omega
       ·simp only[h,ne_eq,not_false_eq_true,decide_true,if_true,List.map_cons,List.sum_cons,ih]
    rw[h2,h3]
    simp only[Y5,List.map_cons,List.map_nil,List.sum_cons,List.sum_nil];omega
   rw[h0,qx,List.sum_append,h1,Q1g g hg ts,List.map_cons,List.sum_cons]
theorem det_add (a b c d:V3):Ig (a.add d) (b.add d) (c.add d)=Ig a b c+(Ie d (crs a b)+Ie d (crs b c)+Ie d (crs c a)):=by
 unfold Ig Ie crs V3.add
 grind
theorem Q9h {m:Mesh} (hc:m.closed=true) {d:V3} (hd:Yb (m.verts.map (·.add d))=true):(m.mapV (·.add d)).vol6=m.vol6:=by
 have hz:m.check=0:=by
  simp only[Mesh.closed,Bool.and_eq_true,decide_eq_true_eq]at hc;exact hc.1
 obtain⟨z1,z2,z3,z4⟩:=Mesh.check_zero.1 hz
 rw[J9 hz,J9 (Kz hz hd)]
 show Za (m.verts.map (·.add d)) m.tris=_
 have h1:=Qdq hc (g:=λe=>Ie d (crs (vAt m.verts e.x) (vAt m.verts e.y))) (λe=>by
  unfold Ie crs P2.rev;grind)
 rw[Q1g _ (λe he=>by rw[he];unfold Ie crs;grind)]at h1
 have h2:∀l:List T3,(∀t∈l,t.ok m.verts.length=true)->Za (m.verts.map (·.add d)) l=Za m.verts l +
   (l.map λt=>Ie d (crs (vAt m.verts t.a) (vAt m.verts t.b))+Ie d (crs (vAt m.verts t.b) (vAt m.verts t.c))+Ie d (crs (vAt m.verts t.c) (vAt m.verts t.a))).sum:=by
  intro l hl
  induction l with
  | nil=>rfl
  | cons t l ih =>
    rw[X5,X5,ih (λx hx=>hl x (by simp[hx])),List.map_cons,List.sum_cons,Qiv (hl t (by simp)),det_add]
    unfold Q05
    omega
 rw[h2 _ (qj.1 z4),h1]
 omega
noncomputable def Mesh.inv (m:Mesh):Bool:=m.shells.any λsh=>decide (Za m.verts (Qj m.tris sh)<0)
noncomputable def K4 (m:Mesh):Int :=
 if m.check≠0 then m.check else if m.closed=false then 12 else if cohB m.tris=false then 13 else if m.tris.any m.deg=true then 1 else if m.inv=true then 1 else 0
structure Rep where
 me:Int
 de:Int
 du:Int
 fl:Int
 ho:Int
 iv:Int
 sh:Int
def Rep.zero:Rep:=⟨0,0,0,0,0,0,0⟩
noncomputable def Y2 (m:Mesh):Mesh × Rep × Int :=
 if (Qb m).2.2≠0 then (noMesh,Rep.zero,(Qb m).2.2) else
 let a:=Qb m
 if (Qe a.1).2.2.2≠0 then (noMesh,Rep.zero,(Qe a.1).2.2.2) else
 let b:=Qe a.1
 if (Qb b.1).2.2≠0 then (noMesh,Rep.zero,(Qb b.1).2.2) else
 let c:=Qb b.1
 if (Zr c.1).2.2≠0 then (noMesh,Rep.zero,(Zr c.1).2.2) else
 let d:=Zr c.1
 if (Qt d.1).2.2≠0 then (noMesh,Rep.zero,(Qt d.1).2.2) else
 let g:=Qt d.1
 if (Zm g.1).2.2≠0 then (noMesh,Rep.zero,(Zm g.1).2.2) else
 let o:=Zm g.1
 if K4 o.1≠0 then (noMesh,Rep.zero,K4 o.1) else
 (o.1,⟨a.2.1+c.2.1,b.2.1,b.2.2.1,d.2.1,g.2.1,o.2.1,(o.1.shells.length:Int)⟩,0)
structure Snd (m:Mesh):Prop where
 z:m.check=0
 clo:m.closed=true
 coh:Coh m.tris
 deg:∀t∈m.tris,m.deg t=false
 vol:∀sh∈m.shells,0<=Za m.verts (Qj m.tris sh)
theorem snd_iff {m:Mesh}:K4 m=0↔Snd m:=by
 unfold K4
 constructor
 ·intro h
  by_cases h1:m.check=0
  case neg=>rw[if_pos h1]at h;exact absurd h h1
  rw[if_neg (by simpa using h1)]at h
  by_cases h2:m.closed=false
  case pos=>rw[if_pos h2]at h;simp at h
  rw[if_neg h2]at h
  by_cases h3:cohB m.tris=false
  case pos=>rw[if_pos h3]at h;simp at h
  rw[if_neg h3]at h
  by_cases h4:m.tris.any m.deg=true
  case pos=>rw[if_pos h4]at h;simp at h
  rw[if_neg h4]at h
  by_cases h5:m.inv=true
  case pos=>rw[if_pos h5]at h;simp at h
  refine⟨h1,by simpa using h2,cohB_iff.1 (by simpa using h3),?_,?_⟩
  ·intro t ht
   cases hd:m.deg t with
   | false=>rfl
   | true=>exact absurd (List.any_eq_true.2 ⟨t,ht,hd⟩) h4
  ·intro sh hs
   by_cases hn:Za m.verts (Qj m.tris sh)<0
   ·exact absurd (List.any_eq_true.2 ⟨sh,hs,by simpa using hn⟩) h5
   ·omega
 ·intro h
  have h4:m.tris.any m.deg=false:=by
   rw[List.any_eq_false];intro t ht;rw[h.deg t ht];simp
  have h5:m.inv=false:=by
   unfold Mesh.inv
   rw[List.any_eq_false];intro sh hs;have:=h.vol sh hs;simp;omega
  rw[if_neg (by simpa using h.z),if_neg (by rw[h.clo];simp),if_neg (by rw[cohB_iff.2 h.coh];simp),if_neg (by rw[h4];simp),if_neg (by rw[h5];simp)]
theorem Snd.out {m:Mesh} (h:Snd m):OutOk m:=⟨h.z,h.clo,cohB_iff.2 h.coh,h.vol⟩
theorem Snd.border {m:Mesh} (h:Snd m):m.border=[]:=by
 have:=h.clo
 unfold Mesh.closed at this
 simp only[Bool.and_eq_true,decide_eq_true_eq]at this
 exact this.2
theorem Snd.len {m:Mesh} (h:Snd m):m.tris.length<=4096:=(Mesh.check_zero.1 h.z).2.1
theorem mem_edges {t:T3} {e:P2}:e∈Q5 t↔e.x≠e.y/\(e=⟨t.a,t.b⟩∨e=⟨t.b,t.c⟩∨e=⟨t.c,t.a⟩):=by
 unfold Q5 Zn Y5
 rw[qv]
 simp only[List.take,List.mem_cons,List.not_mem_nil,or_false,decide_eq_true_eq]
 exact and_comm
theorem Kg {m:Mesh} (hz:m.check=0) {i:Int} (h0:0<=i) (h1:i<m.verts.length):(m.v i).valid=true :=
 qj.1 (Mesh.check_zero.1 hz).2.2.1 _ (Mesh.v_mem h0 h1)
theorem Snd.orient {m:Mesh} (h:Snd m):Zr m=(m,0,0):=by
 obtain⟨L,hL⟩:=Yq m.tris
 rw[Q2d h.z (Ja hL (Qhf h.coh)),Q6s];rfl
theorem Snd.fill {m:Mesh} (h:Snd m):Qt m=(m,0,0):=by
 have hl:=Q81 h.z h.border
 have hm:m.fillM=m:=by
  unfold Mesh.fillM
  rw[hl];simp
 unfold Qt
 rw[hm,hl]
 rw[if_pos rfl,if_pos h.len];rfl
theorem Snd.outw {m:Mesh} (h:Snd m):Zm m=(m,0,0):=Qch h.out
structure Wld (m:Mesh):Prop where
 asc:m.verts.Pairwise V3.lt
 used:∀v∈m.verts,∃t∈m.tris,v∈m.cor t
theorem Wld.weld {m:Mesh} (h:Wld m) (hz:m.check=0):Qb m=(m,0,0):=by
 have hv:m.wverts=m.verts:=by
  refine Km V3.ltO (Zu _) h.asc λv=>?_
  rw[mem_wverts]
  constructor
  ·rintro⟨t,ht,hv⟩
   obtain⟨a0,a1,b0,b1,c0,c1⟩:=tok hz ht
   simp only[Mesh.cor,List.mem_cons,List.not_mem_nil,or_false]at hv
   rcases hv with rfl | rfl | rfl
   ·exact Mesh.v_mem a0 a1
   ·exact Mesh.v_mem b0 b1
   ·exact Mesh.v_mem c0 c1
  ·exact h.used v
 have hnd:m.verts.Nodup:=by
  exact K0 V3.ltO h.asc
 have hi:∀i:Int,0<=i->i<m.verts.length->Xg m.verts (m.v i)=i:=by
  intro i h0 h1
  have:=K6 hnd (i:=i.toNat) (v:=m.v i) (by
   have hlt:i.toNat<m.verts.length:=by omega
   rw[q9 hlt,m.v_get h1 hlt])
  omega
 have ht:m.tris.map (K3 m m.verts)=m.tris:=by
  conv=>rhs;rw[<- List.map_id m.tris]
  refine jl λt ht=>?_
  obtain⟨a0,a1,b0,b1,c0,c1⟩:=tok hz ht
  simp only[K3,hi _ a0 a1,hi _ b0 b1,hi _ c0 c1];rfl
 unfold Qb Mesh.weldM
 rw[if_pos hz,hv,ht]
 simp
theorem Q1f (m:Mesh):((Qb m).2.2≠0/\m.check≠0)∨(m.check=0/\Qb m=(m.weldM,(m.verts.length:Int)-m.wverts.length,0)):=by
 unfold Qb
 by_cases h:m.check=0
 ·rw[if_pos h];exact .inr ⟨h,rfl⟩
 ·rw[if_neg h];exact .inl ⟨h,h⟩
theorem Qfq {m:Mesh} (hz:m.check=0):Wld m.weldM where
 asc:=Zu m
 used v hv:=by
  have hv:v∈m.weldM.wverts:=by
   have h:=congrArg Mesh.verts (Qfp hz)
   show v∈m.weldM.weldM.verts
   rw[h];exact hv
  exact mem_wverts.1 hv
theorem cor_rev (m:Mesh) (t:T3) (v:V3):v∈m.cor t.rev↔v∈m.cor t:=by
 simp only[Mesh.cor,T3.rev,List.mem_cons,List.not_mem_nil,or_false]
 constructor<;>rintro (h | h | h)<;>simp[h]
theorem Wld.fl {m:Mesh} (h:Wld m) {us:List T3} (hf:Fl m.tris us):Wld ⟨m.verts,us⟩ where
 asc:=h.asc
 used v hv:=by
  obtain⟨t,ht,hc⟩:=h.used v hv
  obtain⟨i,hi⟩:=qr ht
  have hl:=(q8.1 hi).1
  rw[Qk hl]at hi
  obtain rfl:=Option.some.inj hi
  refine⟨tAt us i,qb (Qk (by rw[hf.len];exact hl)),?_⟩
  show v∈m.cor _
  rcases hf.tat hl with h1 | h1
  ·rw[h1];exact hc
  ·rw[h1,cor_rev];exact hc
theorem Wld.more {m:Mesh} (h:Wld m) (k:List T3):Wld ⟨m.verts,m.tris++k⟩ where
 asc:=h.asc
 used v hv:=by
  obtain⟨t,ht,hc⟩:=h.used v hv
  exact⟨t,List.mem_append_left _ ht,hc⟩
theorem oriR_cs (m:Mesh):((Zr m).2.2≠0)∨(m.check=0/\∃us,Z9 m.tris=some us/\Zr m=(⟨m.verts,us⟩,(Q4u m.tris us:Int),0)):=by
 by_cases h:m.check=0
 case neg =>
  left
  unfold Zr
  rw[if_pos h];exact h
 cases ho:Z9 m.tris with
 | none=>left;rw[Q3j h ho];simp
 | some us=>exact .inr ⟨h,us,rfl,Q2d h ho⟩
theorem Qaz (m:Mesh):((Qt m).2.2≠0)∨(m.loops.2=0/\m.fillM.tris.length<=4096/\Qt m=(m.fillM,(m.loops.1.length:Int),0)):=by
 unfold Qt
 by_cases h:m.loops.2=0
 ·rw[if_pos h]
  by_cases h2:m.fillM.tris.length<=4096
  ·rw[if_pos h2];exact .inr ⟨h,h2,rfl⟩
  ·rw[if_neg h2];left;simp
 ·rw[if_neg h];exact .inl h
theorem Q3a (m:Mesh):((Y2 m).2.2≠0/\Y2 m=(noMesh,Rep.zero,(Y2 m).2.2)) ∨
  ((Y2 m).2.2=0/\Wld (Y2 m).1/\Snd (Y2 m).1/\(Y2 m).2.1.sh=((Y2 m).1.shells.length:Int)):=by
 unfold Y2
 simp only[]
 rcases Q1f m with⟨h,hz⟩ | ⟨hz,h1⟩
 ·rw[if_pos h];exact .inl ⟨h,rfl⟩
 rw[h1]
 simp only[ne_eq,not_true_eq_false,if_false]
 by_cases h2:(Qe m.weldM).2.2.2=0
 case neg=>rw[if_pos h2];exact .inl ⟨h2,rfl⟩
 rw[if_neg (by simpa using h2)]
 rcases Q1f (Qe m.weldM).1 with⟨h,hz⟩ | ⟨hz3,h3⟩
 ·rw[if_pos h];exact .inl ⟨h,rfl⟩
 rw[h3]
 simp only[not_true_eq_false,if_false]
 have hw:=Qfq hz3
 rcases oriR_cs (Qe m.weldM).1.weldM with h | ⟨hz4,us,ho,h4⟩
 ·rw[if_pos h];exact .inl ⟨h,rfl⟩
 rw[h4]
 simp only[not_true_eq_false,if_false]
 have hw4:=hw.fl (by obtain⟨L,hL⟩:=Yq (Qe m.weldM).1.weldM.tris;exact(Ky hL ho).fl)
 generalize (⟨(Qe m.weldM).1.weldM.verts,us⟩:Mesh)=d at *
 rcases Qaz d with h | ⟨hl,hlen,h5⟩
 ·rw[if_pos h];exact .inl ⟨h,rfl⟩
 rw[h5]
 simp only[not_true_eq_false,if_false]
 have hw5:Wld d.fillM:=hw4.more _
 generalize d.fillM=g at *
 rcases Qcg g with⟨h,_⟩ | ⟨h6,hok⟩
 ·rw[if_pos h];exact .inl ⟨h,rfl⟩
 rw[h6]
 simp only[not_true_eq_false,if_false]
 have hw6:Wld g.outw:=hw5.fl (Qdc _ _)
 by_cases h7:K4 g.outw=0
 case neg=>rw[if_pos h7];exact .inl ⟨h7,rfl⟩
 rw[if_neg (by simpa using h7)]
 exact .inr ⟨rfl,hw6,snd_iff.1 h7,rfl⟩
theorem Q4x {a b c d:V3} (ha:a.valid=true) (hb:b.valid=true) (hc:c.valid=true) (ha':(a.add d).valid=true) (hb':(b.add d).valid=true) (hc':(c.add d).valid=true) :
  Kb (a.add d) (b.add d) (c.add d)=Kb a b c:=by
 unfold Kb
 rw[ha,hb,hc,ha',hb',hc']
 have h:∀u w:V3,(u.add d).sub (w.add d)=u.sub w:=by
  intro u w;unfold V3.sub V3.add;simp only[V3.mk.injEq];omega
 rw[h,h]
theorem Q9t {m:Mesh} (hz:m.check=0) {sh:List Int} (hs:sh∈m.shells):sh.Nodup:=by
 obtain⟨L,hL⟩:=Yq m.tris
 have hR:m.shells=Y1 L m.tris.length:=by unfold Mesh.shells;rw[if_pos hz,Zj hL,hL.len]
 rw[hR]at hs
 obtain⟨i,_,_,rfl⟩:=shsK_mem.1 hs
 exact Kw _ _ _
theorem Qgd {m:Mesh} (hz:m.check=0) {sh:List Int} (hs:sh∈m.shells) {i j:Nat} (hi:(i:Int)∈sh) (ha:adjI m.tris i j):(j:Int)∈sh:=by
 obtain⟨L,hL⟩:=Yq m.tris
 have hR:m.shells=Y1 L m.tris.length:=by unfold Mesh.shells;rw[if_pos hz,Zj hL,hL.len]
 rw[hR]at hs
 obtain⟨q,_,_,rfl⟩:=shsK_mem.1 hs
 obtain⟨k,hk,h1,h2⟩:=mem_shK2.1 hi
 obtain rfl:i=k:=by omega
 exact mem_shK2.2 ⟨j,rfl,by rw[hL.len];exact ha.lt.2,by rw[<- hL.adj i j ha];exact h2⟩
theorem B4 (ts:List T3) (sh:List Int):(Qj ts sh).length=sh.length:=by simp[Qj]
theorem Q2c {ts:List T3} {sh:List Int} {i:Nat} (h:i<sh.length):tAt (Qj ts sh) i=tAt ts (sh[i]).toNat:=by
 unfold Qj tAt
 rw[qq,q9 h];rfl
theorem Q7d {m:Mesh} (hz:m.check=0) (hc:Coh m.tris) (hclo:Clo m.tris) {sh:List Int} (hs:sh∈m.shells):(Mesh.mk m.verts (Qj m.tris sh)).closed=true:=by
 have ho:=Jf hz
 have hnd:=Q9t hz hs
 have hm:=ho.mem sh hs
 refine Q4y (Ek hz (ho.len sh hs) hm) ?_ ?_
 ·intro i j e hi hj h1 h2
  have hi:i<sh.length:=by rw[B4]at hi;exact hi
  have hj:j<sh.length:=by rw[B4]at hj;exact hj
  rw[Q2c hi]at h1
  rw[Q2c hj]at h2
  have m1:=hm _ (List.getElem_mem hi)
  have m2:=hm _ (List.getElem_mem hj)
  have h:=hc _ _ e (by omega) (by omega) h1 h2
  exact Q6d hnd (q9 hi) (by rw[q9 hj];congr 1;omega)
 ·intro e he
  obtain⟨i,hi,h1⟩:=mem_all.1 he
  have hi:i<sh.length:=by rw[B4]at hi;exact hi
  rw[Q2c hi]at h1
  have m1:=hm _ (List.getElem_mem hi)
  have hv:(((sh[i]).toNat:Nat):Int)=sh[i]:=by omega
  obtain⟨j,hj,h2⟩:=mem_all.1 (hclo e (mem_all.2 ⟨_,by omega,h1⟩))
  have ha:=K1 (by omega) hj h1 h2 (B1 e).symm
  have hjs:=Qgd hz hs (by rw[hv];exact List.getElem_mem hi) ha
  obtain⟨k,hk,hkj⟩:=List.mem_iff_getElem.1 hjs
  refine mem_all.2 ⟨k,by show k<(Qj m.tris sh).length;rw[B4];exact hk,?_⟩
  show e.rev∈Q5 (tAt (Qj m.tris sh) k)
  rw[Q2c hk,hkj]
  exact h2
end Go.Abs
