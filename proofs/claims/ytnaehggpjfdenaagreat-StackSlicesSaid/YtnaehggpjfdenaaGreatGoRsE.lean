/- Part of the library on which the proof stands: an abstract machine, its values and its soundness against the model; or what functions of the program do to such values. -/
import Derived.Test.YtnaehggpjfdenaaGreatGoTpB
import Derived.Test.YtnaehggpjfdenaaGreatGoMap
import Derived.Test.YtnaehggpjfdenaaGreatAbsCP
set_option linter.unusedVariables false
set_option linter.unusedSimpArgs false
set_option maxHeartbeats 8000000
set_option maxRecDepth 20000
namespace Go.Abs
def Uu (E:List P2):List Use:=E.foldl Q5n []
theorem Qem (E:List P2) (e:P2):Uu (E++[e])=Q5n (Uu E) e:=by simp[Uu]
theorem Qpn (E:List P2):Cnt (Uu E) E:=by
 refine Io (p:=λE=>Cnt (Uu E) E) Cnt.nil ?_ E;intro E x ih;rw[Qem];exact ih.bump x
def Qic (P:Program) (f:FuncId):Prop:=∀m:Mesh,m.check=0->CallIs P f [m.enc] (Jz (Uu (Q7 m.tris)))
theorem uCs_cl (l:List Use) (n:Nat):∀el∈l.map uCs,∀x∈el,x.cl n=true:=λel hel x hx=>K4 n (Ud l el hel x hx)
theorem uCs_cl' (n:Nat):(∀(u:Use),∀x∈uCs u,x.cl n=true):=λu x hx=>uCs_cl [u] n (uCs u) (by simp) x hx
theorem Zs (L:List Use) (n:Nat):∀(el:List V) (x:P2) (y:Int),(x,y)∈L->uCs (x,y)=el->∀z∈el,z.cl n=true:=by
 rintro _ x y _ rfl z hz;exact uCs_cl' n (x,y) z hz
theorem own_if {els:List (List V)} {g n sz:Nat} (hn:els.length=n) (hd:∀el∈els,∀x∈el,x.isD=true) :
  (if g=g/\0+n<=els.length/\((List.take n (List.drop 0 els)).all λx=>x.all V.isD)=true then some (V.l sz els) else none)=some (V.l sz els):=by
 subst hn;have h3:((List.take els.length (List.drop 0 els)).all λx=>x.all V.isD)=true:=by
  rw[List.drop_zero,qi,qj];exact λel hel=>qj.2 (hd el hel)
 rw[if_pos ⟨rfl,by omega,h3⟩]
section
variable {P:Program} (hm:P.follows .mixedOrders=true)
include hm
theorem Q6a {f fd fw fp:FuncId} (hf:Q5 P f (L1i.c fd fw fp) L1i.r L1i.n) (hd:Xf P fd) (hw:Qpu P fw) (hpl:Q52 P fp):Qic P f:=by
 intro m hz;refine PI hm hf ?_;unfold L1i.c;have hl:=(Mesh.check_zero.1 hz).2.1;simp[go_sem,Mesh.enc,Mesh.cs,tsV];refine Qi [.t 3 3] (α:=Nat) (λk=>k<=m.tris.length)
  (λk=>⟨[(3,.own 1 ((Uu (Q7 (m.tris.take k))).length+1) 0 (Uu (Q7 (m.tris.take k))).length),(9,tsV m.tris),(10,.i .i64 m.tris.length),(11,.i .i64 k)],
   [.dead,.arr ((Uu (Q7 (m.tris.take k))).length+1) 3 ((Uu (Q7 (m.tris.take k))).map uCs)]⟩)
  (λk=>m.tris.length-k) 0 (by omega) ?_ ?_
 ·simp[go_sem,tsV,Q7,Uu]
 ·intro k hk;by_cases hkl:k=m.tris.length
  ·subst hkl;rw[qi];simp[go_sem,tsV,L1i.r,Jz];rw[own_if (by simp) (Ud _)];rfl
  ·have hlt:k<m.tris.length:=by omega
   have hp:m.tris[k]?=some m.tris[k]:=q9 hlt;generalize m.tris[k]=t at hp;obtain⟨_,hp'⟩:=q8.1 hp;simp[go_sem,tsV,hlt,hp',tcs];refine Q2 (hd t) ?_;have hlen:(Q4 t).length<=3:=Zj t 3;have hE:=Yw m.tris k;have hsuc:=Zy hp;generalize hA:Q7 (m.tris.take k)=A0 at *
   simp[go_sem,psV];refine Q8 (α:=Nat) (λj=>j<=(Q4 t).length)
    (λj=>⟨[(3,.own 1 ((Uu (A0++(Q4 t).take j)).length+1) 0 (Uu (A0++(Q4 t).take j)).length),(9,tsV m.tris),(10,.i .i64 m.tris.length),(11,.i .i64 k),(16,psV (Q4 t)),(17,.i .i64 (Q4 t).length),(18,.i .i64 j)],
     [.dead,.arr ((Uu (A0++(Q4 t).take j)).length+1) 3 ((Uu (A0++(Q4 t).take j)).map uCs)]⟩)
    (λj=>(Q4 t).length-j) 0 (by omega) ?_ ?_
   ·simp[go_sem,tsV,psV];exact Zs _ _
   ·intro j hj;by_cases hjl:j=(Q4 t).length
    ·subst hjl;rw[qi,<- hsuc];simp (disch:=omega) [go_sem,tsV,psV,Q0];exact⟨k+1,by omega,by omega,by simp,⟨rfl,rfl⟩,Zs _ _⟩
    ·have hjlt:j<(Q4 t).length:=by omega
     have hq:(Q4 t)[j]?=some (Q4 t)[j]:=q9 hjlt;have htk:(Q4 t).take (j+1)=(Q4 t).take j++[(Q4 t)[j]]:=by rw[List.take_add_one,hq];rfl
     generalize (Q4 t)[j]=e at hq htk;obtain⟨_,hq'⟩:=q8.1 hq;have hS1:A0++(Q4 t).take (j+1)=(A0++(Q4 t).take j)++[e]:=by rw[htk,<- j6]
     have hSl:(A0++(Q4 t).take j).length<=3*4096+3:=by rw[j7,qv];omega
     generalize hS:A0++(Q4 t).take j=S at hS1 hSl;have hT1:=Qem S e;rw[<- hS1]at hT1
     have hC:=Qpn S;have hCl:=hC.len;generalize Uu S=L at hT1 hC hCl;have hWl:(Zo L e).length<=L.length+1:=by
      unfold Zo;split
      ·omega
      ·have:=Qjh L e;simp;omega
     simp[go_sem,psV,hjlt,hq',pcs];refine Qt (hw L e hC.1 (by omega) _ 1 rfl) ?_;simp[go_sem,psV];have hWa:=Wr hC.1 e;have hWg:=Qdl hC.1 e;have hWn:=Qdk hC e;have hcl:S.count e<=S.length:=List.count_le_length;have hbl:(Q5n L e).length=(Zo L e).length:=by simp[Q5n]
     have hbm:(Q5n L e).map uCs=((Zo L e).map uCs).set (pl (Zo L e) e) [.i .i64 e.x,.i .i64 e.y,.i .i64 (K3 (Zo L e) e+1)]:=by
      simp only[Q5n,List.map_set];rfl
     generalize Zo L e=W at *
     refine Xg (vs:=[Jz W,e.enc]) ?_ ((hpl W e hWa (by omega)) []) rfl ?_
     ·exact Up rfl (by simp) (Ud W) (by simp[Zh,frz,Ys,P2.enc,pcs])
     generalize K3 W e=n at *
     generalize pl W e=i at *
     obtain⟨hil,hWg'⟩:=q8.1 hWg;simp (disch:=omega) [go_sem,psV,hWg,hWg',hil,Q00,Q0];exact⟨j+1,by omega,by omega,⟨by rw[hT1,hbl],.inr rfl,by simp⟩,⟨by rw[hT1,hbl],by rw[hT1,hbm]⟩,Zs _ _⟩
end
def Xk (E:List P2):List Use:=E.foldl Zo []
theorem Qdm (E:List P2) (e:P2):Xk (E++[e])=Zo (Xk E) e:=by simp[Xk]
theorem Q7o (E:List P2):Ju (Xk E)/\(∀e n,(e,n)∈Xk E↔e∈E/\n=0)/\(Xk E).length<=E.length:=by
 refine Io (p:=λE=>Ju (Xk E)/\(∀e n,(e,n)∈Xk E↔e∈E/\n=0)/\(Xk E).length<=E.length) ?_ ?_ E
 ·simp[Xk,Ju]
 ·rintro E x ⟨h1,h2,h3⟩;rw[Qdm];refine⟨Wr h1 x,λe n=>?_,?_⟩
  ·rw[Ko h1,h2];constructor
   ·rintro (⟨h,rfl⟩ | ⟨h,hh⟩)
    ·exact⟨by simp[h],rfl⟩
    ·simp only[Prod.mk.injEq]at h;obtain⟨rfl,rfl⟩:=h;exact⟨by simp,rfl⟩
   ·rintro⟨h,rfl⟩;rw[qg,qn]at h
    by_cases hE:e∈E
    ·exact .inl ⟨hE,rfl⟩
    ·obtain rfl:e=x:=h.resolve_left hE;refine .inr ⟨rfl,?_⟩;rw[Bool.eq_false_iff];intro hh;obtain⟨n,hn⟩:=(Q2l h1).1 hh;exact hE ((h2 e n).1 hn).1
  ·unfold Zo;split
   ·simp;omega
   ·have:=Qjh (Xk E) x;simp;omega
def Qnt (P:Program) (f:FuncId):Prop:=∀m:Mesh,m.check=0->NewC P f [m.enc] (λr h=>r=.own 1 ((Xk ((Q7 m.tris).map P2.und)).length+1) 0 (Xk ((Q7 m.tris).map P2.und)).length /\
 h=[.dead,.arr ((Xk ((Q7 m.tris).map P2.und)).length+1) 3 ((Xk ((Q7 m.tris).map P2.und)).map uCs)])
section
variable {P:Program} (hm:P.follows .mixedOrders=true)
include hm
theorem Bh {f fd fu fw:FuncId} (hf:Q5 P f (L1n.c fd fu fw) L1n.r L1n.n) (hd:Xf P fd) (hu:Qnu P fu) (hw:Qpu P fw):Qnt P f:=by
 intro m hz;refine Qme hm hf (qh rfl) ?_;unfold L1n.c;have hl:=(Mesh.check_zero.1 hz).2.1;simp[go_sem,Mesh.enc,Mesh.cs,tsV];refine Qi [.t 3 3] (α:=Nat) (λk=>k<=m.tris.length)
  (λk=>⟨[(3,.own 1 ((Xk ((Q7 (m.tris.take k)).map P2.und)).length+1) 0 (Xk ((Q7 (m.tris.take k)).map P2.und)).length),(9,tsV m.tris),(10,.i .i64 m.tris.length),(11,.i .i64 k)],
   [.dead,.arr ((Xk ((Q7 (m.tris.take k)).map P2.und)).length+1) 3 ((Xk ((Q7 (m.tris.take k)).map P2.und)).map uCs)]⟩)
  (λk=>m.tris.length-k) 0 (by omega) ?_ ?_
 ·simp[go_sem,tsV,Q7,Xk]
 ·intro k hk;by_cases hkl:k=m.tris.length
  ·subst hkl;rw[qi];simp[go_sem,tsV,L1n.r];exact Zs _ _
  ·have hlt:k<m.tris.length:=by omega
   have hp:m.tris[k]?=some m.tris[k]:=q9 hlt;generalize m.tris[k]=t at hp;obtain⟨_,hp'⟩:=q8.1 hp;simp[go_sem,tsV,hlt,hp',tcs];refine Q2 (hd t) ?_;have hlen:(Q4 t).length<=3:=Zj t 3;have hE:=Yw m.tris k;have hsuc:=Zy hp;generalize hA:Q7 (m.tris.take k)=A0 at *
   simp[go_sem,psV];refine Q8 (α:=Nat) (λj=>j<=(Q4 t).length)
    (λj=>⟨[(3,.own 1 ((Xk ((A0++(Q4 t).take j).map P2.und)).length+1) 0 (Xk ((A0++(Q4 t).take j).map P2.und)).length),(9,tsV m.tris),(10,.i .i64 m.tris.length),(11,.i .i64 k),(16,psV (Q4 t)),(17,.i .i64 (Q4 t).length),(18,.i .i64 j)],
     [.dead,.arr ((Xk ((A0++(Q4 t).take j).map P2.und)).length+1) 3 ((Xk ((A0++(Q4 t).take j).map P2.und)).map uCs)]⟩)
    (λj=>(Q4 t).length-j) 0 (by omega) ?_ ?_
   ·simp[go_sem,tsV,psV];exact Zs _ _
   ·intro j hj;by_cases hjl:j=(Q4 t).length
    ·subst hjl;rw[qi,<- hsuc];simp (disch:=omega) [go_sem,tsV,psV,Q0];exact⟨k+1,by omega,by omega,by simp,⟨rfl,rfl⟩,Zs _ _⟩
    ·have hjlt:j<(Q4 t).length:=by omega
     have hq:(Q4 t)[j]?=some (Q4 t)[j]:=q9 hjlt;have htk:(Q4 t).take (j+1)=(Q4 t).take j++[(Q4 t)[j]]:=by rw[List.take_add_one,hq];rfl
     generalize (Q4 t)[j]=e at hq htk;obtain⟨_,hq'⟩:=q8.1 hq;have hS1:(A0++(Q4 t).take (j+1)).map P2.und=(A0++(Q4 t).take j).map P2.und++[e.und]:=by rw[htk,<- j6,qx (l₂:=[e])];rfl
     have hSl:((A0++(Q4 t).take j).map P2.und).length<=3*4096+3:=by rw[List.length_map,j7,qv];omega
     generalize hS:(A0++(Q4 t).take j).map P2.und=S at hS1 hSl;have hT1:=Qdm S e.und;rw[<- hS1]at hT1
     have hC:=Q7o S;generalize Xk S=L at hT1 hC;simp[go_sem,psV,hjlt,hq',pcs];refine Q2 (hu e) ?_;simp[go_sem,psV];refine Qt (hw L e.und hC.1 (by omega) _ 1 rfl) ?_;simp (disch:=omega) [go_sem,psV,Q0];rw[qx,List.map_take]at hT1
     exact⟨j+1,by omega,by omega,⟨by rw[hT1],.inr rfl,by simp⟩,⟨by rw[hT1],by rw[hT1]⟩,Zs _ _⟩
end
def Mesh.edgesL (m:Mesh):List P2:=if m.check=0 then Jv ((Q7 m.tris).map P2.und) else []
theorem sh_uCs (L:List Use) (g n:Nat):(O.arr g 3 (L.map uCs)).sh n=.arr g 3 (L.map uCs):=by
 have h:∀u:Use,(uCs u).map (V.sh1 n)=uCs u:=λu=>by simp[uCs,V.sh1,V.sh0]
 simp only[O.sh,List.map_map,Function.comp_def,h]
theorem psV_nil:Le .nil (psV []):=.inl (.inl (Le0.nil 2))
theorem und_asc (E:List P2):asc ((Xk E).map Prod.fst):=by
 have h:=(Q7o E).1;unfold Ju at h;unfold asc;rw[ji];exact h
theorem Quf (E:List P2):(Xk E).map Prod.fst=Jv E:=by
 refine Q2v (und_asc E) (Jc _) λa=>?_
 rw[mem_ascOf,qo];have h:=(Q7o E).2.1;constructor
 ·rintro⟨⟨x,n⟩,h1,rfl⟩;exact((h x n).1 h1).1
 ·intro h1;exact⟨(a,0),(h a 0).2 ⟨h1,rfl⟩,rfl⟩
theorem Q6 {α:Type} {l:List α} {k:Nat} {x:α} (h:l[k]?=some x):l.take (k+1)=l.take k++[x]:=by rw[List.take_add_one,h];rfl
def Wj (L:List Use) (k:Nat):List P2:=((L.take k).filter λu=>decide (K3 L u.1.rev<u.2)).map Prod.fst
theorem Qt1 (L:List Use) (k:Nat):(Wj L k).length<=k:=by
 unfold Wj;rw[List.length_map];have:=jc (λu:Use=>decide (K3 L u.1.rev<u.2)) (L.take k);rw[qv]at this;omega
theorem Qnp {L:List Use} {k:Nat} {u:Use} (h:L[k]?=some u):Wj L (k+1)=Wj L k++if K3 L u.1.rev<u.2 then [u.1] else []:=by
 unfold Wj;rw[Q6 h,List.filter_append,qx];by_cases h:K3 L u.1.rev<u.2<;>simp[h]
section
variable {P:Program} (hm:P.follows .mixedOrders=true)
include hm
theorem Q1u {f fc fn fr fb:FuncId} (hf:Q5 P f (L1c.c fc fn fr fb) L1c.r L1c.n) (hc:Y0 P fc) (hn:Qic P fn) (hr:Qts P fr) (hb:Q86 P fb):Ks P f:=by
 intro m;by_cases hz:m.check=0
 case neg =>
  have he:m.border=[]:=by simp[Mesh.border,hz]
  rw[he];refine CallIs.res (r:=.nil) ?_ psV_nil;refine PI hm hf ?_;unfold L1c.c;simp[go_sem,Mesh.enc,Mesh.cs];refine Q2 (hc m) ?_;simp[go_sem,hz,L1c.r]
 have hl:=(Mesh.check_zero.1 hz).2.1;have hE:=Yw m.tris m.tris.length;rw[qi]at hE
 have hC:=Qpn (Q7 m.tris);have hCl:=hC.len;have hB:m.border=((Uu (Q7 m.tris)).filter λu=>decide (K3 (Uu (Q7 m.tris)) u.1.rev<u.2)).map Prod.fst:=by
  refine Q2v (Qbg m) ?_ λa=>?_
  ·have h:=hC.1;unfold Ju at h;unfold asc;rw[ji];exact h.filter _
  ·rw[mem_border,qo];have u1:m.use a=(Q7 m.tris).count a:=by simp[Mesh.use,hz]
   have u2:m.use a.rev=(Q7 m.tris).count a.rev:=by simp[Mesh.use,hz]
   rw[u1,u2];constructor
   ·rintro⟨_,h1,h2⟩;exact⟨(a,(Q7 m.tris).count a),by rw[qu];exact⟨(hC.2 _ _).2 ⟨h1,rfl⟩,by simp only[hC.num];simpa using h2⟩,rfl⟩
   ·rintro⟨⟨x,n⟩,h1,rfl⟩;rw[qu]at h1
    obtain⟨h1,h2⟩:=h1;obtain⟨h3,rfl⟩:=(hC.2 _ _).1 h1;simp only[hC.num]at h2;exact⟨hz,h3,by simpa using h2⟩
 rw[hB];refine PI hm hf ?_;unfold L1c.c;simp[go_sem,Mesh.enc,Mesh.cs];refine Q2 (hc m) ?_;simp[go_sem,hz];refine Q2 (hn m hz) ?_;generalize Uu (Q7 m.tris)=L at *
 simp[go_sem,Jz];refine Qi [.t 4 2] (α:=Nat) (λk=>k<=L.length)
  (λk=>⟨[(3,Jz L),(4,.own 1 ((Wj L k).length+1) 0 (Wj L k).length),(12,Jz L),(13,.i .i64 L.length),(14,.i .i64 k)],
   [.dead,.arr ((Wj L k).length+1) 2 ((Wj L k).map P2.cs)]⟩)
  (λk=>L.length-k) 0 (Nat.zero_le _) ?_ ?_
 ·simp[go_sem,Jz,Wj]
 ·intro k hk;by_cases hkl:k=L.length
  ·subst hkl;have hk:(L.filter λu=>decide (K3 L u.1.rev<u.2)).map Prod.fst=Wj L L.length:=by unfold Wj;rw[qi]
   rw[hk];generalize Wj L L.length=R;simp[go_sem,L1c.r,psV,Q9p,Jz]
  ·have hlt:k<L.length:=by omega
   have hp:L[k]?=some L[k]:=q9 hlt;generalize L[k]=u at hp;obtain⟨_,hp'⟩:=q8.1 hp;have hfs:=Qnp hp;have hfl:=Qt1 L k;have h2:=hb L u.1.rev hC.1 (by omega);simp only[Jz]at h2;generalize Wj L k=R at *
   simp (disch:=omega) [go_sem,hlt,hp,hp',Q00,Q0,Jz];refine Qa (hr u.1) ?_;simp[go_sem];refine Qa h2 ?_;by_cases h:K3 L u.1.rev<u.2
   ·rw[if_pos h]at hfs
    simp (disch:=omega) [go_sem,h,Q0,P2.enc,P2.cs];refine⟨⟨by omega,by omega⟩,k+1,by omega,by omega,?_⟩;rw[hfs];simp[pcs,or_imp,forall_and,V.cl,V.cl1,V.cl0]
   ·rw[if_neg h]at hfs
    simp (disch:=omega) [go_sem,h,Q0];rw[List.append_nil]at hfs
    refine⟨k+1,by omega,by omega,?_⟩;rw[hfs];simp[pcs,or_imp,forall_and,V.cl,V.cl1,V.cl0]
theorem Q6d {f fc fb:FuncId} (hf:Q5 P f (L1d.c fc fb) L1d.r L1d.n) (hc:Y0 P fc) (hb:Ks P fb):Bc P f:=Ej hm hf hc hb
end
structure PolyOk (ps:List (List P2)):Prop where
 num:ps.length<=4096
 cnt:(ps.flatMap Qu).length<=4096
 bd:EgB (ps.flatMap Qu) 65536
theorem Qb4 (ps:List (List P2)) (p:List P2):((ps++[p]).flatMap Qu).length=(ps.flatMap Qu).length+p.length:=by
 rw[List.flatMap_append,j7];simp[Kl]
theorem Qsd (ps:List (List P2)) (k:Nat):((ps.take k).flatMap Qu).length<=(ps.flatMap Qu).length:=by
 conv=>rhs;rw[<- List.take_append_drop k ps]
 rw[List.flatMap_append,j7];omega
theorem PolyOk.len {ps:List (List P2)} (h:PolyOk ps) {k:Nat} {p:List P2} (hp:ps[k]?=some p):((ps.take k).flatMap Qu).length+p.length<=4096:=by
 have h1:=Qsd ps (k+1);rw[Q6 hp,Qb4]at h1
 have:=h.cnt;omega
theorem PolyOk.pt {ps:List (List P2)} (h:PolyOk ps) {p:List P2} (hp:p∈ps) {v:P2} (hv:v∈p):(-65536<=v.x/\v.x<=65536)/\-65536<=v.y/\v.y<=65536:=by
 rw[<- Q3f p]at hv
 obtain⟨e,he,rfl⟩:=qo.1 hv;obtain⟨a,b,_⟩:=h.bd e (jr.2 ⟨p,hp,he⟩);exact⟨a,b⟩
def Bd (P:Program) (f:FuncId):Prop:=∀(ps:List (List P2)) (k:Int),PolyOk ps->CallIs P f [Qd ps,.i .i64 k] (.i .i64 (if Z1 k 32 1024 then 0 else 1))
def Z0l (P:Program) (f:FuncId):Prop:=∀a b:E5,E5B a->E5B b->CallIs P f [.a a.cs,.a b.cs] (.i .i64 (a.lo.y-b.lo.y))
def StB (s:Int × Int):Prop:=(-100000000000<=s.1/\s.1<=100000000000)/\-1<=s.2/\s.2<=1
def stC (s:Int × Int):List V:=[.i .i64 s.1,.i .i64 s.2]
def Z0k (P:Program) (f:FuncId):Prop:=∀a b:Int × Int,StB a->StB b->CallIs P f [.a (stC a),.a (stC b)] (.i .i64 (b.1-a.1))
section
variable {P:Program} (hm:P.follows .mixedOrders=true)
include hm
theorem Q1v {f:FuncId} (hf:Q5 P f L0t.c L0t.r L0t.n):Z0l P f:=by
 intro a b ha hb;obtain⟨_,_,a1,a2,_,_,_,_,_,_,_⟩:=ha;obtain⟨_,_,b1,b2,_,_,_,_,_,_,_⟩:=hb;refine PI hm hf ?_;unfold L0t.c;have w:=Q0 (z:=a.lo.y-b.lo.y) (by omega) (by omega);simp[go_sem,E5.cs,w,L0t.r]
theorem Q6f {f:FuncId} (hf:Q5 P f L0v.c L0v.r L0v.n):Z0k P f:=by
 intro a b ha hb;obtain⟨⟨a1,a2⟩,_⟩:=ha;obtain⟨⟨b1,b2⟩,_⟩:=hb;refine PI hm hf ?_;unfold L0v.c;have w:=Q0 (z:=b.1-a.1) (by omega) (by omega);simp[go_sem,stC,w,L0v.r]
theorem Q6i {f:FuncId} (hf:Q5 P f L0q.c L0q.r L0q.n):Bd P f:=by
 intro ps k hps;have hpl:=hps.num;refine PI hm hf ?_;unfold L0q.c;by_cases hlo:k<32
 ·have he:Z1 k 32 1024=false:=by unfold Z1;simp[show ¬ 32<=k by omega]
  simp[go_sem,hlo,he,L0q.r]
 by_cases hhi:1024<k
 ·have he:Z1 k 32 1024=false:=by unfold Z1;simp[show ¬ k<=1024 by omega]
  simp[go_sem,hlo,hhi,he,L0q.r]
 have ht:k.tmod 2=k % 2:=jt (by omega);by_cases hev:k % 2=0
 case neg =>
  have he:Z1 k 32 1024=false:=by unfold Z1;simp[hev]
  have hb:(k.tmod 2 != 0)=true:=by rw[ht];simpa using hev
  have w:=Q0 (z:=k.tmod 2) (by omega) (by omega);rw[ht]at w hb
  simp[go_sem,hlo,hhi,ht,w,hb,hev,he,L0q.r]
  done
 have he:Z1 k 32 1024=true:=by unfold Z1;simp[hev];omega
 simp[go_sem,hlo,hhi,ht,hev,he,Qd];obtain⟨tot,htot⟩:∃tot:Nat->Nat,∀i,tot i=((ps.take i).flatMap Qu).length:=⟨_,λ_=>rfl⟩
 have htot0:tot 0=0:=by rw[htot];rfl
 refine Q8 (α:=Nat) (λi=>i<=ps.length)
  (λi=>⟨[(0,Qd ps),(5,.i .i64 (tot i)),(23,Qd ps),(24,.i .i64 ps.length),(25,.i .i64 i)],[]⟩)
  (λi=>ps.length-i) 0 (Nat.zero_le _) ?_ ?_
 ·simp[go_sem,Qd,htot0]
 ·intro i hi;by_cases hil:i=ps.length
  case neg =>
   have hlt:i<ps.length:=by omega
   have hq:ps[i]?=some ps[i]:=q9 hlt;have hln:=hps.len hq;have hft:=Qb4 (ps.take i) ps[i];rw[<- Q6 hq,<- htot,<- htot]at hft
   rw[<- htot]at hln
   generalize ps[i]=p at *
   obtain⟨_,hq'⟩:=q8.1 hq;simp (disch:=omega) [go_sem,Qd,psV,hlt,hq,hq',Q0];exact⟨i+1,by omega,by omega,by omega,by omega⟩
  subst hil;have hcnt:=hps.cnt;have hN:=htot ps.length;rw[qi]at hN
  rw[<- hN]at hcnt
  generalize tot ps.length=N at *
  simp[go_sem,Qd,show ¬ (16384:Int)<N by omega];refine Q8 (α:=Nat) (λi=>i<=ps.length)
   (λi=>⟨[(37,Qd ps),(38,.i .i64 ps.length),(39,.i .i64 i)],[]⟩)
   (λi=>ps.length-i) 0 (Nat.zero_le _) ?_ ?_
  ·simp[go_sem,Qd]
  intro i hi;by_cases hil:i=ps.length
  ·subst hil;simp[go_sem,Qd,L0q.r]
  have hlt:i<ps.length:=by omega
  have hq:ps[i]?=some ps[i]:=q9 hlt;have hln:=hps.len hq;have hpt:∀v∈ps[i],_:=λv hv=>hps.pt (qb hq) hv
  generalize ps[i]=p at *
  obtain⟨_,hq'⟩:=q8.1 hq;simp (disch:=omega) [go_sem,Qd,psV,hlt,hq,hq',Q0];refine Q8 (α:=Nat) (λj=>j<=p.length)
   (λj=>⟨[(37,Qd ps),(38,.i .i64 ps.length),(39,.i .i64 i),(44,.l 2 (p.map P2.cs)),(45,.i .i64 p.length),(46,.i .i64 j)],[]⟩)
   (λj=>p.length-j) 0 (Nat.zero_le _) ?_ ?_
  ·simp[go_sem,Qd,psV]
  intro j hj;by_cases hjl:j=p.length
  ·subst hjl;simp (disch:=omega) [go_sem,Qd,psV,Q0];exact⟨i+1,by omega,by omega,by omega⟩
  have hjt:j<p.length:=by omega
  have hv:p[j]?=some p[j]:=q9 hjt;have hvb:=hpt _ (qb hv);generalize p[j]=v at *
  obtain⟨_,hv'⟩:=q8.1 hv;simp (disch:=omega) [go_sem,Qd,hjt,hv,hv',P2.cs,show ¬ v.x < -65536 by omega,show ¬ 65536<v.x by omega,show ¬ v.y < -65536 by omega,show ¬ 65536<v.y by omega,Q0];exact⟨j+1,by omega,by omega,by omega⟩
end
abbrev Z18:={ e:E5 // E5B e }
instance:Inhabited Z18:=⟨⟨⟨⟨0,0⟩,⟨0,1⟩,0⟩,by constructor<;>decide⟩⟩
def Qeq (a b:Z18):Int:=a.1.lo.y-b.1.lo.y
theorem Qsx:Go.Sort.SWO (ltC Qeq) where
 irrefl x:=by unfold ltC Qeq;simp
 trans x y z:=by unfold ltC Qeq;simp only[decide_eq_true_eq];omega
 ntrans x y z:=by unfold ltC Qeq;simp only[decide_eq_false_iff_not];omega
theorem Qyw (l:List E5):∀e∈l,∀y∈e.cs,y.isD=true:=λe _ y hy=>by
 simp[E5.cs]at hy
 rcases hy with rfl | rfl | rfl | rfl | rfl<;>rfl
theorem Qba (l:List E5) (n:Nat):∀e∈l,∀y∈e.cs,y.cl n=true:=λe he y hy=>K4 n (Qyw l e he y hy)
def Wn (es:List Eg):List E5:=es.filterMap Q0t
theorem Qju (a b:List Eg):Wn (a++b)=Wn a++Wn b:=List.filterMap_append
theorem Qwe (e:Eg):Wn [e]=(Q0t e).toList:=by
 unfold Wn;rw[List.filterMap_cons];cases Q0t e<;>rfl
theorem Q2g (a:List Eg):(Wn a).length<=a.length:=List.length_filterMap_le _ _
def Qi8 (P:Program) (f:FuncId):Prop:=∀ps:List (List P2),PolyOk ps->∃l:List E5,l.Perm (Wn (ps.flatMap Qu))/\l.Pairwise (λa b=>a.lo.y<=b.lo.y)/\CallIs P f [Qd ps] (e5V l)
section
variable {P:Program} (hm:P.follows .mixedOrders=true)
include hm
theorem Q6g {f fs fc:FuncId} (hf:Q5 P f (L0s.c fs fc) L0s.r L0s.n) (hs:Ic P fs 5) (hc:Z0l P fc) (hcal:Qx P fc=true):Qi8 P f:=by
 intro ps hps;have hpl:=hps.num;have hcnt:=hps.cnt;have hLB:∀e∈Wn (ps.flatMap Qu),E5B e:=λe he=>Qml hps.bd he
 have hLl:=Q2g (ps.flatMap Qu);obtain⟨ys,hperm,hup,hcall⟩:=hs (λr:Z18=>r.1.ints) (λ_=>rfl) Qeq Qsx fc hcal (λa b=>hc a.1 b.1 a.2 b.2) ((Wn (ps.flatMap Qu)).pmap Subtype.mk hLB) (by rw[List.length_pmap];omega);have hxs:((Wn (ps.flatMap Qu)).pmap Subtype.mk hLB).map Subtype.val=Wn (ps.flatMap Qu):=by rw[List.map_pmap];simp
 have hp2:=hperm.map Subtype.val;rw[hxs]at hp2
 refine⟨ys.map Subtype.val,hp2,?_,?_⟩
 ·rw[ji];refine hup.imp λ{a b} h=>?_
  unfold ltC Qeq at h;simp only[decide_eq_false_iff_not]at h;omega
 have hyl:(ys.map Subtype.val).length=(Wn (ps.flatMap Qu)).length:=hp2.length_eq;have hyy:ys.map (λx:Z18=>x.1.ints.map (V.i .i64))=(ys.map Subtype.val).map E5.cs:=by rw[List.map_map];rfl
 have hxx:((Wn (ps.flatMap Qu)).pmap Subtype.mk hLB).map (λx:Z18=>x.1.ints.map (V.i .i64))=(Wn (ps.flatMap Qu)).map E5.cs:=by
  conv=>rhs;rw[<- hxs]
  rw[List.map_map];rfl
 rw[hyy,hxx]at hcall
 rw[List.length_pmap]at hcall
 generalize ys.map Subtype.val=zs at *
 clear hup hperm hxs hxx hyy hLB;obtain⟨A,hA⟩:∃A:Nat->List E5,∀i,A i=Wn ((ps.take i).flatMap Qu):=⟨_,λ_=>rfl⟩
 have hA0:A 0=[]:=by rw[hA];rfl
 have hAn:A ps.length=Wn (ps.flatMap Qu):=by rw[hA,qi]
 refine PI hm hf ?_;unfold L0s.c;simp[go_sem,Qd];refine Qi [.t 3 5] (α:=Nat) (λi=>i<=ps.length)
  (λi=>⟨[(3,.own 0 ((A i).length+1) 0 (A i).length),(9,Qd ps),(10,.i .i64 ps.length),(11,.i .i64 i)],[.arr ((A i).length+1) 5 ((A i).map E5.cs)]⟩)
  (λi=>ps.length-i) 0 (Nat.zero_le _) ?_ ?_
 ·simp[go_sem,Qd,hA0]
 ·intro i hi;by_cases hil:i=ps.length
  ·subst hil;rw[hAn];simp[go_sem,Qd];refine Qt (hcall _ 0 _ rfl) ?_;have hd:=Qyw zs;have ht:List.take (Wn (ps.flatMap Qu)).length (zs.map E5.cs)=zs.map E5.cs:=qe (by rw[List.length_map];omega);simp[go_sem,L0s.r,e5V,hyl,ht];rw[if_pos hd];rfl
  ·have hlt:i<ps.length:=by omega
   have hq:ps[i]?=some ps[i]:=q9 hlt;have hln:=hps.len hq;have hAs:A (i+1)=A i++Wn (Qu ps[i]):=by rw[hA,hA,Q6 hq,List.flatMap_append,Qju];simp
   have hAl:=Q2g ((ps.take i).flatMap Qu);rw[<- hA]at hAl
   generalize ps[i]=p at *
   obtain⟨_,hq'⟩:=q8.1 hq;generalize A i=B at *
   simp (disch:=omega) [go_sem,Qd,psV,hlt,hq,hq',Q0];obtain⟨C,hC⟩:∃C:Nat->List E5,∀j,C j=B++Wn (W3 p j):=⟨_,λ_=>rfl⟩
   refine Q8 (α:=Nat) (λj=>j<=p.length)
    (λj=>⟨[(3,.own 0 ((C j).length+1) 0 (C j).length),(5,.p 1 1 0 0),(9,Qd ps),(10,.i .i64 ps.length),(11,.i .i64 i),(16,psV p),(17,.i .i64 p.length),(18,.i .i64 j)],[.arr ((C j).length+1) 5 ((C j).map E5.cs),.arr 1 1 [[psV p]]]⟩)
    (λj=>p.length-j) 0 (Nat.zero_le _) ?_ ?_
   ·have hC0:C 0=B:=by rw[hC];simp[W3,Wn]
    simp[go_sem,Qd,psV,hC0];exact Qba B _
   ·intro j hj;by_cases hjl:j=p.length
    ·subst hjl;have hCn:C p.length=A (i+1):=by rw[hC,Qdy,hAs]
     rw[hCn];simp (disch:=omega) [go_sem,Qd,psV,Q0];exact⟨i+1,by omega,by omega,⟨rfl,by omega⟩,⟨rfl,rfl⟩,Qba _ _⟩
    ·have hjt:j<p.length:=by omega
     have hCl:(C j).length<=4096:=by
      have h1:=Q2g (W3 p j);have h2:(W3 p j).length<=p.length:=by unfold W3;rw[qv,Kl];omega
      rw[hC,j7];omega
     obtain⟨j2,a,b,hj2,hrem,ha,hb,hCs⟩:∃(j2:Nat) (a b:P2),j2<p.length/\((j:Int)+1).tmod (p.length:Int)=(j2:Int)/\p[j]?=some a/\p[j2]?=some b/\C (j+1)=C j++(Q0t (a,b)).toList:=by
      have hm2:(j+1) % p.length<p.length:=Nat.mod_lt _ (by omega);refine⟨(j+1) % p.length,p[j],p[(j+1) % p.length],hm2,?_,q9 hjt,q9 hm2,?_⟩
      ·rw[jt (by omega)];simp
      ·rw[hC,hC,Q93 hjt,Qju,<- j6,Qwe]
     obtain⟨_,ha'⟩:=q8.1 ha;obtain⟨_,hb'⟩:=q8.1 hb;have htc:List.take (C j).length ((C j).map E5.cs)=(C j).map E5.cs:=qe (by simp);have hp0:¬ p=[]:=by rintro rfl;simp at hjt
     unfold Q0t at hCs;simp only[]at hCs;by_cases hab:a.y<b.y
     ·rw[if_pos hab]at hCs
      simp (disch:=omega) [go_sem,Qd,psV,hjt,ha,ha',hb,hb',hj2,hrem,hp0,P2.cs,hab,htc,Q0];exact⟨⟨by omega,by omega⟩,j+1,by omega,by omega,⟨by rw[hCs];simp,by omega⟩,⟨by rw[hCs];simp,by rw[hCs];simp[E5.cs]⟩,Qba _ _⟩
     ·rw[if_neg hab]at hCs
      by_cases hba:b.y<a.y
      ·rw[if_pos hba]at hCs
       simp (disch:=omega) [go_sem,Qd,psV,hjt,ha,ha',hb,hb',hj2,hrem,hp0,P2.cs,hab,hba,htc,Q0];exact⟨⟨by omega,by omega⟩,j+1,by omega,by omega,⟨by rw[hCs];simp,by omega⟩,⟨by rw[hCs];simp,by rw[hCs];simp[E5.cs]⟩,Qba _ _⟩
      ·rw[if_neg hba]at hCs
       simp at hCs;simp (disch:=omega) [go_sem,Qd,psV,hjt,ha,ha',hb,hb',hj2,hrem,hp0,P2.cs,hab,hba,htc,Q0];exact⟨j+1,by omega,by omega,⟨by rw[hCs],by omega⟩,⟨by rw[hCs],by rw[hCs]⟩,Qba _ _⟩
end
abbrev Z07:={ s:Int × Int // StB s }
instance:Inhabited Z07:=⟨⟨(0,0),⟨⟨by decide,by decide⟩,by decide,by decide⟩⟩⟩
def Qen (a b:Z07):Int:=b.1.1-a.1.1
def stI (s:Int × Int):List Int:=[s.1,s.2]
theorem Qsu:Go.Sort.SWO (ltC Qen) where
 irrefl x:=by unfold ltC Qen;simp
 trans x y z:=by unfold ltC Qen;simp only[decide_eq_true_eq];omega
 ntrans x y z:=by unfold ltC Qen;simp only[decide_eq_false_iff_not];omega
theorem Qix (l:List (Int × Int)) (n:Nat):∀e∈l,∀y∈stC e,y.cl n=true:=λe _ y hy=>by
 simp[stC]at hy
 rcases hy with rfl | rfl<;>rfl
theorem Qff (l:List (Int × Int)) (n:Nat):∀(el:List V) (x y:Int),(x,y)∈l->stC (x,y)=el->∀v∈el,v.cl n=true:=by
 rintro el x y h rfl;exact Qix l n _ h
theorem Qsq {α:Type} {l:List α} {i:Nat} {a:α} (h:l[i]?=some a):l.drop i=a::l.drop (i+1):=by
 obtain⟨hlt,he⟩:=q8.1 h;rw[List.drop_eq_getElem_cons hlt,he]
theorem Qxy (B:List O) (acc:List Rn) (g:Nat):Zh (B++[.arr g 2 (acc.map Rn.cs)]) [.own B.length g 0 acc.length]=some [Q9 acc]:=by
 have hd:=Ep acc;have ht:List.take acc.length (acc.map Rn.cs)=acc.map Rn.cs:=qe (by simp);simp[Zh,frz,Ys,Q9,Qc,ht];rw[if_pos hd];rfl
theorem Qm3 (l:List Rn) (n g:Nat):(O.arr g 2 (l.map Rn.cs)).cl n:=λel hel x hx=>by
 obtain⟨r,hr,rfl⟩:=qo.1 hel;exact Q59 l n r hr x hx
theorem clM_if (x:Int):(if -4096<(if 4096<x then 4096 else x) then (if 4096<x then 4096 else x) else -4096)=clM x:=by
 unfold clM;split<;>split<;>omega
theorem Qis (l:List E5) (k cy:Int):(Y3 l k cy).length<=l.length:=by
 unfold Y3;rw[List.length_map];exact jc _ _
theorem Quj (e:E5) (k cy:Int):Y3 [e] k cy=if onE cy e then [Qq8 k cy e] else []:=by
 unfold Y3;rw[List.filter_cons,List.filter_nil];split<;>rfl
theorem Qq7 {l:List E5} {k cy:Int} (h:∀e∈l,cy<e.lo.y):Y3 l k cy=[]:=by
 unfold Y3;rw[List.filter_eq_nil_iff.2]
 ·rfl
 ·intro e he;unfold onE;have:=h e he;simp;omega
theorem Qzn {l:List E5} (hp:l.Pairwise λa b=>a.lo.y<=b.lo.y) {i:Nat} {e:E5} (hi:l[i]?=some e) {cy:Int} (h:cy<e.lo.y) (k:Int):Y3 l k cy=Y3 (l.take i) k cy:=by
 have h1:=List.take_append_drop i l
 conv=>lhs;rw[<- h1]
 have hn:Y3 (l.drop i) k cy=[]:=?_
 ·rw[Q8i,hn,List.append_nil]
 refine Qq7 λx hx=>?_
 have hlt:=(q8.1 hi).1;have h2:l.drop i=e::l.drop (i+1):=by
  rw[List.drop_eq_getElem_cons hlt,(q8.1 hi).2]
 have h3:(l.drop i).Pairwise λa b=>a.lo.y<=b.lo.y:=hp.sublist (List.drop_sublist i l)
 rw[h2]at h3 hx
 rcases List.mem_cons.1 hx with rfl | hx
 ·exact h
 ·have:=(jd.1 h3).1 x hx;omega
def Z09 (P:Program) (f:FuncId):Prop:=∀(l:List E5) (k y:Int),(∀e∈l,E5B e)->l.Pairwise (λa b=>a.lo.y<=b.lo.y)->l.length<=4096->PitchOk k->-10000<=y->y<=10000 ->
 ∃rs:List Rn,RnsV rs/\(∀x,Qb rs x↔(-4096<=x/\x<4096)/\0<Xp (Y3 l k (y*k+k / 2)) x)/\CallIs P f [e5V l,.i .i64 k,.i .i64 y] (Q9 rs)
section
variable {P:Program} (hm:P.follows .mixedOrders=true)
include hm
theorem Qci {f fe fx fs fc fn:FuncId} (hf:Q5 P f (L0u.c fe fx fs fc fn) L0u.r L0u.n) (hce:CenC P fe) (hx:Qia P fx) (hs:Ic P fs 2) (hc:Z0k P fc) (hcal:Qx P fc=true) (hn:Z0p P fn):Z09 P f:=by
 intro l k y hl hp hlen hk hy1 hy2;have hcen:=hce y k hy1 hy2 hk;have hcyb:-11000000<=y*k+k / 2/\y*k+k / 2<=11000000:=by
  have m1:=Ja (a:=y) (b:=k) (k:=10000) (m:=1024) (by omega) (by have:=hk.lo;have:=hk.hi;omega);have:=hk.lo;have:=hk.hi;omega
 generalize hcy:y*k+k / 2=cy at *
 have hSB:∀s∈Y3 l k cy,StB s:=by
  intro s hs;unfold Y3 at hs;obtain⟨e,he,rfl⟩:=qo.1 hs;obtain⟨he1,he2⟩:=qu.1 he;unfold onE at he2;simp only[Bool.and_eq_true,decide_eq_true_eq]at he2;have hb:=Qzi (hl e he1) hk he2.1 he2.2;exact⟨hb,(hl e he1).s1,(hl e he1).s2⟩
 have hsl:=Qis l k cy;obtain⟨ys,hperm,hup,hcall⟩:=hs (λr:Z07=>stI r.1) (λ_=>rfl) Qen Qsu fc hcal (λa b=>hc a.1 b.1 a.2 b.2) ((Y3 l k cy).pmap Subtype.mk hSB) (by rw[List.length_pmap];omega);have hxs:((Y3 l k cy).pmap Subtype.mk hSB).map Subtype.val=Y3 l k cy:=by rw[List.map_pmap];simp
 have hp2:=hperm.map Subtype.val;rw[hxs]at hp2
 have hdesc:(ys.map Subtype.val).Pairwise λa b:Int × Int=>b.1<=a.1:=by
  rw[ji];refine hup.imp λ{a b} h=>?_
  unfold ltC Qen at h;simp only[decide_eq_false_iff_not]at h;omega
 have hyB:∀s∈ys.map Subtype.val,StB s:=λs hs=>hSB s (hp2.mem_iff.1 hs)
 have hyl:(ys.map Subtype.val).length=(Y3 l k cy).length:=hp2.length_eq;have hyy:ys.map (λx:Z07=>(stI x.1).map (V.i .i64))=(ys.map Subtype.val).map stC:=by rw[List.map_map];rfl
 have hxx:((Y3 l k cy).pmap Subtype.mk hSB).map (λx:Z07=>(stI x.1).map (V.i .i64))=(Y3 l k cy).map stC:=by
  conv=>rhs;rw[<- hxs]
  rw[List.map_map];rfl
 rw[hyy,hxx]at hcall
 rw[List.length_pmap]at hcall
 generalize ys.map Subtype.val=zs at *
 clear hup hperm hxs hxx hyy;have hG1:=λx=>Qk2 zs 0 4096 x hdesc (by omega) (λs _=>by unfold clM;omega)
 have hG2:=Qdw zs 0 4096 (by omega) (by omega);have hG3:=Qdv zs 0 4096;obtain⟨rs,hrv,hrm,hrc⟩:=hn (W2 zs 0 4096) (by omega) (λq hq=>by have:=hG2 q hq;omega);refine⟨rs,hrv,λx=>?_,?_⟩
 ·rw[hrm,hG1,Q8j hp2,Int.zero_add]
 clear hrm hG1 hG2 hdesc hp2;generalize hGG:W2 zs 0 4096=G at *
 refine PI hm hf ?_;unfold L0u.c;simp[go_sem,e5V];refine Q2 hcen ?_;simp[go_sem,e5V];obtain⟨S,hS⟩:∃S:Nat->List (Int × Int),∀i,S i=Y3 (l.take i) k cy:=⟨_,λ_=>rfl⟩
 refine Qi [.t 8 2] (α:=Nat) (λi=>i<=l.length)
  (λi=>⟨[(1,.i .i64 k),(7,.i .i64 cy),(8,.own 0 ((S i).length+1) 0 (S i).length),(20,e5V l),(21,.i .i64 l.length),(22,.i .i64 i)],[.arr ((S i).length+1) 2 ((S i).map stC)]⟩)
  (λi=>l.length-i) 0 (Nat.zero_le _) ?_ ?_
 ·have hS0:S 0=[]:=by rw[hS];rfl
  simp[go_sem,e5V,hS0]
 ·intro i hi;have hSi:(S i).length<=4096:=by
   have:=Qis (l.take i) k cy;rw[<- hS,qv]at this
   omega
  have htk:List.take (S i).length ((S i).map stC)=(S i).map stC:=qe (by simp);have hclS:=λn=>Qix (S i) n
  by_cases hbr:i=l.length∨∃e,l[i]?=some e/\cy<e.lo.y
  ·have hfin:S i=Y3 l k cy:=by
    rcases hbr with rfl | ⟨e,he,h⟩
    ·rw[hS,qi]
    ·rw[hS,<- Qzn hp he h]
   rw[hfin];rcases hbr with hil | ⟨e,hq,hce⟩
   case' inl =>
    simp[go_sem,e5V,hil];refine Qt (hcall _ 0 _ rfl) ?_;simp (disch:=omega) [go_sem];obtain⟨B,hB⟩:∃B,B=[O.arr ((Y3 l k cy).length+1) 2 (zs.map stC)]:=⟨_,rfl⟩
    have f0:∀tl,(B++tl)[0]?=some (O.arr ((Y3 l k cy).length+1) 2 (zs.map stC)):=λtl=>by rw[hB];rfl
    have hBc:∀n,∀o∈B,o.cl n:=λn o ho=>by
     rw[hB]at ho
     obtain rfl:=qn.1 ho;intro el hel x hx;obtain⟨s,hs,rfl⟩:=qo.1 hel;exact Qix zs n s hs x hx
   case' inr =>
    obtain⟨hlt,hq'⟩:=q8.1 hq;simp[go_sem,e5V,hlt,hq,hq',E5.cs,hce];refine Qt (hcall _ 0 _ rfl) ?_;simp (disch:=omega) [go_sem];obtain⟨B,hB⟩:∃B,B=[O.arr ((Y3 l k cy).length+1) 2 (zs.map stC),O.arr 1 5 [e.cs]]:=⟨_,rfl⟩
    have f0:∀tl,(B++tl)[0]?=some (O.arr ((Y3 l k cy).length+1) 2 (zs.map stC)):=λtl=>by rw[hB];rfl
    have hBc:∀n,∀o∈B,o.cl n:=λn o ho=>by
     rw[hB]at ho
     simp only[List.mem_cons,List.not_mem_nil,or_false]at ho;rcases ho with rfl | rfl
     ·intro el hel x hx;obtain⟨s,hs,rfl⟩:=qo.1 hel;exact Qix zs n s hs x hx
     ·intro el hel x hx;rw[qn.1 hel]at hx
      exact Qba [e] n e (by simp) x hx
   all_goals
    refine Qi [.t 11 2] (α:=Nat × List Rn × Int × Int) (λp=>p.1<=zs.length/\p.2.1++W2 (zs.drop p.1) p.2.2.1 p.2.2.2=G/\(-(p.1:Int)<=p.2.2.1/\p.2.2.1<=p.1)/\(-4096<=p.2.2.2/\p.2.2.2<=4096)/\p.2.1.length<=p.1)
     (λp=>⟨[(11,.own B.length (p.2.1.length+1) 0 p.2.1.length),(12,.i .i64 p.2.2.1),(13,.i .i64 p.2.2.2),(46,.own 0 ((Y3 l k cy).length+1) 0 zs.length),(47,.i .i64 zs.length),(48,.i .i64 p.1)],
      B++[.arr (p.2.1.length+1) 2 (p.2.1.map Rn.cs)]⟩)
     (λp=>zs.length-p.1) (0,[],0,4096) ⟨Nat.zero_le _,hGG,by simp,by simp,by simp⟩ ?_ ?_
    ·subst hB;simp[go_sem,hyl]
     first
      | exact Qff _ _
      | exact⟨Qff _ _,rfl,Qba [e] _ e (by simp)⟩
    ·rintro⟨q,acc,w,r⟩ ⟨hq,hG,hw,hr,hal⟩;simp only at hq hG hw hr hal ⊢;by_cases hql:q=zs.length
     ·subst hql;rw[List.drop_length]at hG
      have hta:List.take acc.length (acc.map Rn.cs)=acc.map Rn.cs:=qe (by simp);have hd:=Ep acc;unfold W2 at hG;have hfin3:∀(acc':List Rn) (g:Nat),acc'=G->Zh (B++[.arr g 2 (acc'.map Rn.cs)]) [.own B.length g 0 acc'.length]=some [Q9 G]:=λacc' g h=>by rw[<- h];exact Qxy B acc' g
      by_cases hw0:0<w
      ·by_cases hr0:-4096<r
       ·rw[if_pos ⟨hw0,hr0⟩]at hG
        have hf3:=hfin3 _ (acc.length+1+1) hG;rw[qx,j7]at hf3
        simp (disch:=omega) [go_sem,Qc,Qf,Qm,Qk,hw0,hr0,hta];refine⟨⟨by omega,by omega⟩,Y8 (vs:=[Q9 G]) hf3 hrc ?_⟩;simp[go_sem,Q9,L0u.r]
       ·rw[if_neg (λh=>hr0 h.2),List.append_nil]at hG
        simp (disch:=omega) [go_sem,Qc,Qf,Qm,Qk,hw0,hr0];refine Y8 (vs:=[Q9 G]) (hfin3 _ _ hG) hrc ?_;simp[go_sem,Q9,L0u.r]
      ·rw[if_neg (λh=>hw0 h.1),List.append_nil]at hG
       simp (disch:=omega) [go_sem,Qc,Qf,Qm,Qk,hw0];refine Y8 (vs:=[Q9 G]) (hfin3 _ _ hG) hrc ?_;simp[go_sem,Q9,L0u.r]
     ·have hqt:q<zs.length:=by omega
      have hs1:zs[q]?=some zs[q]:=q9 hqt;have hsB:=hyB _ (qb hs1);have hdc:=Qsq hs1;generalize zs[q]=s at *
      rw[hdc]at hG
      unfold W2 at hG;have hic:(zs.map stC)[q]?=some [V.i .i64 s.1,V.i .i64 s.2]:=by rw[qp,hs1];rfl
      obtain⟨hicl,hic'⟩:=q8.1 hic;have hta:List.take acc.length (acc.map Rn.cs)=acc.map Rn.cs:=qe (by simp);have hcm:=clM_if s.1;have hcb:-4096<=clM s.1/\clM s.1<=4096:=by unfold clM;omega
      obtain⟨_,hs2⟩:=hsB;generalize clM s.1=c at *
      have hcell:∀n,(O.arr 1 2 [[V.i .i64 s.1,V.i .i64 s.2]]).cl n:=λn el hel x hx=>by
       rw[qn.1 hel]at hx
       exact Qix [s] n s (by simp) x hx
      by_cases hw0:0<w
      ·by_cases hr0:c<r
       ·rw[if_pos ⟨hw0,hr0⟩,<- j6]at hG
        simp (disch:=omega) [go_sem,f0,hqt,hic,hicl,hic',hcm,Qc,Qf,Qm,Qk,hw0,hr0,hta,Q0];refine⟨⟨by omega,by omega⟩,q+1,acc++[⟨c,r⟩],w+s.2,c,⟨by omega,hG,by omega,hcb,by simp;omega⟩,by omega,⟨by simp,rfl,rfl,by omega⟩,Qn (hBc _) ⟨.inr ⟨by simp[Rn.cs],Qm3 _ _ _⟩,trivial⟩⟩
       ·rw[if_neg (λh=>hr0 h.2),List.nil_append]at hG
        simp (disch:=omega) [go_sem,f0,hqt,hic,hicl,hic',hcm,Qc,Qf,Qm,Qk,hw0,hr0,Q0];exact⟨q+1,acc,w+s.2,c,⟨by omega,hG,by omega,hcb,by omega⟩,by omega,⟨rfl,rfl,rfl,by omega⟩,Qn (hBc _) ⟨.inr ⟨rfl,Qm3 _ _ _⟩,trivial⟩⟩
      ·rw[if_neg (λh=>hw0 h.1),List.nil_append]at hG
       simp (disch:=omega) [go_sem,f0,hqt,hic,hicl,hic',hcm,Qc,Qf,Qm,Qk,hw0,Q0];exact⟨q+1,acc,w+s.2,c,⟨by omega,hG,by omega,hcb,by omega⟩,by omega,⟨rfl,rfl,rfl,by omega⟩,Qn (hBc _) ⟨.inr ⟨rfl,Qm3 _ _ _⟩,trivial⟩⟩
  ·have hlt:i<l.length:=by omega
   have hq:l[i]?=some l[i]:=q9 hlt;have hSs:S (i+1)=S i++(if onE cy l[i] then [Qq8 k cy l[i]] else []):=by rw[hS,hS,Q6 hq,Q8i,Quj]
   have heB:=hl l[i] (qb hq);generalize l[i]=e at *
   obtain⟨_,hq'⟩:=q8.1 hq;have hce:¬ cy<e.lo.y:=λh=>hbr (.inr ⟨e,hq,h⟩)
   by_cases hhi:cy<e.hi.y
   ·rw[if_pos (by unfold onE;simp;omega)]at hSs
    have hxc:=hx e cy k heB hk (by omega) hhi;simp (disch:=omega) [go_sem,e5V,hlt,hq,hq',E5.cs,hce,hhi];refine Q2 hxc ?_;simp (disch:=omega) [go_sem,e5V,htk,Q0];exact⟨⟨by omega,by omega⟩,i+1,by omega,by omega,⟨by rw[hSs];simp,by omega⟩,⟨by rw[hSs];simp,by rw[hSs];simp[stC,Qq8]⟩,Qff _ _⟩
   ·rw[if_neg (by unfold onE;simp;omega),List.append_nil]at hSs
    simp (disch:=omega) [go_sem,e5V,hlt,hq,hq',E5.cs,hce,hhi,Q0];exact⟨i+1,by omega,by omega,⟨by rw[hSs],by omega⟩,⟨by rw[hSs],by rw[hSs]⟩,Qff _ _⟩
end
end Go.Abs
