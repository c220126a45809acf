/- Part of the library on which the proof stands: an abstract machine, its values and its soundness against the model; or what functions of the program do to such values. -/
import Derived.Test.YtnaehggpjfdenaaGreatGoRpA
import Derived.Test.YtnaehggpjfdenaaGreatGoSkD
import Derived.Test.YtnaehggpjfdenaaGreatGoSl
set_option linter.unusedVariables false
set_option linter.unusedSimpArgs false
set_option maxHeartbeats 16000000
set_option maxRecDepth 20000
namespace Go.Abs
structure Sett where
 pitch:Int
 height:Int
 walls:Int
 top:Int
 bottom:Int
 pattern:Int
 spacing:Int
 support:Bool
 reach:Int
 gap:Int
 brim:Int
 skirt:Int
 drop:Int
 feed:Int
 travel:Int
 retract:Int
 minTime:Int
 minFeed:Int
 nozzle:Int
 bed:Int
def Sett.cs (s:Sett):List V:=[.i .i64 s.pitch,.i .i64 s.height,.i .i64 s.walls,.i .i64 s.top,.i .i64 s.bottom,.i .i64 s.pattern,.i .i64 s.spacing,.b s.support,.i .i64 s.reach,.i .i64 s.gap,
 .i .i64 s.brim,.i .i64 s.skirt,.i .i64 s.drop,.i .i64 s.feed,.i .i64 s.travel,.i .i64 s.retract,.i .i64 s.minTime,.i .i64 s.minFeed,.i .i64 s.nozzle,.i .i64 s.bed]
def Sett.enc (s:Sett):V:=.a s.cs
def Qo4 (P:Program) (f:FuncId):Prop:=∀(m:Mesh) (s:Sett),CallIs P f [m.enc,s.enc] (.t [Xl (Xs m s.pitch s.height).1,.i .i64 (Xs m s.pitch s.height).2])
def Qi3 (P:Program) (f:FuncId):Prop:=∀(m:Mesh) (s:Sett),Z1 s.height 4 1024=true->CallIs P f [m.enc,s.enc] (.t [Xl (Xs m s.pitch s.height).1,.i .i64 (Xs m s.pitch s.height).2])
theorem Qik {l:List V3} (h:K8 l=true) {v:V3} (hv:v∈l):v.valid=true:=by
 unfold K8 at h;exact qj.1 h v hv
theorem Qzl {l:List V3} (hl:l≠[]) (hv:∀v∈l,v.valid=true):(bHi l).z<=65536/\-65536<=(bHi l).z:=by
 have hb:∀v∈l,v.z<=65536/\-65536<=v.z:=λv h=>by
  have:=V3.val_iff.1 (hv v h);omega
 cases l with
 | nil=>exact absurd rfl hl
 | cons v l =>
   unfold bHi;rw[(Qzm (v::l) v).2.2];rcases (Qw6 V3.z (v::l) v.z).2.2 with h | ⟨w,hw,h⟩
   ·rw[h];exact hb v (by simp)
   ·rw[h];exact hb w hw
def rgE (g:List Rw):List V:=[rwL g]
theorem Q0d (l:List (List Rw)) (n:Nat):∀g∈l,∀x∈rgE g,x.cl n=true:=λg _ x hx=>by
 simp[rgE]at hx
 subst hx
 rfl
theorem Q7r (l:List (List Rw)):∀g∈l,∀x∈rgE g,x.isD=true:=λg _ x hx=>by
 simp[rgE]at hx
 subst hx
 rfl
theorem Y2 (l:List (List Rw)):Xl l=.l 1 (l.map rgE):=rfl
section
variable {P:Program} (hm:P.follows .mixedOrders=true)
include hm
theorem Qbx {f fc fb fh fs:FuncId} (hf:Q5 P f (L3w.c fc fb fh fs) L3w.r L3w.n) (hc:Qtz P fc) (hb:Z0s P fb) (hh:Qo9 P fh) (hs:Q4y P fs):Qo4 P f:=by
 intro m s;have hcc:=hc m;have hnil:∀e:Int,Le (.t [.nil,.i .i64 e]) (.t [Xl [],.i .i64 e]):=λe=>.inr ⟨_,_,rfl,rfl,.inl (Le0.nil 1),Le1.refl _,trivial⟩
 unfold Xs;by_cases h0:U9 m=0
 case neg =>
  rw[if_pos h0];refine CallIs.res (r:=.t [.nil,.i .i64 (U9 m)]) ?_ (hnil _);refine PI hm hf ?_;have hb:(U9 m != 0)=true:=by simpa using h0
  unfold L3w.c;simp[go_sem,Mesh.enc,Mesh.cs,Sett.enc,Sett.cs];refine Q2 hcc ?_;simp[go_sem,h0,hb,L3w.r]
 rw[if_neg (by simp[h0])];rw[h0]at hcc
 have hmc:=(snd_iff.1 h0).z;have hbc:=hb m hmc;by_cases hv:m.verts=[]
 ·rw[if_pos hv];rw[decide_eq_false (by simp[hv])]at hbc
  refine CallIs.res (r:=.t [.nil,.i .i64 0]) ?_ (hnil _);refine PI hm hf ?_;unfold L3w.c;simp[go_sem,Mesh.enc,Mesh.cs,Sett.enc,Sett.cs];refine Q2 hcc ?_;simp[go_sem];refine Q2 hbc ?_;simp[go_sem,V3.enc,V3.cs,L3w.r]
 rw[if_neg hv];rw[decide_eq_true hv]at hbc
 by_cases hz:(bLo m.verts).z<0
 ·rw[if_pos hz];refine CallIs.res (r:=.t [.nil,.i .i64 8]) ?_ (hnil _);refine PI hm hf ?_;unfold L3w.c;simp[go_sem,Mesh.enc,Mesh.cs,Sett.enc,Sett.cs];refine Q2 hcc ?_;simp[go_sem];refine Q2 hbc ?_;simp[go_sem,V3.enc,V3.cs,hz,L3w.r]
 rw[if_neg hz];have hzb:=Qzl hv λv hv=>Qik (Mesh.check_zero.1 hmc).2.2.1 hv
 have hhc:=hh (bHi m.verts).z s.height (by omega) (by omega);have hhl:=Qav (bHi m.verts).z s.height;generalize I1 (bHi m.verts).z s.height=H at *
 obtain⟨zs,e⟩:=H;simp only at hhc hhl ⊢;by_cases he:e=0
 case neg =>
  rw[if_pos he];have heb:(e != 0)=true:=by simpa using he
  refine CallIs.res (r:=.t [.nil,.i .i64 e]) ?_ (hnil _);refine PI hm hf ?_;unfold L3w.c;simp[go_sem,Mesh.enc,Mesh.cs,Sett.enc,Sett.cs];refine Q2 hcc ?_;simp[go_sem];refine Q2 hbc ?_;simp[go_sem,V3.enc,V3.cs,hz];refine Q2 hhc ?_;simp[go_sem,he,heb,L3w.r]
 rw[if_neg (by simp[he])];subst he;refine CallIs.res (r:=.t [if (K1 m s.pitch zs).2≠0 then .nil else Xl (K1 m s.pitch zs).1,.i .i64 (K1 m s.pitch zs).2]) ?_ (by
  by_cases h1:(K1 m s.pitch zs).2=0
  ·rw[if_neg (by simp[h1])];exact Le.refl _
  ·rw[if_pos h1];have h2:(K1 m s.pitch zs).1=[]:=by
    by_cases h3:∀z∈zs,(Z3 m z s.pitch).2=0
    ·rw[Wv h3]at h1
     simp at h1
    ·cases zs with
     | nil=>rfl
     | cons z zs =>
       unfold K1 at h1 ⊢;split
       ·rfl
       ·split
        ·rfl
        ·rename_i q1 q2;rw[if_neg q1,if_neg q2]at h1
         simp at h1
   rw[h2];exact hnil _)
 refine PI hm hf ?_;unfold L3w.c;simp[go_sem,Mesh.enc,Mesh.cs,Sett.enc,Sett.cs];refine Q2 hcc ?_;simp[go_sem];refine Q2 hbc ?_;simp[go_sem,V3.enc,V3.cs,hz];refine Q2 hhc ?_;simp[go_sem,isV];obtain⟨T,hT⟩:∃T:Nat->List (List Rw),∀i,T i=(zs.take i).map λz=>(Z3 m z s.pitch).1:=⟨_,λ_=>rfl⟩
 have hT0:T 0=[]:=by rw[hT];rfl
 have hTl:∀i,i<=zs.length->(T i).length=i:=λi hi=>by rw[hT,List.length_map,qv];omega
 refine Qi [.t 12 1] (α:=Nat) (λi=>i<=zs.length/\∀z∈zs.take i,(Z3 m z s.pitch).2=0)
  (λi=>⟨[(2,.p 0 1 0 0),(3,.p 1 1 0 0),(12,.own 4 (i+1) 0 (T i).length),(44,isV zs),(45,.i .i64 zs.length),(46,.i .i64 i)],[.arr 1 2 [m.cs],.arr 1 20 [s.cs],.dead,.dead,.arr (i+1) 1 ((T i).map rgE)]⟩)
  (λi=>zs.length-i) 0 ⟨Nat.zero_le _,by simp⟩ ?_ ?_
 ·simp[go_sem,isV,hT0,Mesh.cs,Sett.cs];exact⟨rfl,rfl⟩
 rintro i ⟨hi,hok⟩;have hTi:=hTl i hi;by_cases hil:i=zs.length
 ·subst hil;rw[qi]at hok
  have hall:=Wv hok;have hTn:T zs.length=zs.map λz=>(Z3 m z s.pitch).1:=by rw[hT,qi]
  rw[hall,<- hTn];have ht:List.take zs.length ((T zs.length).map rgE)=(T zs.length).map rgE:=qe (by simp[hTi]);generalize T zs.length=L at *
  simp (disch:=omega) [go_sem,isV,hTi,ht,Y2,L3w.r];rw[if_pos (Q7r L)];rfl
 have hlt:i<zs.length:=by omega
 have hq:zs[i]?=some zs[i]:=q9 hlt;have hTs:T (i+1)=T i++[(Z3 m zs[i] s.pitch).1]:=by rw[hT,hT,Q6 hq,qx];rfl
 have hsc:=hs m zs[i] s.pitch;have hbad:=Q8m (m:=m) (k:=s.pitch) hq hok;have hnext:(Z3 m zs[i] s.pitch).2=0->∀z∈zs.take (i+1),(Z3 m z s.pitch).2=0:=λh z hz=>by
  rw[Q6 hq]at hz
  rcases qg.1 hz with hz | hz
  ·exact hok z hz
  ·rw[qn.1 hz];exact h
 generalize Z3 m zs[i] s.pitch=R at *
 obtain⟨g,e⟩:=R;simp only at hTs hsc hbad hnext;generalize zs[i]=z at *
 obtain⟨_,hq'⟩:=q8.1 hq;simp only[Mesh.enc,Mesh.cs,rgV]at hsc;have htk:List.take i ((T i).map rgE)=(T i).map rgE:=qe (by simp[hTi]);simp (disch:=omega) [go_sem,isV,hlt,hq,hq',Mesh.cs,Sett.cs,Q0];refine Q2 hsc ?_;by_cases he:e=0
 ·subst he;have hnx:=hnext rfl;simp (disch:=omega) [go_sem,isV,hTi,htk,V.cells,V.okA,Q0];exact⟨⟨by omega,by omega⟩,i+1,⟨by omega,hnx⟩,by omega,⟨⟨rfl,by rw[hTs];simp[hTi]⟩,by omega⟩,⟨rfl,rfl⟩,⟨rfl,by rw[hTs];simp[rgE,rwL]⟩,Q0d _ _⟩
 ·have heb:(e != 0)=true:=by simpa using he
  rw[hbad he];simp (disch:=omega) [go_sem,isV,he,heb,V.cells,V.okA,L3w.r]
theorem Qc5 {f fc fb fh fs:FuncId} (hf:Q5 P f (L2u.c fc fb fh fs) L2u.r L2u.n) (hc:Qtz P fc) (hb:TopC P fb) (hh:Qo9 P fh) (hs:Q4y P fs):Qi3 P f:=by
 intro m s hev;have hcc:=hc m;have hnil:∀e:Int,Le (.t [.nil,.i .i64 e]) (.t [Xl [],.i .i64 e]):=λe=>.inr ⟨_,_,rfl,rfl,.inl (Le0.nil 1),Le1.refl _,trivial⟩
 unfold Xs;by_cases h0:U9 m=0
 case neg =>
  rw[if_pos h0];refine CallIs.res (r:=.t [.nil,.i .i64 (U9 m)]) ?_ (hnil _);refine PI hm hf ?_;have hb:(U9 m != 0)=true:=by simpa using h0
  unfold L2u.c;simp[go_sem,Mesh.enc,Mesh.cs,Sett.enc,Sett.cs];refine Q2 hcc ?_;simp[go_sem,h0,hb,L2u.r]
 rw[if_neg (by simp[h0])];rw[h0]at hcc
 have hmc:=(snd_iff.1 h0).z;have hbc:=hb m (by have:=(Mesh.check_zero.1 hmc).1;omega);by_cases hv:m.verts=[]
 ·rw[if_pos hv];have e1:bHi m.verts=⟨0,0,0⟩:=by rw[hv];rfl
  have e2:bLo m.verts=⟨0,0,0⟩:=by rw[hv];rfl
  rw[e1,e2]at hbc
  have hhc:=hh 0 s.height (by omega) (by omega);have hg:I1 0 s.height=([],0):=by
   unfold I1;rw[hev,if_neg (by simp)];have h4:4<=s.height:=by
    unfold Z1 at hev;simp only[Bool.and_eq_true,decide_eq_true_eq]at hev;exact hev.1.1
   have h5:s.height % 2=0:=by
    unfold Z1 at hev;simp only[Bool.and_eq_true,decide_eq_true_eq]at hev;exact hev.2
   have h6:Qd9 0 s.height=0:=by
    have:=Q7y (top:=0) (h:=s.height) (by omega) (i:=0);simp at this;omega
   rw[h6];rfl
  rw[hg]at hhc
  refine CallIs.res (r:=.t [.nil,.i .i64 0]) ?_ (hnil _);refine PI hm hf ?_;unfold L2u.c;simp[go_sem,Mesh.enc,Mesh.cs,Sett.enc,Sett.cs];refine Q2 hcc ?_;simp[go_sem];refine Q2 hbc ?_;simp[go_sem];refine Q2 hhc ?_;simp[go_sem,isV];refine Q8 (α:=Unit) (λ_=>True) (λ_=>⟨[(9,isV []),(11,.nil),(12,.i .i64 0)],[.dead,.dead]⟩) (λ_=>0) () trivial ?_ ?_
  ·simp[go_sem,isV]
  ·intro _ _;simp[go_sem,isV,L2u.r]
 rw[if_neg hv];by_cases hz:(bLo m.verts).z<0
 ·rw[if_pos hz];refine CallIs.res (r:=.t [.nil,.i .i64 8]) ?_ (hnil _);refine PI hm hf ?_;unfold L2u.c;simp[go_sem,Mesh.enc,Mesh.cs,Sett.enc,Sett.cs];refine Q2 hcc ?_;simp[go_sem];refine Q2 hbc ?_;simp[go_sem,hz,L2u.r]
 rw[if_neg hz];have hzb:=Qzl hv λv hv=>Qik (Mesh.check_zero.1 hmc).2.2.1 hv
 have hhc:=hh (bHi m.verts).z s.height (by omega) (by omega);have hhl:=Qav (bHi m.verts).z s.height;generalize I1 (bHi m.verts).z s.height=H at *
 obtain⟨zs,e⟩:=H;simp only at hhc hhl ⊢;by_cases he:e=0
 case neg =>
  rw[if_pos he];have heb:(e != 0)=true:=by simpa using he
  refine CallIs.res (r:=.t [.nil,.i .i64 e]) ?_ (hnil _);refine PI hm hf ?_;unfold L2u.c;simp[go_sem,Mesh.enc,Mesh.cs,Sett.enc,Sett.cs];refine Q2 hcc ?_;simp[go_sem];refine Q2 hbc ?_;simp[go_sem,hz];refine Q2 hhc ?_;simp[go_sem,he,heb,L2u.r]
 rw[if_neg (by simp[he])];subst he;refine CallIs.res (r:=.t [if (K1 m s.pitch zs).2≠0 then .nil else Xl (K1 m s.pitch zs).1,.i .i64 (K1 m s.pitch zs).2]) ?_ (by
  by_cases h1:(K1 m s.pitch zs).2=0
  ·rw[if_neg (by simp[h1])];exact Le.refl _
  ·rw[if_pos h1];have h2:(K1 m s.pitch zs).1=[]:=by
    by_cases h3:∀z∈zs,(Z3 m z s.pitch).2=0
    ·rw[Wv h3]at h1
     simp at h1
    ·cases zs with
     | nil=>rfl
     | cons z zs =>
       unfold K1 at h1 ⊢;split
       ·rfl
       ·split
        ·rfl
        ·rename_i q1 q2;rw[if_neg q1,if_neg q2]at h1
         simp at h1
   rw[h2];exact hnil _)
 refine PI hm hf ?_;unfold L2u.c;simp[go_sem,Mesh.enc,Mesh.cs,Sett.enc,Sett.cs];refine Q2 hcc ?_;simp[go_sem];refine Q2 hbc ?_;simp[go_sem,hz];refine Q2 hhc ?_;simp[go_sem,isV];obtain⟨T,hT⟩:∃T:Nat->List (List Rw),∀i,T i=(zs.take i).map λz=>(Z3 m z s.pitch).1:=⟨_,λ_=>rfl⟩
 have hT0:T 0=[]:=by rw[hT];rfl
 have hTl:∀i,i<=zs.length->(T i).length=i:=λi hi=>by rw[hT,List.length_map,qv];omega
 refine Qi [.t 11 1] (α:=Nat) (λi=>i<=zs.length/\∀z∈zs.take i,(Z3 m z s.pitch).2=0)
  (λi=>⟨[(2,.p 0 1 0 0),(3,.p 1 1 0 0),(9,isV zs),(11,.own 2 (i+1) 0 (T i).length),(12,.i .i64 i)],[.arr 1 2 [m.cs],.arr 1 20 [s.cs],.arr (i+1) 1 ((T i).map rgE)]⟩)
  (λi=>zs.length-i) 0 ⟨Nat.zero_le _,by simp⟩ ?_ ?_
 ·simp[go_sem,isV,hT0,Mesh.cs,Sett.cs];exact⟨rfl,rfl⟩
 rintro i ⟨hi,hok⟩;have hTi:=hTl i hi;by_cases hil:i=zs.length
 ·subst hil;rw[qi]at hok
  have hall:=Wv hok;have hTn:T zs.length=zs.map λz=>(Z3 m z s.pitch).1:=by rw[hT,qi]
  rw[hall,<- hTn];have ht:List.take zs.length ((T zs.length).map rgE)=(T zs.length).map rgE:=qe (by simp[hTi]);generalize T zs.length=L at *
  simp (disch:=omega) [go_sem,isV,hTi,ht,Y2,L2u.r];rw[if_pos (Q7r L)];rfl
 have hlt:i<zs.length:=by omega
 have hq:zs[i]?=some zs[i]:=q9 hlt;have hTs:T (i+1)=T i++[(Z3 m zs[i] s.pitch).1]:=by rw[hT,hT,Q6 hq,qx];rfl
 have hsc:=hs m zs[i] s.pitch;have hbad:=Q8m (m:=m) (k:=s.pitch) hq hok;have hnext:(Z3 m zs[i] s.pitch).2=0->∀z∈zs.take (i+1),(Z3 m z s.pitch).2=0:=λh z hz=>by
  rw[Q6 hq]at hz
  rcases qg.1 hz with hz | hz
  ·exact hok z hz
  ·rw[qn.1 hz];exact h
 generalize Z3 m zs[i] s.pitch=R at *
 obtain⟨g,e⟩:=R;simp only at hTs hsc hbad hnext;generalize zs[i]=z at *
 obtain⟨_,hq'⟩:=q8.1 hq;simp only[Mesh.enc,Mesh.cs,rgV]at hsc;have htk:List.take i ((T i).map rgE)=(T i).map rgE:=qe (by simp[hTi]);simp (disch:=omega) [go_sem,isV,hlt,hq,hq',Mesh.cs,Sett.cs,Q0];refine Qa hsc ?_;by_cases he:e=0
 ·subst he;have hnx:=hnext rfl;simp (disch:=omega) [go_sem,isV,hTi,htk,V.cells,V.okA,Q0];exact⟨⟨by omega,by omega⟩,i+1,⟨by omega,hnx⟩,by omega,⟨⟨rfl,by rw[hTs];simp[hTi]⟩,by omega⟩,⟨rfl,rfl⟩,⟨rfl,by rw[hTs];simp[rgE,rwL]⟩,Q0d _ _⟩
 ·have heb:(e != 0)=true:=by simpa using he
  rw[hbad he];simp (disch:=omega) [go_sem,isV,he,heb,V.cells,V.okA,L2u.r]
end
theorem Z05 {P:Program} {n0:Nat} {js:List Nat} {lg:List (List Nat × List Nat)} {f:FuncId} {args:List A} {b:Bool} {env:List (Nat × V)} {h:List O} {K:List Nat × List Nat->V->List O->Prop}:Sg P n0 js lg (.call f args) (.t []) b env h K=K ([],[]) (.t []) h:=Rfl rfl
theorem BoundsC.is {P:Program} {f:FuncId} (h:BoundsC P f) {a b:List Rn} (ha:a.length<=8192) (hb:b.length<=8192):CallIs P f [Q9 a,Q9 b] (isV (Zn (Y1 a++Y1 b))) :=
 PureC.is ((h a b ha hb).mono λr ⟨L,h1,h2,h3⟩=>by
  rw[h3];congr 1;have h4:(Zn (Y1 a++Y1 b)).Pairwise λx y=>x<=y:=by
   have:=List.pairwise_mergeSort (le:=λx y:Int=>decide (x<=y)) (by intro a b c;simp;omega) (by intro a b;simp;omega) (Y1 a++Y1 b);exact this.imp λh=>by simpa using h
  exact List.Perm.eq_of_pairwise (le:=λx y:Int=>x<=y) (λx y _ _ h1 h2=>by omega) h2 h4 (h1.trans (List.mergeSort_perm _ _).symm)) rfl
theorem Qdr (l:List Int):(Zn l).Pairwise λx y=>x<=y:=by
 have:=List.pairwise_mergeSort (le:=λx y:Int=>decide (x<=y)) (by intro a b c;simp;omega) (by intro a b;simp;omega) l;exact this.imp λh=>by simpa using h
theorem Ui (l:List Int):(Zn l).Perm l:=List.mergeSort_perm _ _
def Z1a (P:Program) (f:FuncId):Prop:=∀(op:Int) (a b U:List Rn),RnsV a->RnsV b->RnI a->RnI b->RnsV U->(∀x,Qb U x↔Xt op (decide (Qb a x)) (decide (Qb b x))=true)->CallIs P f [.i .i64 op,Q9 a,Q9 b] (Q9 U)
section
variable {P:Program} (hm:P.follows .mixedOrders=true)
include hm
theorem Q1p {f fb fi fk:FuncId} (hf:Q5 P f (L2c.c fb fi fk) L2c.r L2c.n) (hb:BoundsC P fb) (hi:InsC P fi) (hk:Z0t P fk):Z1a P f:=by
 intro op a b U va vb ia ib hU hUx;have hal:=va.len ia;have hbl:=vb.len ib;have hbc:=hb.is hal hbl;have hL1:=Qdr (Y1 a++Y1 b);have hL2:∀x,x∈Zn (Y1 a++Y1 b)↔x∈Y1 a++Y1 b:=λx=>(Ui _).mem_iff
 have hLl:(Zn (Y1 a++Y1 b)).length<=40000:=by rw[(Ui _).length_eq,j7,Ib,Ib];omega
 generalize Zn (Y1 a++Y1 b)=L at *
 refine PI hm hf ?_;unfold L2c.c;simp[go_sem,Q9];refine Q2 hbc ?_;simp[go_sem,Q9];refine Qi [.t 8 2] (α:=Nat × List Rn × Nat) (λp=>CbI op a b L p.1 p.2.1/\(p.1+1<=L.length∨p.1=0))
  (λp=>⟨[(0,.i .i64 op),(1,Q9 a),(2,Q9 b),(7,isV L),(8,.own 0 (p.2.2+1) 0 p.2.1.length),(9,.i .i64 p.1)],[.arr (p.2.2+1) 2 (p.2.1.map Rn.cs)]⟩)
  (λp=>L.length-p.1) (0,[],0) ⟨CbI.start hL1 hL2,.inr rfl⟩ ?_ ?_
 ·simp[go_sem,Q9,isV]
 rintro⟨i,out,g⟩ ⟨hI,hil⟩;simp only at hI hil ⊢;have hol:=hI.len;by_cases hend:L.length<=i+1
 ·have hUe:=hI.done hL1 hL2 hend hil hU hUx;subst hUe;simp (disch:=omega) [go_sem,isV,Q0,show ¬ (i:Int)+1<L.length by omega,L2c.r];rw[if_pos (Ep out)];rfl
 have hi1:i+1<L.length:=by omega
 have hi0:i<L.length:=by omega
 have hu:L[i]?=some L[i]:=q9 hi0;have hv:L[i+1]?=some L[i+1]:=q9 hi1;have hst:=hI.step hL1 hL2 hu hv;generalize L[i]=u at *
 generalize L[i+1]=v at *
 obtain⟨_,hu'⟩:=q8.1 hu;obtain⟨_,hv'⟩:=q8.1 hv;have hz1:(i:Int)+1<L.length:=by omega
 have hz2:(0:Int)<=(i:Int)+1:=by omega
 by_cases huv:u=v
 ·rw[if_pos (.inl huv)]at hst
  subst huv;simp (disch:=omega) [go_sem,isV,Q9,hz1,hz2,hi0,hi1,hu,hu',hv,hv',Z05,Z2,I.news,Q0];exact⟨i+1,out,⟨hst,.inl (by omega)⟩,by omega,g,⟨⟨rfl,rfl⟩,by omega⟩,⟨rfl,rfl⟩,Q59 _ _⟩
 have huvb:(u == v)=false:=by simpa using huv
 have c1:=hi a u hal;have c2:=hi b u hbl;have c3:=hk op (decide (Qb a u)) (decide (Qb b u));by_cases hkp:Xt op (decide (Qb a u)) (decide (Qb b u))=true
 ·rw[if_neg (by rintro (h | h);exact huv h;rw[hkp]at h;simp at h)]at hst
  rw[hkp]at c3
  simp (disch:=omega) [go_sem,isV,Q9,hz1,hz2,hi0,hi1,hu,hu',hv,hv',huv,huvb,Q0];refine Qa c1 ?_;simp (disch:=omega) [go_sem,isV,Q9,hz1,hz2,hi0,hi1,hu,hu',hv,hv',huv,huvb,Q0];refine Qa c2 ?_;simp (disch:=omega) [go_sem,isV,Q9,huv,huvb,Q0];refine Qa c3 ?_;have htk:List.take out.length (out.map Rn.cs)=out.map Rn.cs:=qe (by simp);rcases Zu out with rfl | ⟨o,r,rfl⟩
  ·rw[Qes]at hst
   simp (disch:=omega) [go_sem,isV,Q9,hz1,hz2,hi0,hi1,hu,hu',hv,hv',huv,huvb,Q0];exact⟨i+1,_,⟨hst,.inl (by omega)⟩,by omega,g+1,⟨⟨rfl,rfl⟩,by omega⟩,⟨rfl,rfl⟩,Q59 _ _⟩
  ·rw[Qet]at hst
   have hog:∀x:List V,(List.map Rn.cs o++[x])[o.length]?=some x:=λx=>by
    have:=qf (l₁:=List.map Rn.cs o) (l₂:=[x]) (i:=o.length) (by simp);rw[this];simp
   have hos:∀x y:List V,(List.map Rn.cs o++[x]).set o.length y=List.map Rn.cs o++[y]:=λx y=>by
    rw[jq _ _ (by simp)];simp
   have hot:List.take (o.length+1) (List.map Rn.cs o++[r.cs])=List.map Rn.cs o++[r.cs]:=qe (by simp);simp only[Rn.cs]at hot;have hol2:o.length+1<=i:=by simpa using hol
   by_cases hru:r.b=u
   ·rw[if_pos hru]at hst
    simp (disch:=omega) [go_sem,isV,Q9,hz1,hz2,hi0,hi1,hu,hu',hv,hv',huv,huvb,hog,hos,hot,hru,Rn.cs,Q0];exact⟨i+1,_,⟨hst,.inl (by omega)⟩,by omega,g,⟨⟨rfl,by simp⟩,by omega⟩,rfl,by simp[Rn.cs]⟩
   ·rw[if_neg hru]at hst
    have hrb:(r.b == u)=false:=by simpa using hru
    simp (disch:=omega) [go_sem,isV,Q9,hz1,hz2,hi0,hi1,hu,hu',hv,hv',huv,huvb,hog,hos,hot,hru,hrb,Rn.cs,Q0];exact⟨⟨by omega,by omega⟩,i+1,_,⟨hst,.inl (by omega)⟩,by omega,g+1,⟨⟨rfl,by simp⟩,by omega⟩,rfl,by simp[Rn.cs]⟩
 ·have hkf:Xt op (decide (Qb a u)) (decide (Qb b u))=false:=by simpa using hkp
  rw[if_pos (.inr hkf)]at hst
  rw[hkf]at c3
  simp (disch:=omega) [go_sem,isV,Q9,hz1,hz2,hi0,hi1,hu,hu',hv,hv',huv,huvb,Q0];refine Qa c1 ?_;simp (disch:=omega) [go_sem,isV,Q9,hz1,hz2,hi0,hi1,hu,hu',hv,hv',huv,huvb,Q0];refine Qa c2 ?_;simp (disch:=omega) [go_sem,isV,Q9,huv,huvb,Q0];refine Qa c3 ?_;simp (disch:=omega) [go_sem,Q0];exact⟨i+1,out,⟨hst,.inl (by omega)⟩,by omega,g,⟨⟨rfl,rfl⟩,by omega⟩,⟨rfl,rfl⟩,Q59 _ _⟩
end
structure OpI (op:Int) (a b:List Rw) (i k:Nat) (Y:Int) (out:List Rw):Prop where
 i_le:i<=a.length
 k_le:k<=b.length
 alo:∀w∈a.take i,w.y<=Y
 ahi:∀w∈a.drop i,Y<w.y
 blo:∀w∈b.take k,w.y<=Y
 bhi:∀w∈b.drop k,Y<w.y
 v:RgV out
 le:∀w∈out,w.y<=Y
 mem:∀y x,Zx out y x↔y<=Y/\Zx (opR op a b) y x
 len:out.length<=i+k
theorem OpI.start {op:Int} {a b:List Rw} (ha:RgV a) (hb:RgV b) (ba:RgB a) (bb:RgB b):OpI op a b 0 0 (-5000) [] where
 i_le:=by omega
 k_le:=by omega
 alo:=by simp
 ahi w hw:=by have:=ba.yb ha (by simpa using hw);omega
 blo:=by simp
 bhi w hw:=by have:=bb.yb hb (by simpa using hw);omega
 v:=RgV.nil
 le:=by simp
 mem y x:=by
  constructor
  ·rintro⟨w,hw,_⟩;simp at hw
  ·rintro⟨h1,h2⟩;have:=Qvs op a b y x h2;omega
 len:=by simp
open Classical in
theorem OpI.done {op:Int} {a b out:List Rw} {Y:Int} (ha:RgV a) (hb:RgV b) (ba:RgB a) (bb:RgB b) (h:OpI op a b a.length b.length Y out):out=opR op a b:=by
 refine h.v.ext (Qjk op a b) λy x=>?_
 rw[h.mem];constructor
 ·exact λh=>h.2
 ·intro h2;refine⟨?_,h2⟩;have h3:=(Qmz ba bb).1 h2;by_cases c1:Zx a y x
  ·obtain⟨w,hw,rfl,_⟩:=c1;exact h.alo w (by rw[qi];exact hw)
  ·by_cases c2:Zx b y x
   ·obtain⟨w,hw,rfl,_⟩:=c2;exact h.blo w (by rw[qi];exact hw)
   ·rw[decide_eq_false c1,decide_eq_false c2,U4]at h3
    simp at h3
def Yg (g:List Rw) (y:Int):List Rn:=((g.find? λw=>decide (w.y=y)).map Rw.rs).getD []
theorem Il {g:List Rw} (hg:RgV g) {w:Rw} (hw:w∈g):Yg g w.y=w.rs:=by
 unfold Yg;cases hf:g.find? λv=>decide (v.y=w.y) with
 | none =>
   have:=List.find?_eq_none.1 hf w hw;simp at this
 | some v =>
   have h1:=List.mem_of_find?_eq_some hf;have h2:v.y=w.y:=by simpa using List.find?_some hf
   rw[hg.uniq h1 hw h2];rfl
theorem Im {g:List Rw} {y:Int} (h:∀w∈g,w.y≠y):Yg g y=[]:=by
 unfold Yg;rw[List.find?_eq_none.2 λw hw=>by simpa using h w hw];rfl
theorem Kb {g:List Rw} (hg:RgV g) {y x:Int}:Qb (Yg g y) x↔Zx g y x:=by
 by_cases h:∃w∈g,w.y=y
 ·obtain⟨w,hw,rfl⟩:=h;rw[Il hg hw,hg.row hw]
 ·have h2:∀w∈g,w.y≠y:=λw hw he=>h ⟨w,hw,he⟩
  rw[Im h2];constructor
  ·intro h3;exact absurd h3 (Qj _)
  ·rintro⟨w,hw,he,_⟩;exact absurd he (h2 w hw)
theorem Eo {g:List Rw} (hg:RgV g) (hb:RgB g) (y:Int):RnsV (Yg g y)/\RnI (Yg g y):=by
 by_cases h:∃w∈g,w.y=y
 ·obtain⟨w,hw,rfl⟩:=h;rw[Il hg hw];exact⟨hg.rs w hw,hb.rnb hg hw⟩
 ·rw[Im λw hw he=>h ⟨w,hw,he⟩];exact⟨RnsV.nil,by simp[RnI]⟩
open Classical in
theorem Qow {op:Int} {a b:List Rw} (ha:RgV a) (hb:RgV b) (ba:RgB a) (bb:RgB b) (y:Int) :
  RnsV (Yg (opR op a b) y)/\∀x,Qb (Yg (opR op a b) y) x↔Xt op (decide (Qb (Yg a y) x)) (decide (Qb (Yg b y) x))=true:=by
 refine⟨(Eo (Qjk op a b) (Qvs op a b) y).1,λx=>?_⟩;rw[Kb (Qjk op a b),Qmz ba bb];have e1:decide (Qb (Yg a y) x)=decide (Zx a y x):=decide_eq_decide.2 (Kb ha);have e2:decide (Qb (Yg b y) x)=decide (Zx b y x):=decide_eq_decide.2 (Kb hb);rw[e1,e2]
theorem Qir {α:Type} {l:List α} {i:Nat} {x w:α} (h:l[i]?=some w):x∈l.take (i+1)↔x∈l.take i∨x=w:=by
 rw[Q6 h,qg,qn]
theorem Q2q {l:List Rw} (hl:RgV l) {i:Nat} {w:Rw} (h:l[i]?=some w):∀v∈l.drop (i+1),w.y<v.y:=λv hv=>by
 obtain⟨j,hj⟩:=qq hv;rw[jh]at hj
 obtain⟨h1,h1'⟩:=q8.1 h;obtain⟨h2,h2'⟩:=q8.1 hj;have:=j8.1 hl.asc i (i+1+j) h1 h2 (by omega);rw[h1',h2']at this
 exact this
theorem X7 {l:List Rw} {i:Nat} {w:Rw} (h:l[i]?=some w):w∈l.drop i:=qb (i:=0) (by rw[jh];exact h)
open Classical in
theorem OpI.step {op:Int} {a b out:List Rw} {i k:Nat} {Y y:Int} (ha:RgV a) (hb:RgV b) (ba:RgB a) (bb:RgB b) (h:OpI op a b i k Y out) {i' k':Nat}
  (hy:Y<y) (h1:(i'=i/\∀w∈a.drop i,y<w.y)∨(i'=i+1/\∃w,a[i]?=some w/\w.y=y)) (h2:(k'=k/\∀w∈b.drop k,y<w.y)∨(k'=k+1/\∃w,b[k]?=some w/\w.y=y)) (h3:i+k<i'+k') :
  OpI op a b i' k' y (if Yg (opR op a b) y=[] then out else out++[⟨y,Yg (opR op a b) y⟩]) /\
   Yg a y=(if i'=i then [] else ((a[i]?).map Rw.rs).getD [])/\Yg b y=(if k'=k then [] else ((b[k]?).map Rw.rs).getD []):=by
 have nosplit:∀{l:List Rw} {i:Nat},RgV l->(∀w∈l.take i,w.y<=Y)->(∀w∈l.drop i,y<w.y)->∀w∈l,w.y≠y:=by
  intro l i hl q1 q2 w hw he;rw[<- List.take_append_drop i l]at hw
  rcases qg.1 hw with hw | hw
  ·have:=q1 w hw;omega
  ·have:=q2 w hw;omega
 have gap:∀z,Y<z->z<y->∀x,¬ Zx (opR op a b) z x:=by
  have g1:∀{l:List Rw} {i i':Nat},RgV l->(∀w∈l.take i,w.y<=Y)->((i'=i/\∀w∈l.drop i,y<w.y)∨(i'=i+1/\∃w,l[i]?=some w/\w.y=y))->∀z,Y<z->z<y->∀x,¬ Zx l z x:=by
   rintro l i i' hl q1 q2 z hz1 hz2 x ⟨w,hw,rfl,_⟩;rcases q2 with⟨_,q2⟩ | ⟨_,v,hv,hvy⟩
   ·rw[<- List.take_append_drop i l]at hw
    rcases qg.1 hw with hw | hw
    ·have:=q1 w hw;omega
    ·have:=q2 w hw;omega
   ·rw[<- List.take_append_drop (i+1) l]at hw
    rcases qg.1 hw with hw | hw
    ·rcases (Qir hv).1 hw with hw | rfl
     ·have:=q1 w hw;omega
     ·omega
    ·have:=Q2q hl hv w hw;omega
  intro z hz1 hz2 x hx;have h4:=(Qmz ba bb).1 hx;rw[decide_eq_false (g1 ha h.alo h1 z hz1 hz2 x),decide_eq_false (g1 hb h.blo h2 z hz1 hz2 x),U4]at h4
  simp at h4
 have hrow:∀{l:List Rw} {i i':Nat},RgV l->(∀w∈l.take i,w.y<=Y)->((i'=i/\∀w∈l.drop i,y<w.y)∨(i'=i+1/\∃w,l[i]?=some w/\w.y=y))->Yg l y=(if i'=i then [] else ((l[i]?).map Rw.rs).getD []):=by
  rintro l i i' hl q1 (⟨rfl,q2⟩ | ⟨rfl,v,hv,rfl⟩)
  ·rw[if_pos rfl,Im (nosplit hl q1 q2)]
  ·rw[if_neg (by omega),hv,Il hl (qb hv)];rfl
 have hlo:∀{l:List Rw} {i i':Nat},i<=l.length->(∀w∈l.take i,w.y<=Y)->((i'=i/\∀w∈l.drop i,y<w.y)∨(i'=i+1/\∃w,l[i]?=some w/\w.y=y))->RgV l->i'<=l.length/\(∀w∈l.take i',w.y<=y)/\∀w∈l.drop i',y<w.y:=by
  rintro l i i' hle q1 (⟨rfl,q2⟩ | ⟨rfl,v,hv,rfl⟩) hl
  ·exact⟨hle,λw hw=>by have:=q1 w hw;omega,q2⟩
  ·refine⟨(q8.1 hv).1,λw hw=>?_,Q2q hl hv⟩;rcases (Qir hv).1 hw with hw | rfl
   ·have:=q1 w hw;omega
   ·omega
 obtain⟨a1,a2,a3⟩:=hlo h.i_le h.alo h1 ha;obtain⟨b1,b2,b3⟩:=hlo h.k_le h.blo h2 hb;have hlen:=h.len;refine⟨?_,hrow ha h.alo h1,hrow hb h.blo h2⟩;have hv:=Qow (op:=op) ha hb ba bb y;have hin:∀x,Qb (Yg (opR op a b) y) x↔Zx (opR op a b) y x:=λx=>Kb (Qjk op a b)
 by_cases he:Yg (opR op a b) y=[]
 ·rw[if_pos he];refine⟨a1,b1,a2,a3,b2,b3,h.v,λw hw=>by have:=h.le w hw;omega,λz x=>?_,by omega⟩;rw[h.mem];constructor
  ·rintro⟨c1,c2⟩;exact⟨by omega,c2⟩
  ·rintro⟨c1,c2⟩;refine⟨jb λhn=>?_,c2⟩;by_cases hz:z=y
   ·subst hz;rw[<- hin,he]at c2
    exact Qj _ c2
   ·exact gap z (by omega) (by omega) x c2
 ·rw[if_neg he];refine⟨a1,b1,a2,a3,b2,b3,h.v.snocW hv.1 he λu hu=>by have:=h.le u hu;simp only[];omega,λw hw=>?_,λz x=>?_,by simp;omega⟩
  ·rcases qg.1 hw with hw | hw
   ·have:=h.le w hw;omega
   ·rw[qn.1 hw];exact Int.le_refl _
  ·rw[Q2k,Q2j,h.mem];simp only[hin];constructor
   ·rintro (⟨c1,c2⟩ | ⟨rfl,c2⟩)
    ·exact⟨by omega,c2⟩
    ·exact⟨Int.le_refl _,c2⟩
   ·rintro⟨c1,c2⟩;by_cases hz:z=y
    ·subst hz;exact .inr ⟨rfl,c2⟩
    ·refine .inl ⟨jb λhn=>?_,c2⟩;exact gap z (by omega) (by omega) x c2
def L2h.b (L2c:FuncId):C :=
    (.seq
     (.seq
      (.reg [
       ⟨some 23,none,.mv (.t 8)⟩,
       ⟨some 24,none,.fa 0 (.t 4)⟩,
       ⟨some 25,none,.ld none (.t 24)⟩,
       ⟨some 26,none,.len 0 (.t 25)⟩,
       ⟨some 27,none,.bin .lss (.t 23) (.t 26)⟩,
       ⟨some 28,none,.mv (.t 27)⟩,
       ⟨some 29,(some (28,false)),.mv (.t 9)⟩,
       ⟨some 30,(some (28,false)),.fa 0 (.t 5)⟩,
       ⟨some 31,(some (28,false)),.ld none (.t 30)⟩,
       ⟨some 32,(some (28,false)),.len 0 (.t 31)⟩,
       ⟨some 33,(some (28,false)),.bin .lss (.t 29) (.t 32)⟩,
       ⟨some 34,none,.pick (.t 28) (.c (.b true)) (.t 33)⟩])
      (.ite (.t 34)
       .skip
       (.exit 0)))
     (.blk 1
      (.seq
       (.reg [
        ⟨some 10,none,.mv (.c (.i .i64 0))⟩])
       (.seq
        (.reg [
         ⟨some 11,none,.mv (.c .nil)⟩,
         ⟨some 12,none,.mv (.c .nil)⟩])
        (.seq
         (.seq
          (.drw [
           ⟨some 35,none,.mv (.t 9)⟩,
           ⟨some 36,none,.fa 0 (.t 5)⟩,
           ⟨some 37,none,.ld none (.t 36)⟩,
           ⟨some 38,none,.len 0 (.t 37)⟩,
           ⟨some 39,none,.bin .eql (.t 35) (.t 38)⟩,
           ⟨some 40,none,.mv (.t 39)⟩,
           ⟨some 41,(some (40,false)),.mv (.t 8)⟩,
           ⟨some 42,(some (40,false)),.fa 0 (.t 4)⟩,
           ⟨some 43,(some (40,false)),.ld none (.t 42)⟩,
           ⟨some 44,(some (40,false)),.len 0 (.t 43)⟩,
           ⟨some 45,(some (40,false)),.bin .lss (.t 41) (.t 44)⟩,
           ⟨some 46,(some (40,false)),.mv (.t 45)⟩,
           ⟨some 47,(some (46,true)),.fa 0 (.t 4)⟩,
           ⟨some 48,(some (46,true)),.ld none (.t 47)⟩,
           ⟨some 49,(some (46,true)),.mv (.t 8)⟩,
           ⟨some 50,(some (46,true)),.ia 2 (.t 48) (.t 49)⟩,
           ⟨some 51,(some (46,true)),.fa 0 (.t 50)⟩,
           ⟨some 52,(some (46,true)),.ld none (.t 51)⟩,
           ⟨some 53,(some (46,true)),.fa 0 (.t 5)⟩,
           ⟨some 54,(some (46,true)),.ld none (.t 53)⟩,
           ⟨some 55,(some (46,true)),.mv (.t 9)⟩,
           ⟨some 56,(some (46,true)),.ia 2 (.t 54) (.t 55)⟩,
           ⟨some 57,(some (46,true)),.fa 0 (.t 56)⟩,
           ⟨some 58,(some (46,true)),.ld none (.t 57)⟩,
           ⟨some 59,(some (46,true)),.bin .leq (.t 52) (.t 58)⟩,
           ⟨some 60,(some (40,false)),.pick (.t 46) (.t 59) (.c (.b false))⟩,
           ⟨some 61,none,.pick (.t 40) (.c (.b true)) (.t 60)⟩] [])
          (.ite (.t 61)
           (.reg [
            ⟨some 62,none,.fa 0 (.t 4)⟩,
            ⟨some 63,none,.ld none (.t 62)⟩,
            ⟨some 64,none,.mv (.t 8)⟩,
            ⟨some 65,none,.ia 2 (.t 63) (.t 64)⟩,
            ⟨some 66,none,.fa 0 (.t 65)⟩,
            ⟨some 67,none,.ld none (.t 66)⟩,
            ⟨some 10,none,.mv (.t 67)⟩])
           (.reg [
            ⟨some 68,none,.fa 0 (.t 5)⟩,
            ⟨some 69,none,.ld none (.t 68)⟩,
            ⟨some 70,none,.mv (.t 9)⟩,
            ⟨some 71,none,.ia 2 (.t 69) (.t 70)⟩,
            ⟨some 72,none,.fa 0 (.t 71)⟩,
            ⟨some 73,none,.ld none (.t 72)⟩,
            ⟨some 10,none,.mv (.t 73)⟩])))
         (.seq
          (.seq
           (.reg [
            ⟨some 74,none,.mv (.t 8)⟩,
            ⟨some 75,none,.fa 0 (.t 4)⟩,
            ⟨some 76,none,.ld none (.t 75)⟩,
            ⟨some 77,none,.len 0 (.t 76)⟩,
            ⟨some 78,none,.bin .lss (.t 74) (.t 77)⟩,
            ⟨some 79,none,.mv (.t 78)⟩,
            ⟨some 80,(some (79,true)),.fa 0 (.t 4)⟩,
            ⟨some 81,(some (79,true)),.ld none (.t 80)⟩,
            ⟨some 82,(some (79,true)),.mv (.t 8)⟩,
            ⟨some 83,(some (79,true)),.ia 2 (.t 81) (.t 82)⟩,
            ⟨some 84,(some (79,true)),.fa 0 (.t 83)⟩,
            ⟨some 85,(some (79,true)),.ld none (.t 84)⟩,
            ⟨some 86,(some (79,true)),.mv (.t 10)⟩,
            ⟨some 87,(some (79,true)),.bin .eql (.t 85) (.t 86)⟩,
            ⟨some 88,none,.pick (.t 79) (.t 87) (.c (.b false))⟩])
           (.ite (.t 88)
            (.seq
             (.reg [
              ⟨some 89,none,.fa 0 (.t 4)⟩,
              ⟨some 90,none,.ld none (.t 89)⟩,
              ⟨some 91,none,.mv (.t 8)⟩,
              ⟨some 92,none,.ia 2 (.t 90) (.t 91)⟩,
              ⟨some 93,none,.fa 1 (.t 92)⟩,
              ⟨some 94,none,.ld none (.t 93)⟩,
              ⟨some 11,none,.mv (.t 94)⟩])
             (.reg [
              ⟨some 95,none,.mv (.t 8)⟩,
              ⟨some 96,none,.bin .add (.t 95) (.c (.i .i64 1))⟩,
              ⟨some 8,none,.mv (.t 96)⟩]))
            .skip))
          (.seq
           (.seq
            (.reg [
             ⟨some 97,none,.mv (.t 9)⟩,
             ⟨some 98,none,.fa 0 (.t 5)⟩,
             ⟨some 99,none,.ld none (.t 98)⟩,
             ⟨some 100,none,.len 0 (.t 99)⟩,
             ⟨some 101,none,.bin .lss (.t 97) (.t 100)⟩,
             ⟨some 102,none,.mv (.t 101)⟩,
             ⟨some 103,(some (102,true)),.fa 0 (.t 5)⟩,
             ⟨some 104,(some (102,true)),.ld none (.t 103)⟩,
             ⟨some 105,(some (102,true)),.mv (.t 9)⟩,
             ⟨some 106,(some (102,true)),.ia 2 (.t 104) (.t 105)⟩,
             ⟨some 107,(some (102,true)),.fa 0 (.t 106)⟩,
             ⟨some 108,(some (102,true)),.ld none (.t 107)⟩,
             ⟨some 109,(some (102,true)),.mv (.t 10)⟩,
             ⟨some 110,(some (102,true)),.bin .eql (.t 108) (.t 109)⟩,
             ⟨some 111,none,.pick (.t 102) (.t 110) (.c (.b false))⟩])
            (.ite (.t 111)
             (.seq
              (.reg [
               ⟨some 112,none,.fa 0 (.t 5)⟩,
               ⟨some 113,none,.ld none (.t 112)⟩,
               ⟨some 114,none,.mv (.t 9)⟩,
               ⟨some 115,none,.ia 2 (.t 113) (.t 114)⟩,
               ⟨some 116,none,.fa 1 (.t 115)⟩,
               ⟨some 117,none,.ld none (.t 116)⟩,
               ⟨some 12,none,.mv (.t 117)⟩])
              (.reg [
               ⟨some 118,none,.mv (.t 9)⟩,
               ⟨some 119,none,.bin .add (.t 118) (.c (.i .i64 1))⟩,
               ⟨some 9,none,.mv (.t 119)⟩]))
             .skip))
           (.seq
            (.reg [
             ⟨some 120,none,.mv (.t 0)⟩,
             ⟨some 121,none,.mv (.t 11)⟩,
             ⟨some 122,none,.mv (.t 12)⟩,
             ⟨some 123,none,.call L2c [.t 120,.t 121,.t 122]⟩,
             ⟨some 13,none,.mv (.t 123)⟩])
            (.seq
             (.reg [
              ⟨some 124,none,.mv (.t 13)⟩,
              ⟨some 125,none,.len 0 (.t 124)⟩,
              ⟨some 126,none,.bin .gtr (.t 125) (.c (.i .i64 0))⟩])
             (.ite (.t 126)
              (.reg [
               ⟨some 127,none,.fa 0 (.t 7)⟩,
               ⟨some 128,none,.ld none (.t 127)⟩,
               ⟨some 129,none,.mv (.t 10)⟩,
               ⟨some 130,none,.mv (.t 13)⟩,
               ⟨some 131,none,.build [(.i .i64 0),.nil] [(0,1,(.t 129)),(1,1,(.t 130))]⟩,
               ⟨some 132,none,.bso 2 1 [(.i .i64 0),.nil] [(0,(.t 131))]⟩,
               ⟨some 133,none,.app 2 32 (.t 128) (.t 132)⟩,
               ⟨some 134,none,.fa 0 (.t 7)⟩,
               ⟨none,none,.st 1 (.t 134) (.t 133)⟩])
              .skip))))))))))
def opS (op:Int) (a b:List Rw) (p:Nat × Nat × Int × List Rw × Nat):St :=
 ⟨[(0,.i .i64 op),(4,.p 0 1 0 0),(5,.p 1 1 0 0),(6,.p 2 1 0 0),(7,.p 3 1 0 0),(8,.i .i64 p.1),(9,.i .i64 p.2.1)],[.arr 1 1 [[rwL a]],.arr 1 1 [[rwL b]],.arr 1 1 [[.nil]],.arr 1 1 [[.own 4 (p.2.2.2.2+1) 0 p.2.2.2.1.length]],.arr (p.2.2.2.2+1) 2 (p.2.2.2.1.map Rw.cs)]⟩
def Q5b (op:Int) (a b:List Rw) (p:Nat × Nat × Int × List Rw × Nat):Prop:=OpI op a b p.1 p.2.1 p.2.2.1 p.2.2.2.1
def Qm9 (a b:List Rw) (p:Nat × Nat × Int × List Rw × Nat):Nat:=a.length+b.length-p.1-p.2.1
def Ql6 (P:Program) (fc:FuncId) (op:Int) (a b:List Rw) (x:Nat × Nat × Int × List Rw × Nat):Prop:=∀κ,AS P 0 (L2h.b fc) (opS op a b x) (Lk 0 (Q5b op a b) (opS op a b) (Qm9 a b) x κ)
theorem Qvq {P:Program} {fc:FuncId} {op:Int} {a b:List Rw} {i k:Nat} {Y:Int} {out:List Rw} {g:Nat} (hal:a.length<=8192) (hbl:b.length<=8192) (hil:i<=a.length) (hkl:k<=b.length) (hol:out.length<=i+k) {w:Rw} (h1:i<a.length) (h2:k=b.length) (hq:a[i]?=some w)
  {R:List Rn} (hR:CallIs P fc [.i .i64 op,Q9 w.rs,.nil] (Q9 R)) (hst:OpI op a b (i+1) (k) w.y (if R=[] then out else out++[⟨w.y,R⟩])):Ql6 P fc op a b (i,k,Y,out,g):=by
 intro κ;unfold L2h.b opS Q5b Qm9;simp only[];obtain⟨_,hq'⟩:=q8.1 hq;simp (maxSteps:=2000000) (disch:=omega) [go_sem,rwL,h1,h2,hq,hq',Rw.cs,Q0];refine Q2 hR ?_;have htk:List.take out.length (out.map Rw.cs)=out.map Rw.cs:=qe (by simp);by_cases hR0:R=[]
 ·rw[if_pos hR0]at hst
  simp (maxSteps:=2000000) (disch:=omega) [go_sem,Q9,hR0,Q0];exact⟨i+1,k,_,out,hst,by omega,⟨by omega,by omega⟩,g,⟨rfl,rfl⟩,⟨rfl,rfl⟩,Yp _ _⟩
 ·rw[if_neg hR0]at hst
  have hRp:0<R.length:=jl.2 hR0;simp (maxSteps:=2000000) (disch:=omega) [go_sem,Q9,hRp,htk,Q0];exact⟨⟨by omega,by omega⟩,i+1,k,_,_,hst,by omega,⟨by omega,by omega⟩,g+1,⟨rfl,by simp⟩,⟨rfl,by simp[Rw.cs,Q9]⟩,Yp _ _⟩
theorem Qvp {P:Program} {fc:FuncId} {op:Int} {a b:List Rw} {i k:Nat} {Y:Int} {out:List Rw} {g:Nat} (hal:a.length<=8192) (hbl:b.length<=8192) (hil:i<=a.length) (hkl:k<=b.length) (hol:out.length<=i+k) {w:Rw} (h1:i=a.length) (h2:k<b.length) (hq:b[k]?=some w)
  {R:List Rn} (hR:CallIs P fc [.i .i64 op,.nil,Q9 w.rs] (Q9 R)) (hst:OpI op a b (i) (k+1) w.y (if R=[] then out else out++[⟨w.y,R⟩])):Ql6 P fc op a b (i,k,Y,out,g):=by
 intro κ;unfold L2h.b opS Q5b Qm9;simp only[];obtain⟨_,hq'⟩:=q8.1 hq;simp (maxSteps:=2000000) (disch:=omega) [go_sem,rwL,h1,h2,hq,hq',Rw.cs,show ¬ (k:Int)=b.length by omega,show ((k:Int) == b.length)=false by simp;omega,Q0];refine Q2 hR ?_;have htk:List.take out.length (out.map Rw.cs)=out.map Rw.cs:=qe (by simp);by_cases hR0:R=[]
 ·rw[if_pos hR0]at hst
  simp (maxSteps:=2000000) (disch:=omega) [go_sem,Q9,hR0,Q0];exact⟨i,k+1,_,out,hst,by omega,⟨by omega,by omega⟩,g,⟨rfl,rfl⟩,⟨rfl,rfl⟩,Yp _ _⟩
 ·rw[if_neg hR0]at hst
  have hRp:0<R.length:=jl.2 hR0;simp (maxSteps:=2000000) (disch:=omega) [go_sem,Q9,hRp,htk,Q0];exact⟨⟨by omega,by omega⟩,i,k+1,_,_,hst,by omega,⟨by omega,by omega⟩,g+1,⟨rfl,by simp⟩,⟨rfl,by simp[Rw.cs,Q9]⟩,Yp _ _⟩
end Go.Abs
