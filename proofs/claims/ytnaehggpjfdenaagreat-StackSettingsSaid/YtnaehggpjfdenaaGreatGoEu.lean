/- Part of the library on which the proof stands: an abstract machine, its values and its soundness against the model; or what functions of the program do to such values. -/
import Derived.Test.YtnaehggpjfdenaaGreatGoRpA
import Derived.Test.YtnaehggpjfdenaaGreatGoUnC
import Derived.Test.YtnaehggpjfdenaaGreatGoMapG
import Derived.Test.YtnaehggpjfdenaaGreatGoSecD
import Derived.Test.YtnaehggpjfdenaaGreatGoRw
import Derived.Test.YtnaehggpjfdenaaGreatGoSo
set_option linter.unusedVariables false
set_option linter.unusedSimpArgs false
set_option maxHeartbeats 16000000
set_option maxRecDepth 20000
namespace Go.Abs
structure Sett where
 pitch:Int
 height:Int
 walls:Int
 top:Int
 bottom:Int
 pattern:Int
 spacing:Int
 support:Bool
 reach:Int
 gap:Int
 brim:Int
 skirt:Int
 drop:Int
 feed:Int
 travel:Int
 retract:Int
 minTime:Int
 minFeed:Int
 nozzle:Int
 bed:Int
def Sett.cs (s:Sett):List V:=[.i .i64 s.pitch,.i .i64 s.height,.i .i64 s.walls,.i .i64 s.top,.i .i64 s.bottom,.i .i64 s.pattern,.i .i64 s.spacing,.b s.support,.i .i64 s.reach,.i .i64 s.gap,
 .i .i64 s.brim,.i .i64 s.skirt,.i .i64 s.drop,.i .i64 s.feed,.i .i64 s.travel,.i .i64 s.retract,.i .i64 s.minTime,.i .i64 s.minFeed,.i .i64 s.nozzle,.i .i64 s.bed]
def Sett.enc (s:Sett):V:=.a s.cs
def Qf9 (P:Program) (f:FuncId):Prop:=∀(m:Mesh) (s:Sett),CallIs P f [m.enc,s.enc] (.t [Jd (Je m s.pitch s.height).1,.i .i64 (Je m s.pitch s.height).2])
theorem Qkk {l:List V3} (h:J8 l=true) {v:V3} (hv:v∈l):v.valid=true:=by
 unfold J8 at h
 exact qj.1 h v hv
theorem bHi_bd {l:List V3} (hl:l≠[]) (hv:∀v∈l,v.valid=true):(bHi l).z<=65536/\-65536<=(bHi l).z:=by
 have hb:∀v∈l,v.z<=65536/\-65536<=v.z:=λv h=>by
  have:=V3.val_iff.1 (hv v h)
  omega
 cases l with
 | nil=>exact absurd rfl hl
 | cons v l =>
   unfold bHi
   rw[(Qp5 (v::l) v).2.2]
   rcases (Qmc V3.z (v::l) v.z).2.2 with h | ⟨w,hw,h⟩
   ·rw[h];exact hb v (by simp)
   ·rw[h];exact hb w hw
def rgE (g:List Rw):List V:=[rwL g]
theorem Q7p (l:List (List Rw)) (n:Nat):∀g∈l,∀x∈rgE g,x.cl n=true:=λg _ x hx=>by
 simp[rgE]at hx
 subst hx
 rfl
theorem Qfr (l:List (List Rw)):∀g∈l,∀x∈rgE g,x.isD=true:=λg _ x hx=>by
 simp[rgE]at hx
 subst hx
 rfl
theorem Y2 (l:List (List Rw)):Jd l=.l 1 (l.map rgE):=rfl
section
variable {P:Program} (hm:P.follows .mixedOrders=true)
include hm
theorem Q4r {f fc fb fh fs:FuncId} (hf:Q9 P f (L20.c fc fb fh fs) L20.r L20.n) (hc:ChkC P fc) (hb:Qq8 P fb) (hh:HgtC P fh) (hs:Qf1 P fs):Qf9 P f:=by
 intro m s
 have hcc:=hc m
 have hnil:∀e:Int,Le (.t [.nil,.i .i64 e]) (.t [Jd [],.i .i64 e]):=λe=>.inr ⟨_,_,rfl,rfl,.inl (Le0.nil 1),Le1.refl _,trivial⟩
 unfold Je
 by_cases h0:Wl m=0
 case neg =>
  rw[if_pos h0]
  refine CallIs.res (r:=.t [.nil,.i .i64 (Wl m)]) ?_ (hnil _)
  refine PureC.is (Q8 hm hf (qh rfl) ?_) rfl
  have hb:(Wl m != 0)=true:=by simpa using h0
  unfold L20.c
  simp[go_sem,Mesh.enc,Mesh.cs,Sett.enc,Sett.cs]
  refine Q5 hcc ?_
  simp[go_sem,h0,hb,L20.r]
 rw[if_neg (by simp[h0])]
 rw[h0]at hcc
 have hmc:=(snd_iff.1 h0).z
 have hbc:=hb m hmc
 by_cases hv:m.verts=[]
 ·rw[if_pos hv]
  rw[decide_eq_false (by simp[hv])]at hbc
  refine CallIs.res (r:=.t [.nil,.i .i64 0]) ?_ (hnil _)
  refine PureC.is (Q8 hm hf (qh rfl) ?_) rfl
  unfold L20.c
  simp[go_sem,Mesh.enc,Mesh.cs,Sett.enc,Sett.cs]
  refine Q5 hcc ?_
  simp[go_sem]
  refine Q5 hbc ?_
  simp[go_sem,V3.enc,V3.cs,L20.r]
 rw[if_neg hv]
 rw[decide_eq_true hv]at hbc
 by_cases hz:(bLo m.verts).z<0
 ·rw[if_pos hz]
  refine CallIs.res (r:=.t [.nil,.i .i64 8]) ?_ (hnil _)
  refine PureC.is (Q8 hm hf (qh rfl) ?_) rfl
  unfold L20.c
  simp[go_sem,Mesh.enc,Mesh.cs,Sett.enc,Sett.cs]
  refine Q5 hcc ?_
  simp[go_sem]
  refine Q5 hbc ?_
  simp[go_sem,V3.enc,V3.cs,hz,L20.r]
 rw[if_neg hz]
 have hzb:=bHi_bd hv λv hv=>Qkk (Mesh.check_zero.1 hmc).2.2.1 hv
 have hhc:=hh (bHi m.verts).z s.height (by omega) (by omega)
 have hhl:=Qbi (bHi m.verts).z s.height
 generalize Q0d (bHi m.verts).z s.height=H at *
 obtain⟨zs,e⟩:=H
 simp only at hhc hhl ⊢
 by_cases he:e=0
 case neg =>
  rw[if_pos he]
  have heb:(e != 0)=true:=by simpa using he
  refine CallIs.res (r:=.t [.nil,.i .i64 e]) ?_ (hnil _)
  refine PureC.is (Q8 hm hf (qh rfl) ?_) rfl
  unfold L20.c
  simp[go_sem,Mesh.enc,Mesh.cs,Sett.enc,Sett.cs]
  refine Q5 hcc ?_
  simp[go_sem]
  refine Q5 hbc ?_
  simp[go_sem,V3.enc,V3.cs,hz]
  refine Q5 hhc ?_
  simp[go_sem,he,heb,L20.r]
 rw[if_neg (by simp[he])]
 subst he
 refine CallIs.res (r:=.t [if (Kh m s.pitch zs).2≠0 then .nil else Jd (Kh m s.pitch zs).1,.i .i64 (Kh m s.pitch zs).2]) ?_ (by
  by_cases h1:(Kh m s.pitch zs).2=0
  ·rw[if_neg (by simp[h1])]
   exact Le.refl _
  ·rw[if_pos h1]
   have h2:(Kh m s.pitch zs).1=[]:=by
    by_cases h3:∀z∈zs,(Zb m z s.pitch).2=0
    ·rw[I4 h3]at h1
     simp at h1
    ·cases zs with
     | nil=>rfl
     | cons z zs =>
       unfold Kh at h1 ⊢
       split
       ·rfl
       ·split
        ·rfl
        ·rename_i q1 q2
         rw[if_neg q1,if_neg q2]at h1
         simp at h1
   rw[h2]
   exact hnil _)
 refine PureC.is (Q8 hm hf (qh rfl) ?_) rfl
 unfold L20.c
 simp[go_sem,Mesh.enc,Mesh.cs,Sett.enc,Sett.cs]
 refine Q5 hcc ?_
 simp[go_sem]
 refine Q5 hbc ?_
 simp[go_sem,V3.enc,V3.cs,hz]
 refine Q5 hhc ?_
 simp[go_sem,isV]
 obtain⟨T,hT⟩:∃T:Nat->List (List Rw),∀i,T i=(zs.take i).map λz=>(Zb m z s.pitch).1:=⟨_,λ_=>rfl⟩
 have hT0:T 0=[]:=by rw[hT];rfl
 have hTl:∀i,i<=zs.length->(T i).length=i:=λi hi=>by rw[hT,List.length_map,qv];omega
 refine Z0 [.t 12 1] (α:=Nat) (λi=>i<=zs.length/\∀z∈zs.take i,(Zb m z s.pitch).2=0)
  (λi=>⟨[(2,.p 0 1 0 0),(3,.p 1 1 0 0),(12,.own 4 (i+1) 0 (T i).length),(44,isV zs),(45,.i .i64 zs.length),(46,.i .i64 i)],[.arr 1 2 [m.cs],.arr 1 20 [s.cs],.dead,.dead,.arr (i+1) 1 ((T i).map rgE)]⟩)
  (λi=>zs.length-i) 0 ⟨Nat.zero_le _,by simp⟩ ?_ ?_
 ·simp[go_sem,isV,hT0,Mesh.cs,Sett.cs]
  exact⟨rfl,rfl⟩
 rintro i ⟨hi,hok⟩
 have hTi:=hTl i hi
 by_cases hil:i=zs.length
 ·subst hil
  rw[qi]at hok
  have hall:=I4 hok
  have hTn:T zs.length=zs.map λz=>(Zb m z s.pitch).1:=by rw[hT,qi]
  rw[hall,<- hTn]
  have ht:List.take zs.length ((T zs.length).map rgE)=(T zs.length).map rgE:=qe (by simp[hTi])
  generalize T zs.length=L at *
  simp (disch:=omega) [go_sem,isV,hTi,ht,Y2,L20.r]
  rw[if_pos (Qfr L)];rfl
 have hlt:i<zs.length:=by omega
 have hq:zs[i]?=some zs[i]:=q9 hlt
 have hTs:T (i+1)=T i++[(Zb m zs[i] s.pitch).1]:=by rw[hT,hT,Qc hq,qw];rfl
 have hsc:=hs m zs[i] s.pitch
 have hbad:=Qaj (m:=m) (k:=s.pitch) hq hok
 have hnext:(Zb m zs[i] s.pitch).2=0->∀z∈zs.take (i+1),(Zb m z s.pitch).2=0:=λh z hz=>by
  rw[Qc hq]at hz
  rcases qg.1 hz with hz | hz
  ·exact hok z hz
  ·rw[qn.1 hz];exact h
 generalize Zb m zs[i] s.pitch=R at *
 obtain⟨g,e⟩:=R
 simp only at hTs hsc hbad hnext
 generalize zs[i]=z at *
 obtain⟨_,hq'⟩:=q8.1 hq
 simp only[Mesh.enc,Mesh.cs,rgV]at hsc
 have htk:List.take i ((T i).map rgE)=(T i).map rgE:=qe (by simp[hTi])
 simp (disch:=omega) [go_sem,isV,hlt,hq,hq',Mesh.cs,Sett.cs,Q2]
 refine Q5 hsc ?_
 by_cases he:e=0
 ·subst he
  have hnx:=hnext rfl
  simp (disch:=omega) [go_sem,isV,hTi,htk,V.cells,V.okA,Q2]
  exact⟨⟨by omega,by omega⟩,i+1,⟨by omega,hnx⟩,by omega,⟨⟨rfl,by rw[hTs];simp[hTi]⟩,by omega⟩,⟨rfl,rfl⟩,⟨rfl,by rw[hTs];simp[rgE,rwL]⟩,Q7p _ _⟩
 ·have heb:(e != 0)=true:=by simpa using he
  rw[hbad he]
  simp (disch:=omega) [go_sem,isV,he,heb,V.cells,V.okA,L20.r]
end
theorem Qhq (l:List Int):(Zq l).Pairwise λx y=>x<=y:=by
 have:=List.pairwise_mergeSort (le:=λx y:Int=>decide (x<=y)) (by intro a b c;simp;omega) (by intro a b;simp;omega) l
 exact this.imp λh=>by simpa using h
theorem Q2u (l:List Int):(Zq l).Perm l:=List.mergeSort_perm _ _
def Xp (g:List Rw) (y:Int):List Rn:=((g.find? λw=>decide (w.y=y)).map Rw.rs).getD []
theorem Br {g:List Rw} (hg:RgV g) {w:Rw} (hw:w∈g):Xp g w.y=w.rs:=by
 unfold Xp
 cases hf:g.find? λv=>decide (v.y=w.y) with
 | none =>
   have:=List.find?_eq_none.1 hf w hw
   simp at this
 | some v =>
   have h1:=List.mem_of_find?_eq_some hf
   have h2:v.y=w.y:=by simpa using List.find?_some hf
   rw[hg.uniq h1 hw h2];rfl
theorem Bs {g:List Rw} {y:Int} (h:∀w∈g,w.y≠y):Xp g y=[]:=by
 unfold Xp
 rw[List.find?_eq_none.2 λw hw=>by simpa using h w hw];rfl
theorem Iw {g:List Rw} (hg:RgV g) {y x:Int}:Qg (Xp g y) x↔Wb g y x:=by
 by_cases h:∃w∈g,w.y=y
 ·obtain⟨w,hw,rfl⟩:=h
  rw[Br hg hw,hg.row hw]
 ·have h2:∀w∈g,w.y≠y:=λw hw he=>h ⟨w,hw,he⟩
  rw[Bs h2]
  constructor
  ·intro h3;exact absurd h3 (Qk _)
  ·rintro⟨w,hw,he,_⟩;exact absurd he (h2 w hw)
theorem Q7o {g:List Rw} (hg:RgV g) (hb:RgB g) (y:Int):RnsV (Xp g y)/\RnI (Xp g y):=by
 by_cases h:∃w∈g,w.y=y
 ·obtain⟨w,hw,rfl⟩:=h
  rw[Br hg hw]
  exact⟨hg.rs w hw,hb.rnb hg hw⟩
 ·rw[Bs λw hw he=>h ⟨w,hw,he⟩]
  exact⟨RnsV.nil,by simp[RnI]⟩
theorem CallIs.lel {P:Program} {f:FuncId} {us vs:List V} {r:V} (hl:LeL Le us vs) (h:CallIs P f vs r):CallIs P f us r:=λhh J m w cargs hr hp =>
 h hh J m w cargs hr (LeL.pw (R:=Le) (Q:=RV J m w) (λu v c h1 h2=>h1.rv h2) hl hp)
def UniC (P:Program) (f:FuncId):Prop:=∀a b:List Rw,RgV a->RgV b->RgB a->RgB b->CallIs P f [rgV a,rgV b] (rgV (K2 a b))
def msV (ms:List Mesh):V:=.l 2 (ms.map Mesh.cs)
def Qpd (P:Program) (f:FuncId):Prop:=∀(c:V) (g r:List Rw),(c=rwL g∨(c=.nil/\g=[]))->RgV g->RgB g->RgV r->RgB r->CallIs P f [.l 1 [[c],[rwL r]]] (rgV (K2 g r))
def Q2f (P:Program) (f:FuncId):Prop:=∀(ms:List Mesh) (s:Sett),ms.length<=1000->CallIs P f [msV ms,s.enc] (.t [Jd (Xc ms s.pitch s.height).1,.i .i64 (Xc ms s.pitch s.height).2])
noncomputable def Ul (acc l:List (List Rw)) (j:Nat):List (List Rw):=(List.range (max acc.length j)).map λi=>if i<j then K2 (atR acc i) (atR l i) else atR acc i
theorem K7 (acc l:List (List Rw)) (j:Nat):(Ul acc l j).length=max acc.length j:=by simp[Ul]
theorem W8 {acc l:List (List Rw)} {j i:Nat} (h:i<max acc.length j):(Ul acc l j)[i]?=some (if i<j then K2 (atR acc i) (atR l i) else atR acc i):=by
 unfold Ul
 rw[qp,ji h];rfl
theorem Qin {acc l:List (List Rw)}:Ul acc l 0=acc:=by
 refine qx λi=>?_
 by_cases hi:i<acc.length
 ·rw[W8 (by omega),if_neg (by omega)]
  unfold atR
  rw[q9 hi];rfl
 ·rw[qk (by rw[K7];omega),qk (by omega)]
theorem Qmh {acc l:List (List Rw)} (ha:Xx acc):Ul acc l l.length=Q2l acc l:=by
 refine qx λi=>?_
 by_cases hi:i<max acc.length l.length
 ·rw[W8 hi,Qa4 hi]
  split
  ·rfl
  ·have e:atR l i=[]:=by unfold atR;rw[qk (by omega)];rfl
   rw[e,Qgx (Qp6 ha i).1 (Qp6 ha i).2]
 ·rw[qk (by rw[K7];omega),qk (by rw[I1];omega)]
theorem Qmg {acc l:List (List Rw)} {j:Nat} (h:acc.length<=j):Ul acc l (j+1)=Ul acc l j++[K2 (atR acc j) (atR l j)]:=by
 unfold Ul
 rw[show max acc.length (j+1)=j+1 by omega,show max acc.length j=j by omega,List.range_succ,qw]
 congr 1
 ·refine jn λi hi=>?_
  have:=qy.1 hi
  rw[if_pos (by omega),if_pos (by omega)]
 ·simp
theorem Qmf {acc l:List (List Rw)} {j:Nat} (h:j<acc.length):Ul acc l (j+1)=(Ul acc l j).set j (K2 (atR acc j) (atR l j)):=by
 refine qx λi=>?_
 rw[List.getElem?_set]
 by_cases hi:i<acc.length
 ·rw[W8 (by omega)]
  by_cases he:j=i
  ·subst he
   rw[if_pos rfl,if_pos (show j<j+1 by omega),if_pos (show j<(Ul acc l j).length by rw[K7];omega)]
  ·rw[if_neg he,W8 (by omega)]
   by_cases h2:i<j
   ·rw[if_pos h2,if_pos (by omega)]
   ·rw[if_neg h2,if_neg (by omega)]
 ·rw[qk (by rw[K7];omega),if_neg (by omega),qk (by rw[K7];omega)]
section
variable {P:Program} (hm:P.follows .mixedOrders=true)
include hm
theorem Q18 {f fu:FuncId} (hf:Q9 P f (L21.c fu) L21.r L21.n) (hu:UniC P fu):Qpd P f:=by
 intro c g r hc hg bg hr br
 have u1:=hu [] g RgV.nil hg RgB.nil bg
 rw[Qa3 hg bg]at u1
 have u2:=hu g r hg hr bg br
 have hcl:Le (.a [c]) (rgV g):=by
  rcases hc with rfl | ⟨rfl,rfl⟩
  ·exact Le.refl _
  ·exact .inl (.inr ⟨_,_,rfl,rfl,Le0.nil 2,trivial⟩)
 have hn0:Le (.a [.nil]) (rgV []):=.inl (.inr ⟨_,_,rfl,rfl,Le0.nil 2,trivial⟩)
 have w1:CallIs P fu [.a [.nil],.a [c]] (rgV g):=CallIs.lel (show LeL Le [.a [.nil],.a [c]] [rgV [],rgV g] from ⟨hn0,hcl,trivial⟩) u1
 have hcc:c.cl 3=true/\c.cl 2=true/\c.isD=true:=by
  rcases hc with rfl | ⟨rfl,rfl⟩<;>exact⟨rfl,rfl,rfl⟩
 refine PureC.is (Q8 hm hf (qh rfl) ?_) (by rcases hc with rfl | ⟨rfl,rfl⟩<;>rfl)
 unfold L21.c
 simp[go_sem]
 obtain⟨F,hF⟩:∃F:Nat->V,∀i,F i=if i=0 then .nil else if i=1 then rwL g else rwL (K2 g r):=⟨_,λ_=>rfl⟩
 have F0:F 0=.nil:=by rw[hF];rfl
 have F1:F 1=rwL g:=by rw[hF];rfl
 have F2:F 2=rwL (K2 g r):=by rw[hF];rfl
 refine Qf (α:=Nat) (λi=>i<=2)
  (λi=>⟨[(2,.p 0 1 0 0),(3,.p 1 1 0 0),(6,.l 1 [[c],[rwL r]]),(7,.i .i64 2),(8,.i .i64 i)],[.arr 1 1 [[.nil]],.arr 1 1 [[F i]]]⟩)
  (λi=>2-i) 0 (by omega) ?_ ?_
 ·simp[go_sem,F0]
 intro i hi
 rcases (show i=0∨i=1∨i=2 by omega) with rfl | rfl | rfl
 ·rw[F0]
  simp[go_sem]
  refine Q5 w1 ?_
  simp[go_sem,rgV,V.cells,V.okA]
  exact⟨1,by omega,by omega,rfl,by rw[F1];rfl,by rw[F1];rfl⟩
 ·rw[F1]
  simp[go_sem]
  refine Q5 u2 ?_
  simp[go_sem,rgV,V.cells,V.okA]
  exact⟨2,by omega,by omega,rfl,by rw[F2];rfl,by rw[F2];rfl⟩
 ·rw[F2]
  simp[go_sem,rwL,rgV,L21.r]
end
theorem Wu (s:Sett) (n:Nat):∀x∈s.cs,x.cl n=true:=λx hx=>by
 simp only[Sett.cs,List.mem_cons,List.not_mem_nil,or_false]at hx
 rcases hx with rfl | rfl | rfl | rfl | rfl | rfl | rfl | rfl | rfl | rfl | rfl | rfl | rfl | rfl | rfl | rfl | rfl | rfl | rfl | rfl<;>rfl
theorem Qk3 {k h:Int} {ms:List Mesh} {i:Nat} {m:Mesh} (hq:ms[i]?=some m) {acc:List (List Rw)}:B9 k h acc (ms.drop i)=if (Je m k h).2≠0 then ([],(Je m k h).2) else B9 k h (Q2l acc (Je m k h).1) (ms.drop (i+1)):=by
 obtain⟨hlt,hq'⟩:=q8.1 hq
 rw[List.drop_eq_getElem_cons hlt,hq']
 rfl
section
variable {P:Program} (hm:P.follows .mixedOrders=true)
include hm
theorem Q19 {f fe fp fu:FuncId} (hf:Q9 P f (L1y.c fe fp fu) L1y.r L1y.n) (he:Qcj P fe) (hp:Qf9 P fp) (hu:Qpd P fu):Q2f P f:=by
 intro ms s hml
 have e1:=he s.pitch 32 1024 (by omega)
 have e2:=he s.height 4 1024 (by omega)
 have hnil:∀e:Int,Le (.t [.nil,.i .i64 e]) (.t [Jd [],.i .i64 e]):=λe=>.inr ⟨_,_,rfl,rfl,.inl (Le0.nil 1),Le1.refl _,trivial⟩
 unfold Xc
 cases hv1:Zn s.pitch 32 1024 with
 | false =>
   rw[hv1]at e1
   rw[if_pos (.inl rfl)]
   refine CallIs.res (r:=.t [.nil,.i .i64 1]) ?_ (hnil _)
   refine PureC.is (Q8 hm hf (qh rfl) ?_) rfl
   unfold L1y.c
   simp[go_sem,msV,Sett.enc,Sett.cs]
   refine Q5 e1 ?_
   simp[go_sem,L1y.r]
   done
 | true =>
 cases hv2:Zn s.height 4 1024 with
 | false =>
   rw[hv1]at e1
   rw[hv2]at e2
   rw[if_pos (.inr rfl)]
   refine CallIs.res (r:=.t [.nil,.i .i64 1]) ?_ (hnil _)
   refine PureC.is (Q8 hm hf (qh rfl) ?_) rfl
   unfold L1y.c
   simp[go_sem,msV,Sett.enc,Sett.cs]
   refine Q5 e1 ?_
   simp[go_sem]
   refine Q5 e2 ?_
   simp[go_sem,L1y.r]
   done
 | true =>
 rw[hv1]at e1
 rw[hv2]at e2
 rw[if_neg (by simp)]
 obtain⟨R,hR⟩:∃R,R=B9 s.pitch s.height [] ms:=⟨_,rfl⟩
 rw[<- hR]
 refine CallIs.res (r:=.t [if R.2≠0 then .nil else Jd R.1,.i .i64 R.2]) ?_ (by
  by_cases h1:R.2=0
  ·rw[if_neg (by simp[h1])]
   exact Le.refl _
  ·rw[if_pos h1]
   have h2:R.1=[]:=by rw[hR]at h1 ⊢;exact Qce h1
   rw[h2]
   exact hnil _)
 refine PureC.is (Q8 hm hf (qh rfl) ?_) rfl
 unfold L1y.c
 simp[go_sem,msV,Sett.enc,Sett.cs]
 refine Q5 e1 ?_
 simp[go_sem]
 refine Q5 e2 ?_
 simp[go_sem]
 refine Z0 [.t 6 1] (α:=Nat × Nat × List (List Rw)) (λp=>p.1<=ms.length/\B9 s.pitch s.height p.2.2 (ms.drop p.1)=R/\Xx p.2.2/\p.2.2.length<=256)
  (λp=>⟨[(3,.p 0 1 0 0),(6,.own 1 (p.2.1+1) 0 p.2.2.length),(23,msV ms),(24,.i .i64 ms.length),(25,.i .i64 p.1)],[.arr 1 20 [s.cs],.arr (p.2.1+1) 1 (p.2.2.map rgE)]⟩)
  (λp=>ms.length-p.1) (0,0,[]) ⟨Nat.zero_le _,hR.symm,by simp[Xx],by simp⟩ ?_ ?_
 ·simp[go_sem,msV,Sett.cs]
 rintro⟨i,g,acc⟩ ⟨hi,hacc,hav,hal⟩
 simp only at hi hacc hav hal ⊢
 by_cases hil:i=ms.length
 ·subst hil
  rw[List.drop_length]at hacc
  have hR2:R=(acc,0):=hacc.symm
  have ht:List.take acc.length (acc.map rgE)=acc.map rgE:=qe (by simp)
  rw[hR2]
  simp (disch:=omega) [go_sem,msV,ht,Y2,L1y.r]
  rw[if_pos (Qfr acc)];rfl
 have hlt:i<ms.length:=by omega
 have hq:ms[i]?=some ms[i]:=q9 hlt
 rw[Qk3 hq]at hacc
 have hpc:=hp ms[i] s
 have hpv:=Qfw ms[i] s.pitch s.height
 generalize ms[i]=m at *
 obtain⟨_,hq'⟩:=q8.1 hq
 generalize Je m s.pitch s.height=T at *
 obtain⟨l,e⟩:=T
 simp only at hacc hpc hpv
 simp only[Mesh.enc,Mesh.cs,Sett.enc,Sett.cs]at hpc
 simp (disch:=omega) [go_sem,msV,hlt,hq,hq',Mesh.cs,Sett.cs,Q2]
 refine Q5 hpc ?_
 by_cases he0:e=0
 case neg =>
  have heb:(e != 0)=true:=by simpa using he0
  rw[if_pos he0]at hacc
  rw[<- hacc]
  simp (disch:=omega) [go_sem,he0,heb,L1y.r]
 subst he0
 rw[if_neg (by simp)]at hacc
 obtain⟨hlv,hll⟩:=hpv
 simp (disch:=omega) [go_sem,Y2,Q2]
 refine Qf (α:=Nat × Nat) (λp=>p.1<=l.length)
  (λp=>⟨[(3,.p 0 1 0 0),(6,.own 1 (p.2+1) 0 (Ul acc l p.1).length),(23,msV ms),(24,.i .i64 ms.length),(25,.i .i64 i),(38,Jd l),(39,.i .i64 l.length),(40,.i .i64 p.1)],[.arr 1 20 [s.cs],.arr (p.2+1) 1 ((Ul acc l p.1).map rgE)]⟩)
  (λp=>l.length-p.1) (0,g) (by simp) ?_ ?_
 ·simp[go_sem,msV,Qin,Y2]
  exact⟨⟨rfl,Wu s 2⟩,Q7p _ _⟩
 rintro⟨j,g2⟩ hj
 simp only at hj ⊢
 have hml2:=K7 acc l j
 by_cases hjl:j=l.length
 ·subst hjl
  rw[Qmh hav]
  have hul:=I1 acc l
  simp (disch:=omega) [go_sem,Y2,Q2]
  exact⟨i+1,g2,Q2l acc l,⟨by omega,hacc,Qks _ _,by omega⟩,by omega,⟨⟨rfl,rfl⟩,rfl,by omega⟩,rfl,⟨rfl,rfl⟩,Q7p _ _⟩
 have hjt:j<l.length:=by omega
 have hu1:l[j]?=some l[j]:=q9 hjt
 have hrv:=hlv _ (qb hu1)
 have hatl:atR l j=l[j]:=by unfold atR;rw[hu1];rfl
 have hav2:=Qp6 hav j
 have happ:=Qmg (acc:=acc) (l:=l) (j:=j)
 have hset:=Qmf (acc:=acc) (l:=l) (j:=j)
 have hget:=W8 (acc:=acc) (l:=l) (j:=j) (i:=j)
 rw[hatl]at happ hset
 generalize l[j]=r at *
 obtain⟨_,hu1'⟩:=q8.1 hu1
 have hMj:(Ul acc l j).length<=600:=by rw[hml2];omega
 generalize Ul acc l j=M at *
 have htk:List.take M.length (M.map rgE)=M.map rgE:=qe (by simp)
 by_cases hjm:acc.length<=j
 ·have hMl:M.length=j:=by omega
  have hM':=happ hjm
  have hat0:atR acc j=[]:=by unfold atR;rw[qk hjm];rfl
  rw[hat0]at hM' hav2
  have huc:=hu .nil [] r (.inr ⟨rfl,rfl⟩) RgV.nil RgB.nil hrv.1 hrv.2
  subst hMl
  simp (disch:=omega) [go_sem,Y2,hjt,hu1,hu1',rgE,htk,Qai,Qah,Q2]
  refine⟨⟨by omega,by omega⟩,?_,Q71 (id:=4) (o:=.arr 1 1 [[.nil],[rwL r]]) (o':=.dead) rfl (λh2 hh=>Yb (vs:=[.l 1 [[.nil],[rwL r]]]) (by simp[X6,frz,X7,hh,rwL,V.isD]) huc ⟨rfl,rfl⟩) (.inr (by simp)) (by rfl) ?_⟩
  ·rfl
  simp (disch:=omega) [go_sem,rgV,V.cells,V.okA,Qai,Qah,Q2]
  exact⟨M.length+1,by omega,by omega,g2+1,⟨⟨rfl,by rw[hM'];simp⟩,.inr rfl,by omega⟩,Wu s 2,⟨rfl,by rw[hM'];simp[rgE,rwL]⟩,Q7p _ _⟩
 ·have hMl:M.length=acc.length:=by omega
  have hM':=hset (by omega)
  have hg:=hget (by omega)
  rw[if_neg (by omega)]at hg
  have huc:=hu (rwL (atR acc j)) (atR acc j) r (.inl rfl) hav2.1 hav2.2 hrv.1 hrv.2
  have hjn:((j:Int) == acc.length)=false:=by simp;omega
  have hjn2:¬ (j:Int)=acc.length:=by omega
  have hjt2:j<acc.length:=by omega
  have hjt3:j<M.length:=by omega
  obtain⟨_,hg'⟩:=q8.1 hg
  simp (disch:=omega) [go_sem,Y2,hjt,hu1,hu1',rgE,hMl,hjn,hjn2,hjt2,hjt3,hg,hg',Q2]
  refine⟨⟨rfl,rfl⟩,Q71 (id:=3) (o:=.arr 1 1 [[rwL (atR acc j)],[rwL r]]) (o':=.dead) rfl (λh2 hh=>Yb (vs:=[.l 1 [[rwL (atR acc j)],[rwL r]]]) (by simp[X6,frz,X7,hh,rwL,V.isD]) huc ⟨rfl,rfl⟩) (.inr (by simp)) (by rfl) ?_⟩
  simp (disch:=omega) [go_sem,rgV,V.cells,V.okA,rgE,hMl,hjt2,hjt3,hg,hg',Q2]
  exact⟨j+1,by omega,by omega,g2,⟨⟨rfl,by rw[hM'];simp[hMl]⟩,.inr rfl,by omega⟩,Wu s 2,⟨rfl,by rw[hM',List.map_set];rfl⟩,λ_ _=>rfl⟩
end
def Qge (m:Mesh):Bool:=decide (m.verts.length<=60) && decide (m.tris.length<=60)
def Qfd (P:Program) (f:FuncId):Prop:=∀m:Mesh,CallIs P f [m.enc] (.b (Qge m))
def LowC (P:Program) (f:FuncId):Prop:=∀(ms:List Mesh) (s:Sett),PureC P f [msV ms,s.enc] λr=>∃b,r=.b b/\(b=true->ms.length<=4)
section
variable {P:Program} (hm:P.follows .mixedOrders=true)
include hm
theorem Q88 {f:FuncId} (hf:Q9 P f L09.c L09.r L09.n):Qfd P f:=by
 intro m
 refine PureC.is (Q8 hm hf (qh rfl) ?_) rfl
 unfold L09.c Qge
 by_cases h1:m.verts.length<=60
 ·by_cases h2:m.tris.length<=60
  ·simp[go_sem,Mesh.enc,Mesh.cs,vsV,tsV,h1,h2,show (m.verts.length:Int)<=60 by omega,show (m.tris.length:Int)<=60 by omega,L09.r]
  ·simp[go_sem,Mesh.enc,Mesh.cs,vsV,tsV,h1,h2,show (m.verts.length:Int)<=60 by omega,show ¬ (m.tris.length:Int)<=60 by omega,L09.r]
 ·simp[go_sem,Mesh.enc,Mesh.cs,vsV,tsV,h1,show ¬ (m.verts.length:Int)<=60 by omega,L09.r]
theorem Q87 {f ff:FuncId} (hf:Q9 P f (L0a.c ff) L0a.r L0a.n) (hff:Qfd P ff):LowC P f:=by
 intro ms s
 refine Q8 hm hf (qh rfl) ?_
 unfold L0a.c
 simp[go_sem,msV,Sett.enc]
 refine Qf (α:=Nat) (λi=>i<=ms.length/\i<=5)
  (λi=>⟨[(0,msV ms),(3,.p 0 1 0 0),(5,.i .i64 i)],[.arr 1 20 [s.cs]]⟩)
  (λi=>5-i) 0 ⟨Nat.zero_le _,Nat.zero_le _⟩ ?_ ?_
 ·simp[go_sem,msV]
  exact⟨rfl,Wu s 1⟩
 rintro i ⟨hi,hi5⟩
 by_cases hend:i<ms.length/\i<5
 case neg =>
  by_cases h1:i<ms.length
  ·have h2:i=5:=by omega
   subst h2
   have h1z:(5:Int)<ms.length:=by omega
   simp[go_sem,msV,h1,h1z,L0a.r]
   omega
  ·have h2:i=ms.length:=by omega
   subst h2
   simp[go_sem,msV,L0a.r]
   omega
 obtain⟨hlt,hlt5⟩:=hend
 have hq:ms[i]?=some ms[i]:=q9 hlt
 have hfc:=hff ms[i]
 generalize ms[i]=m at *
 obtain⟨_,hq'⟩:=q8.1 hq
 simp only[Mesh.enc,Mesh.cs]at hfc
 have hlt5z:(i:Int)<5:=by omega
 simp (disch:=omega) [go_sem,msV,hlt,hlt5,hlt5z,hq,hq',Mesh.cs,Q2]
 refine Q5 hfc ?_
 cases hfw:Qge m with
 | false =>
   rw[hfw]at hfc
   simp[go_sem,L0a.r]
 | true =>
   have h60:m.verts.length<=60:=by
    unfold Qge at hfw
    simp only[Bool.and_eq_true,decide_eq_true_eq]at hfw
    exact hfw.1
   simp[go_sem]
   refine Qf (α:=Nat) (λj=>j<=m.verts.length)
    (λj=>⟨[(0,msV ms),(3,.p 0 1 0 0),(5,.i .i64 i),(6,.i .i64 j)],[.arr 1 20 [s.cs]]⟩)
    (λj=>m.verts.length-j) 0 (Nat.zero_le _) ?_ ?_
   ·simp[go_sem,msV]
    exact Wu s 1
   intro j hj
   by_cases hjl:j=m.verts.length
   ·subst hjl
    simp (disch:=omega) [go_sem,msV,hlt,hq,hq',Mesh.cs,vsV,Q2]
    exact⟨i+1,⟨by omega,by omega⟩,by omega,by omega,Wu s 1⟩
   have hjt:j<m.verts.length:=by omega
   have hv:m.verts[j]?=some m.verts[j]:=q9 hjt
   generalize m.verts[j]=v at *
   obtain⟨_,hv'⟩:=q8.1 hv
   have hs1:s.cs[1]?=some (.i .i64 s.height):=rfl
   have hnext:∃x',x'<=m.verts.length/\m.verts.length-x'<m.verts.length-j/\(j:Int)+1=x':=⟨j+1,by omega,by omega,by omega⟩
   generalize hW:IntKind.i64.wrap (40*s.height)=W
   by_cases c1:4<=s.height
   ·by_cases c2:W<v.z
    ·by_cases c3:v.z<=65536
     ·simp (disch:=omega) [go_sem,msV,hlt,hq,hq',Mesh.cs,Sett.cs,vsV,hjt,hv,hv',vcs,hs1,hW,c1,c2,c3,Q2,L0a.r]
     ·simp (disch:=omega) [go_sem,msV,hlt,hq,hq',Mesh.cs,Sett.cs,vsV,hjt,hv,hv',vcs,hs1,hW,c1,c2,c3,Q2]
      exact⟨j+1,by omega,by omega,by omega⟩
    ·simp (disch:=omega) [go_sem,msV,hlt,hq,hq',Mesh.cs,Sett.cs,vsV,hjt,hv,hv',vcs,hs1,hW,c1,c2,Q2]
     exact⟨j+1,by omega,by omega,by omega⟩
   ·simp (disch:=omega) [go_sem,msV,hlt,hq,hq',Mesh.cs,Sett.cs,vsV,hjt,hv,hv',vcs,hs1,hW,c1,Q2]
    exact⟨j+1,by omega,by omega,by omega⟩
theorem StackSettings_ok {f fl fa fs fv fe:FuncId} (hf:Q9 P f (L08.c fl fa fs fv fe) L08.r L08.n) (hl:LowC P fl) (ha:Qfi P fa) (hs:Q2f P fs) (hvd:Uc P fv) (he:Q9d P fe) (ms:List Mesh) (s t:Sett) :
  PureC P f [msV ms,s.enc,t.enc] (·=.b true):=by
 have c0:=hl ms s
 have hv:=Qhu ms s.pitch s.height
 refine Q8 hm hf (qh rfl) ?_
 unfold L08.c
 simp only[Sett.enc,Sett.cs]at c0
 simp[go_sem,Sett.enc,Sett.cs]
 refine (c0.lift rfl _).mono ?_
 rintro r h' ⟨⟨b,rfl,hb⟩,rfl⟩
 cases b with
 | false =>
   simp[go_sem]
   refine Q5 ha ?_
   simp[go_sem,L08.r]
 | true =>
   have h4:=hb rfl
   have c1:=hs ms s (by omega)
   have c2:=hs ms { t with pitch:=s.pitch,height:=s.height } (by omega)
   have c3:=he _ _ hv.1 hv.1 (by omega) (by omega)
   rw[decide_eq_true rfl]at c3
   generalize Xc ms s.pitch s.height=S at *
   obtain⟨L,e⟩:=S
   simp only[Sett.enc,Sett.cs]at c1 c2 c3 hv
   have hLl:L.length<=256:=hv.2
   simp[go_sem]
   refine Q5 c1 ?_
   simp[go_sem]
   refine Q5 c2 ?_
   simp[go_sem,Y2]
   refine Qf (α:=Nat) (λi=>i<=L.length)
    (λi=>⟨[(7,Jd L),(8,.i .i64 e),(9,Jd L),(10,.i .i64 e),(11,.i .i64 i)],[]⟩)
    (λi=>L.length-i) 0 (Nat.zero_le _) ?_ ?_
   ·simp[go_sem,Y2]
   intro i hi
   by_cases hil:i=L.length
   ·subst hil
    simp[go_sem,Y2]
    refine Q5 c3 ?_
    simp[go_sem]
    refine Q5 ha ?_
    simp[go_sem,L08.r]
   ·have hlt:i<L.length:=by omega
    have hq:L[i]?=some L[i]:=q9 hlt
    have hg:=hv.1 _ (qb hq)
    generalize L[i]=g at *
    obtain⟨_,hq'⟩:=q8.1 hq
    have cv:=hvd g hg.1 hg.2
    simp only[rgV]at cv
    simp (disch:=omega) [go_sem,Y2,hlt,hq,hq',rgE,rwL,Q2]
    refine Q5 cv ?_
    simp (disch:=omega) [go_sem,Y2,Q2]
    exact⟨i+1,by omega,by omega,by omega⟩
end
def Qe4 (U:List Int) (x:Int):List Int:=if x∈U then U else U++[x]
def Qe5 (U:List Int) (t:T3):List Int:=Qe4 (Qe4 (Qe4 U t.a) t.b) t.c
def K0 (ts:List T3):List Int:=ts.foldl Qe5 []
theorem Qct (ts:List T3) (t:T3):K0 (ts++[t])=Qe5 (K0 ts) t:=by simp[K0]
theorem Q8c {U:List Int} (h:U.Nodup) (x:Int):(Qe4 U x).Nodup/\(∀v,v∈Qe4 U x↔v∈U∨v=x)/\(Qe4 U x).length<=U.length+1:=by
 unfold Qe4
 split
 ·rename_i hx
  exact⟨h,λv=>⟨.inl,λhh=>hh.elim id (λe=>e ▸ hx)⟩,by omega⟩
 ·rename_i hx
  refine⟨?_,λv=>by simp,by simp⟩
  rw[List.nodup_append]
  exact⟨h,by simp,λa ha b hb=>by simp at hb;subst hb;rintro rfl;exact hx ha⟩
theorem insT_ok {U:List Int} (h:U.Nodup) (t:T3):(Qe5 U t).Nodup/\(∀v,v∈Qe5 U t↔v∈U∨v=t.a∨v=t.b∨v=t.c)/\(Qe5 U t).length<=U.length+3:=by
 obtain⟨a1,a2,a3⟩:=Q8c h t.a
 obtain⟨b1,b2,b3⟩:=Q8c a1 t.b
 obtain⟨c1,c2,c3⟩:=Q8c b1 t.c
 refine⟨c1,λv=>?_,by unfold Qe5;omega⟩
 unfold Qe5
 rw[c2,b2,a2,or_assoc,or_assoc]
theorem Qkq (ts:List T3):(K0 ts).Nodup/\(∀v,v∈K0 ts↔∃t∈ts,v=t.a∨v=t.b∨v=t.c)/\(K0 ts).length<=3*ts.length:=by
 have key:∀k,k<=ts.length->(K0 (ts.take k)).Nodup/\(∀v,v∈K0 (ts.take k)↔∃t∈ts.take k,v=t.a∨v=t.b∨v=t.c)/\(K0 (ts.take k)).length<=3*k:=by
  intro k
  induction k with
  | zero=>intro _;simp[K0]
  | succ k ih =>
    intro hk
    obtain⟨h1,h2,h3⟩:=ih (by omega)
    have hp:ts[k]?=some ts[k]:=q9 (by omega)
    rw[Qc hp,Qct]
    obtain⟨i1,i2,i3⟩:=insT_ok h1 ts[k]
    refine⟨i1,λv=>?_,by omega⟩
    rw[i2,h2]
    constructor
    ·rintro (⟨t,ht,hv⟩ | hv)
     ·exact⟨t,qg.2 (.inl ht),hv⟩
     ·exact⟨ts[k],qg.2 (.inr (by simp)),hv⟩
    ·rintro⟨t,ht,hv⟩
     rcases qg.1 ht with h | h
     ·exact .inl ⟨t,h,hv⟩
     ·simp at h;subst h;exact .inr hv
 have:=key ts.length (Nat.le_refl _)
 rwa [qi]at this
def Mesh.euler (m:Mesh):Int:=if m.check=0 then ((K0 m.tris).length:Int)-m.edgesL.length+m.tris.length else 0
theorem Qax {l k:List Int} (hl:l.Nodup) (hk:k.Nodup) (h:∀v,v∈l↔v∈k):l.Perm k:=by
 rw[List.perm_iff_count]
 intro v
 have c:∀{l:List Int},l.Nodup->l.count v=if v∈l then 1 else 0:=λ{l} hl=>by
  by_cases he:v∈l
  ·rw[if_pos he]
   have h1:=List.count_pos_iff.2 he
   have h2:=List.nodup_iff_count.1 hl v
   omega
  ·rw[if_neg he];exact List.count_eq_zero.2 he
 rw[c hl,c hk]
 by_cases hv:v∈l
 ·rw[if_pos hv,if_pos ((h v).1 hv)]
 ·rw[if_neg hv,if_neg (λhh=>hv ((h v).2 hh))]
end Go.Abs
