/- Part of the library on which the proof stands: an abstract machine, its values and its soundness against the model; or what functions of the program do to such values. -/
import Derived.Test.YtnaehggpjfdenaaGreatGoCtA
import Derived.Test.YtnaehggpjfdenaaGreatGoLpB
import Derived.Test.YtnaehggpjfdenaaGreatGoOri
import Derived.Test.YtnaehggpjfdenaaGreatGoShpD
import Derived.Test.YtnaehggpjfdenaaGreatGoRevC
import Derived.Test.YtnaehggpjfdenaaGreatGoOw
import Derived.Test.YtnaehggpjfdenaaGreatGoShp
set_option linter.unusedVariables false
set_option linter.unusedSimpArgs false
set_option maxHeartbeats 8000000
set_option maxRecDepth 20000
namespace Go.Abs
def Q9h (a b:Sg4):Bool :=
 if a.a.1≠b.a.1 then decide (a.a.1<b.a.1) else if a.a.2≠b.a.2 then decide (a.a.2<b.a.2) else if a.b.1≠b.b.1 then decide (a.b.1<b.b.1) else decide (a.b.2<b.b.2)
def Sg4.enc (s:Sg4):V:=.a s.cs
def Qiu (P:Program) (f:FuncId):Prop:=∀a b:Sg4,CallIs P f [a.enc,b.enc] (.b (Q9h a b))
def Q8s (l:List Sg4) (g:Nat->Bool) (st:Bool) (p:P2) (k:Nat):Bool :=
 match l[k]? with
 | some s=>!g k && decide (s.eg.1≠s.eg.2) && (!st || decide (s.eg.1=p))
 | none=>false
def Yb (l:List Sg4) (i:Nat):Sg4:=(l[i]?).getD Sg4.init
def Zw (l:List Sg4) (g:Nat->Bool) (st:Bool) (p:P2):Nat->Int
 | 0=>-1
 | k+1=>if Q8s l g st p k=true then (if Zw l g st p k<0∨Q9h (Yb l k) (Yb l (Zw l g st p k).toNat)=true then (k:Int) else Zw l g st p k) else Zw l g st p k
theorem Ku (l:List Sg4) (g:Nat->Bool) (st:Bool) (p:P2):∀k,(Zw l g st p k=-1/\∀i,i<k->Q8s l g st p i=false)∨∃i:Nat,i<k/\Zw l g st p k=(i:Int)/\Q8s l g st p i=true
 | 0=>.inl ⟨rfl,λi hi=>by omega⟩
 | k+1=>by
   unfold Zw
   by_cases hc:Q8s l g st p k=true
   ·rw[if_pos hc]
    split
    ·exact .inr ⟨k,by omega,rfl,hc⟩
    ·rename_i hn
     rcases Ku l g st p k with⟨h1,_⟩ | ⟨i,h1,h2,h3⟩
     ·exact absurd (.inl (by omega)) hn
     ·exact .inr ⟨i,by omega,h2,h3⟩
   ·rw[if_neg hc]
    rcases Ku l g st p k with⟨h1,h2⟩ | ⟨i,h1,h2,h3⟩
    ·exact .inl ⟨h1,λi hi=>by
      by_cases hik:i=k
      ·subst hik;simpa using hc
      ·exact h2 i (by omega)⟩
    ·exact .inr ⟨i,by omega,h2,h3⟩
def Quz (l:List Sg4) (k:Nat):Prop:=∀e∈egs (l.take k),Xj (egs l) e.1=0/\Xj (egs l) e.2=0
def blV (n:Nat) (g:Nat->Bool):V:=.l 1 (bl n g)
def Qiv (P:Program) (f:FuncId):Prop:=∀(l:List Sg4) (g:Nat->Bool) (st:Bool) (p:P2),l.length<=4096 ->
 PureC P f [Qp l,blV l.length g,.b st,p.enc] (·=.i .i64 (Zw l g st p l.length))
theorem Qg1 {P:Program} {n0:Nat} {js:List Nat} {lg:List (List Nat × List Nat)} {f:FuncId} {args:List A} {b:Bool} {env:List (Nat × V)} {h:List O} {K:List Nat × List Nat->V->List O->Prop}:Sg P n0 js lg (.call f args) (.t []) b env h K=K ([],[]) (.t []) h:=Rfl rfl
section
variable {P:Program} (hm:P.follows .mixedOrders=true)
include hm
theorem Bg {f fb:FuncId} (hf:Q9 P f (L15.c fb) L15.r L15.n) (hb:Qu3 P fb):Qa7 P f:=by
 intro l hl
 generalize hB:Q1y (egs l)=B
 refine PureC.is (Q6 hm hf (qh rfl) ?_) rfl
 unfold L15.c
 simp[go_sem,Qp]
 refine Qc (α:=Nat) (λk=>k<=l.length/\Quz l k)
  (λk=>⟨[(0,Qp l),(3,.i .i64 k)],[]⟩)
  (λk=>l.length-k) 0 ⟨Nat.zero_le _,by simp[Quz,egs]⟩ ?_ ?_
 ·simp[go_sem,Qp]
 ·rintro k ⟨hk,hall⟩
  by_cases hkl:k=l.length
  ·subst hkl
   unfold Quz at hall
   rw[qi]at hall
   obtain rfl:true=B:=by
    rw[<- hB];symm
    unfold Q1y
    rw[qj]
    intro e he
    simp[hall e he]
   simp[go_sem,Qp,L15.r]
  ·have hlt:k<l.length:=by omega
   have hq:l[k]?=some l[k]:=q9 hlt
   generalize l[k]=s at hq
   obtain⟨_,hq'⟩:=q8.1 hq
   have h1:=hb l s.eg.1 hl
   have h2:=hb l s.eg.2 hl
   have hm1:s.eg∈egs l:=qo.2 ⟨s,qb hq,rfl⟩
   have hbad:¬ (Xj (egs l) s.eg.1=0/\Xj (egs l) s.eg.2=0)->B=false:=by
    intro hn
    rw[<- hB]
    cases hbb:Q1y (egs l) with
    | false=>rfl
    | true =>
      have:=qj.1 hbb s.eg hm1
      simp only[Bool.and_eq_true,decide_eq_true_eq]at this
      exact absurd this hn
   have htk:=B8 l hq
   simp[go_sem,Qp,hlt,hq,hq',Sg4.cs]
   refine Q4 h1 ?_
   by_cases z1:Xj (egs l) s.eg.1=0
   ·simp[go_sem,Qp,z1,hlt,hq,hq',Sg4.cs]
    refine Q4 h2 ?_
    by_cases z2:Xj (egs l) s.eg.2=0
    ·simp (disch:=omega) [go_sem,Qp,z2,Q0]
     refine⟨k+1,⟨by omega,λe he=>?_⟩,by omega,by omega⟩
     rw[htk]at he
     rcases qg.1 he with he | he
     ·exact hall e he
     ·rw[qn.1 he];exact⟨z1,z2⟩
    ·obtain rfl:=hbad (λh=>z2 h.2)
     have zb:(Xj (egs l) s.eg.2 != 0)=true:=by simpa using z2
     simp[go_sem,Qp,zb,L15.r]
   ·obtain rfl:=hbad (λh=>z1 h.1)
    have zb:(Xj (egs l) s.eg.1 != 0)=true:=by simpa using z1
    simp[go_sem,Qp,zb,L15.r]
theorem Q7y {f:FuncId} (hf:Q9 P f L19.c L19.r L19.n):Qiu P f:=by
 intro a b
 refine PureC.is (Q6 hm hf (qh rfl) ?_) rfl
 unfold L19.c Q9h
 by_cases h1:a.a.1=b.a.1
 ·by_cases h2:a.a.2=b.a.2
  ·by_cases h3:a.b.1=b.b.1
   ·simp[go_sem,Sg4.enc,Sg4.cs,h1,h2,h3,L19.r]
   ·simp[go_sem,Sg4.enc,Sg4.cs,h1,h2,h3,L19.r]
  ·simp[go_sem,Sg4.enc,Sg4.cs,h1,h2,L19.r]
 ·simp[go_sem,Sg4.enc,Sg4.cs,h1,L19.r]
theorem Q5c {f fl:FuncId} (hf:Q9 P f (L18.c fl) L18.r L18.n) (hless:Qiu P fl):Qiv P f:=by
 intro l g st p hl
 refine Q6 hm hf (qh rfl) ?_
 unfold L18.c
 simp[go_sem,Qp,P2.enc,P2.cs]
 refine Qc (α:=Nat) (λk=>k<=l.length)
  (λk=>⟨[(0,Qp l),(1,blV l.length g),(2,.b st),(7,.p 0 1 0 0),(9,.i .i64 (Zw l g st p k)),(10,.i .i64 k)],[.arr 1 2 [p.cs]]⟩)
  (λk=>l.length-k) 0 (Nat.zero_le _) ?_ ?_
 ·simp[go_sem,Qp,P2.cs,blV,Zw]
 ·intro k hk
  by_cases hkl:k=l.length
  ·subst hkl
   simp[go_sem,Qp,blV,L18.r]
  ·have hlt:k<l.length:=by omega
   have hq:l[k]?=some l[k]:=q9 hlt
   generalize l[k]=s at hq
   obtain⟨_,hq'⟩:=q8.1 hq
   have hbg:=Q1x (g:=g) hlt
   obtain⟨_,hbg'⟩:=q8.1 hbg
   have hbl:=Wg l.length g
   have hk1:Zw l g st p (k+1)=if Q8s l g st p k=true then (if Zw l g st p k<0∨Q9h (Yb l k) (Yb l (Zw l g st p k).toNat)=true then (k:Int) else Zw l g st p k) else Zw l g st p k:=rfl
   have hcd:Q8s l g st p k=(!g k && decide (s.eg.1≠s.eg.2) && (!st || decide (s.eg.1=p))):=by unfold Q8s;rw[hq]
   have hat:=Ku l g st p k
   generalize Zw l g st p k=at0 at *
   cases hg:g k with
   | true =>
     rw[hcd,hg]at hk1
     simp only[Bool.not_true,Bool.false_and,Bool.false_eq_true,if_false]at hk1
     simp (disch:=omega) [go_sem,Qp,blV,hlt,hq,hq',hbg,hbg',hbl,hg,Sg4.cs,P2.cs,Q0]
     exact⟨k+1,by omega,by omega,by simp[hk1]⟩
   | false =>
     have hsa:Yb l k=s:=by unfold Yb;rw[hq];rfl
     have heab:decide (s.eg.1≠s.eg.2) = !(s.a.1 == s.b.1 && s.a.2 == s.b.2):=by
      simp only[Sg4.eg,ne_eq,p2_iff]
      rw[Bool.eq_iff_iff];simp
     have heap:decide (s.eg.1=p)=(s.a.1 == p.x && s.a.2 == p.y):=by
      simp only[Sg4.eg,p2_iff]
      rw[Bool.eq_iff_iff];simp
     rw[hg,heab,heap]at hcd
     by_cases hab:(s.a.1 == s.b.1 && s.a.2 == s.b.2)=true
     ·rw[hab]at hcd
      simp only[Bool.not_true,Bool.and_false,Bool.false_and]at hcd
      rw[hcd,if_neg (by simp)]at hk1
      simp (disch:=omega) [go_sem,Qp,blV,hlt,hq,hq',hbg,hbg',hbl,hg,hab,Sg4.cs,P2.cs,Q0]
      exact⟨k+1,by omega,by omega,by simp[hk1]⟩
     ·simp only[Bool.not_eq_true]at hab
      rw[hab]at hcd
      by_cases hcc:Q8s l g st p k=true
      ·rw[if_pos hcc,hsa]at hk1
       have hst:(!st || (s.a.1 == p.x && s.a.2 == p.y))=true:=by rw[hcc]at hcd;simpa using hcd.symm
       have hst2:st=false∨(st=true/\(s.a.1 == p.x && s.a.2 == p.y)=true):=by
        cases st
        ·exact .inl rfl
        ·exact .inr ⟨rfl,by simpa using hst⟩
       rcases hat with⟨h1,_⟩ | ⟨i,h1,h2,_⟩
       ·subst h1
        rw[if_pos (.inl (by omega))]at hk1
        rcases hst2 with rfl | ⟨rfl,hap⟩
        ·simp (disch:=omega) [go_sem,Qp,blV,hlt,hq,hq',hbg,hbg',hbl,hg,hab,Sg4.cs,P2.cs,Qg1,Z4,I.news,Q0]
         exact⟨k+1,by omega,by omega,by simp[hk1]⟩
        ·simp (disch:=omega) [go_sem,Qp,blV,hlt,hq,hq',hbg,hbg',hbl,hg,hab,hap,Sg4.cs,P2.cs,Qg1,Z4,I.news,Q0]
         exact⟨k+1,by omega,by omega,by simp[hk1]⟩
       ·subst h2
        have hil:i<l.length:=by omega
        have hqi:l[i]?=some l[i]:=q9 hil
        have hsi:Yb l ((i:Int)).toNat=l[i]:=by unfold Yb;rw[Int.toNat_natCast,hqi];rfl
        rw[hsi]at hk1
        generalize l[i]=u at hqi hk1
        obtain⟨_,hqi'⟩:=q8.1 hqi
        have hls:=hless s u
        have hn0:¬ ((i:Int)<0):=by omega
        simp only[hn0,false_or]at hk1
        rcases hst2 with rfl | ⟨rfl,hap⟩
        ·simp (disch:=omega) [go_sem,Qp,blV,hlt,hq,hq',hbg,hbg',hbl,hg,hab,hil,hqi,hqi',hn0,Sg4.cs,P2.cs,Q0]
         refine Qg hls ?_
         cases hlv:Q9h s u<;>rw[hlv]at hk1<;>simp (disch:=omega) [go_sem,Q0]<;>exact⟨k+1,by omega,by omega,by simp[hk1]⟩
        ·simp (disch:=omega) [go_sem,Qp,blV,hlt,hq,hq',hbg,hbg',hbl,hg,hab,hap,hil,hqi,hqi',hn0,Sg4.cs,P2.cs,Q0]
         refine Qg hls ?_
         cases hlv:Q9h s u<;>rw[hlv]at hk1<;>simp (disch:=omega) [go_sem,Q0]<;>exact⟨k+1,by omega,by omega,by simp[hk1]⟩
      ·rw[if_neg hcc]at hk1
       have hst:st=true/\(s.a.1 == p.x && s.a.2 == p.y)=false:=by
        rw[hcd]at hcc
        cases st<;>simp_all
       obtain⟨rfl,hap⟩:=hst
       simp (disch:=omega) [go_sem,Qp,blV,hlt,hq,hq',hbg,hbg',hbl,hg,hab,hap,Sg4.cs,P2.cs,Q0]
       exact⟨k+1,by omega,by omega,by simp[hk1]⟩
end
section
variable {α β:Type}
def HeldR (sz:Nat) (hd:β->List V) (en:α->List V) (b:Nat) (hx:List O) (ls:List (β × List α)) (cells:List (List V)):Prop :=
 cells.length=ls.length/\∀(i:Nat) (c:List V) (l:β × List α),cells[i]?=some c->ls[i]?=some l->∃j g,c=hd l.1++[.own (b+j) g 0 l.2.length]/\hx[j]?=some (.arr g sz (l.2.map en))
structure CellsD (hd:β->List V) (en:α->List V):Prop where
 h1:∀b h,(hd b).mapM (Em h)=some (hd b)
 h2:∀b,∀x∈hd b,x.isD=true
 e1:∀a,∀x∈en a,x.isD=true
variable {sz:Nat} {hd:β->List V} {en:α->List V}
theorem HeldR.nil (b:Nat):HeldR sz hd en b [] [] []:=⟨rfl,by simp⟩
theorem HeldR.app {b:Nat} {hx:List O} {ls:List (β × List α)} {cells:List (List V)} (h:HeldR sz hd en b hx ls cells) (l:List O):HeldR sz hd en b (hx++l) ls cells :=
 ⟨h.1,λi c x h1 h2=>by obtain⟨j,g,h3,h4⟩:=h.2 i c x h1 h2;exact⟨j,g,h3,by rw[qd (q8.1 h4).1];exact h4⟩⟩
theorem HeldR.snoc {b:Nat} {hx:List O} {ls:List (β × List α)} {cells:List (List V)} (h:HeldR sz hd en b hx ls cells) {j g:Nat} {l:β × List α} (hj:hx[j]?=some (.arr g sz (l.2.map en))):HeldR sz hd en b hx (ls++[l]) (cells++[hd l.1++[.own (b+j) g 0 l.2.length]]):=by
 refine⟨by simp[h.1],λi c x h1 h2=>?_⟩
 by_cases hi:i<ls.length
 ·rw[qd (by rw[h.1];exact hi)]at h1
  rw[qd hi]at h2
  exact h.2 i c x h1 h2
 ·rw[qf (by rw[h.1];omega)]at h1
  rw[qf (by omega)]at h2
  have hi0:i-ls.length=0:=by
   have:=(q8.1 h2).1
   simp at this;omega
  rw[h.1,hi0]at h1
  rw[hi0]at h2
  simp at h1 h2
  subst h1;subst h2
  exact⟨j,g,rfl,hj⟩
theorem HeldR.cl (D:CellsD hd en) {b:Nat} {hx:List O} {ls:List (β × List α)} {cells:List (List V)} (h:HeldR sz hd en b hx ls cells) {n:Nat} (hn:b+hx.length<=n):∀el∈cells,∀x∈el,x.cl n=true:=by
 intro el hel x hx'
 obtain⟨i,hi⟩:=qq hel
 have hlt:=(q8.1 hi).1
 obtain⟨j,g,rfl,h4⟩:=h.2 i el _ hi (q9 (by rw[<- h.1];exact hlt))
 have:=(q8.1 h4).1
 rcases qg.1 hx' with hx' | hx'
 ·exact Kg n (D.h2 _ x hx')
 ·simp at hx';subst hx'
  simp[V.cl,V.cl1,V.cl0];omega
theorem Qjo (D:CellsD hd en) (l:List α):∀el∈l.map en,∀x∈el,x.isD=true:=by
 intro el hel x hx
 obtain⟨a,_,rfl⟩:=qo.1 hel
 exact D.e1 a x hx
theorem Qbk (D:CellsD hd en) (l:List α) (n:Nat):∀el∈l.map en,∀x∈el,x.cl n=true:=λel hel x hx=>Kg n (Qjo D l el hel x hx)
def Qll (sz:Nat) (hd:β->List V) (en:α->List V) (l:β × List α):List V:=hd l.1++[.l sz (l.2.map en)]
theorem HeldR.frz (D:CellsD hd en) {b:Nat} {base hx:List O} {ls:List (β × List α)} {cells:List (List V)} (h:HeldR sz hd en b hx ls cells) (hb:base.length=b):cells.mapM (λel=>el.mapM (Em (base++hx)))=some (ls.map (Qll sz hd en)):=by
 induction cells generalizing ls with
 | nil =>
   have:=h.1
   simp at this
   obtain rfl:=List.length_eq_zero_iff.1 this.symm
   rfl
 | cons c cells ih =>
   have hl:=h.1
   cases ls with
   | nil=>simp at hl
   | cons l ls =>
     have h0:=h.2 0 c l rfl rfl
     obtain⟨j,g,rfl,hj⟩:=h0
     have ht:HeldR sz hd en b hx ls cells:=⟨by simpa using hl,λi c x h1 h2=>h.2 (i+1) c x (by simpa using h1) (by simpa using h2)⟩
     have hg:(base++hx)[b+j]?=some (.arr g sz (l.2.map en)):=by rw[<- hb,Qf];exact hj
     have ha:(l.2.map en).all (λx=>x.all V.isD)=true:=by
      rw[qj]
      exact λel hel=>qj.2 (Qjo D l.2 el hel)
     have hlen:(l.2.map en).length=l.2.length:=by simp
     have hfr:Em (base++hx) (.own (b+j) g 0 l.2.length)=some (.l sz (l.2.map en)):=by
      have ht2:List.take l.2.length (l.2.map en)=l.2.map en:=qe (by omega)
      simp only[Em,X1,hg]
      rw[List.drop_zero,ht2,if_pos ⟨trivial,by omega,ha⟩]
     have hrow:(hd l.1++[V.own (b+j) g 0 l.2.length]).mapM (Em (base++hx))=some (Qll sz hd en l):=by
      rw[List.mapM_append,D.h1]
      simp[List.mapM_cons,hfr,Qll]
     rw[List.mapM_cons,hrow,ih ht]
     rfl
theorem Qf4 (D:CellsD hd en) {b rz:Nat} {base hx:List O} {ls:List (β × List α)} {cells:List (List V)} (h:HeldR sz hd en b hx ls cells) (hb:base.length=b) :
  (if ls.length<=cells.length then Option.map (V.l rz) (List.mapM (λel=>List.mapM (Em (base++hx)) el) (List.take ls.length cells)) else none)=some (.l rz (ls.map (Qll sz hd en))):=by
 have h1:=h.frz D hb
 have ht:List.take ls.length cells=cells:=qe (by rw[h.1];exact Nat.le_refl _)
 simp only[ht,h1,h.1,Nat.le_refl,if_true,Option.map_some]
end
def W6 (l:List Sg4) (g:Nat->Bool):List Eg:=neE (((List.range l.length).filter λi=>!g i).map λi=>(Yb l i).eg)
theorem Yc {l:List Sg4} {i:Nat} (h:i<l.length):l[i]?=some (Yb l i):=by unfold Yb;rw[q9 h];rfl
theorem Q0t (l:List Sg4):W6 l (λ_=>false)=neE (egs l):=by
 unfold W6 egs
 congr 1
 rw[List.filter_eq_self.2 (by simp)]
 apply qy
 intro i
 rw[qp,qp]
 by_cases h:i<l.length
 ·rw[jn h,Yc h];rfl
 ·rw[qk (by simp;omega),qk (by omega)];rfl
theorem rem_mem {l:List Sg4} {g:Nat->Bool} {e:Eg}:e∈W6 l g↔∃i,i<l.length/\g i=false/\(Yb l i).eg=e/\e.1≠e.2:=by
 unfold W6 neE
 rw[qu,qo]
 constructor
 ·rintro⟨⟨i,hi,rfl⟩,h2⟩
  obtain⟨h3,h4⟩:=qu.1 hi
  exact⟨i,qz.1 h3,by simpa using h4,rfl,by simpa using h2⟩
 ·rintro⟨i,h1,h2,rfl,h3⟩
  exact⟨⟨i,qu.2 ⟨qz.2 h1,by simp[h2]⟩,rfl⟩,by simpa using h3⟩
def mkD (g:Nat->Bool) (i:Nat):Nat->Bool:=λj=>if j=i then true else g j
theorem Qfg {l:List Nat} (hn:l.Nodup) {i:Nat} {p:Nat->Bool} (hi:i∈l) (hp:p i=true):(l.filter p).Perm (i::l.filter λj=>if j=i then false else p j):=by
 have h1:i∈l.filter p:=qu.2 ⟨hi,hp⟩
 have h2:=List.perm_cons_erase h1
 have h3:(l.filter p).Nodup:=hn.filter _
 rw[h3.erase_eq_filter,List.filter_filter]at h2
 have h4:(λa=>a != i && p a)=λj=>if j=i then false else p j:=by
  funext j
  by_cases hj:j=i<;>simp[hj]
 rw[h4]at h2
 exact h2
theorem Qpi {l:List Sg4} {g:Nat->Bool} {i:Nat} (hi:i<l.length) (hg:g i=false) (hne:(Yb l i).eg.1≠(Yb l i).eg.2):(W6 l g).Perm ((Yb l i).eg::W6 l (mkD g i)):=by
 have h1:=Qfg (p:=λi=>!g i) List.nodup_range (qz.2 hi) (by simp[hg])
 have h2:=(h1.map λi=>(Yb l i).eg).filter λe=>decide (e.1≠e.2)
 rw[List.map_cons,List.filter_cons,if_pos (by simpa using hne)]at h2
 have h3:(λj=>if j=i then false else !g j)=λj=>!(mkD g i j):=by
  funext j
  unfold mkD
  by_cases hj:j=i<;>simp[hj]
 rw[h3]at h2
 exact h2
theorem cand_iff {l:List Sg4} {g:Nat->Bool} {st:Bool} {p:P2} {i:Nat}:Q8s l g st p i=true↔i<l.length/\g i=false/\(Yb l i).eg.1≠(Yb l i).eg.2/\(st=false∨(Yb l i).eg.1=p):=by
 unfold Q8s
 by_cases h:i<l.length
 ·rw[Yc h]
  cases st<;>simp[h,and_assoc]
 ·rw[qk (by omega)]
  simp[h]
theorem Qm8 (l:List Sg4) (g:Nat->Bool) (p:P2):(Zw l g false p l.length=-1/\W6 l g=[])∨∃i:Nat,Zw l g false p l.length=(i:Int)/\i<l.length/\g i=false/\(Yb l i).eg.1≠(Yb l i).eg.2:=by
 rcases Ku l g false p l.length with⟨h1,h2⟩ | ⟨i,h1,h2,h3⟩
 ·refine .inl ⟨h1,List.eq_nil_iff_forall_not_mem.2 λe he=>?_⟩
  obtain⟨i,q1,q2,rfl,q4⟩:=rem_mem.1 he
  have:=h2 i q1
  rw[cand_iff.2 ⟨q1,q2,q4,.inl rfl⟩]at this
  simp at this
 ·obtain⟨q1,q2,q3,_⟩:=cand_iff.1 h3
  exact .inr ⟨i,h2,q1,q2,q3⟩
theorem Qhf {l:List Sg4} {g:Nat->Bool} {p:P2} {e:Eg} (he:e∈W6 l g) (hp:e.1=p):∃i:Nat,Zw l g true p l.length=(i:Int)/\i<l.length/\g i=false/\(Yb l i).eg.1≠(Yb l i).eg.2/\(Yb l i).eg.1=p:=by
 rcases Ku l g true p l.length with⟨h1,h2⟩ | ⟨i,h1,h2,h3⟩
 ·obtain⟨i,q1,q2,rfl,q4⟩:=rem_mem.1 he
  have:=h2 i q1
  rw[cand_iff.2 ⟨q1,q2,q4,.inr hp⟩]at this
  simp at this
 ·obtain⟨q1,q2,q3,q4⟩:=cand_iff.1 h3
  refine⟨i,h2,q1,q2,q3,?_⟩
  simpa using q4
theorem pcsD:CellsD (λ_:Unit=>([]:List V)) P2.cs:=⟨λ_ _=>rfl,by simp,λa x hx=>by simp[P2.cs]at hx;rcases hx with rfl | rfl<;>rfl⟩
abbrev Qa4 (b:Nat) (hx:List O) (ps:List (List P2)) (cells:List (List V)):Prop:=HeldR 2 (λ_:Unit=>([]:List V)) P2.cs b hx (ps.map λp=>((),p)) cells
def Q29 (P:Program) (f:FuncId):Prop:=∀l:List Sg4,Qkc l ->
 (¬ Kj (egs l)->CallIs P f [Qp l] (.t [Qb [],.i .i64 12])) /\
 (Kj (egs l)->PureC P f [Qp l] λr=>∃ps:List (List P2),(ps.flatMap Qs).Perm (neE (egs l))/\ps.length<=l.length/\r=.t [Qb ps,.i .i64 0])
def B3 (P:Program) (f:FuncId):Prop:=∀(m:Mesh) (z k:Int),CallIs P f [m.enc,.i .i64 z,.i .i64 k] (.t [rgV (Zd m z k).1,.i .i64 (Zd m z k).2])
theorem Qhb (es:List Eg):neE es=es.filter λe=>decide (e.1≠e.2):=by
 unfold neE
 congr 1
theorem Qe0 {l:List Sg4} (hl:Qkc l) {ps:List (List P2)} (h1:(ps.flatMap Qs).Perm (neE (egs l))) (h2:ps.length<=l.length):PolyOk ps/\∀k,W7 (ps.flatMap Qs) k=W7 (egs l) k:=by
 have hsub:∀e∈neE (egs l),e∈egs l:=λe he=>by
  rw[Qhb]at he
  exact(qu.1 he).1
 refine⟨⟨by have:=hl.1;omega,?_,λe he=>hl.2 e (hsub e (h1.mem_iff.1 he))⟩,λk=>?_⟩
 ·rw[h1.length_eq,Qhb]
  refine Nat.le_trans (jc _ _) ?_
  simp[egs]
  exact hl.1
 ·rw[Qln h1,Qhb,rasR_ne]
section
variable {P:Program} (hm:P.follows .mixedOrders=true)
include hm
theorem Wv {f fe fs fc fr:FuncId} (hf:Q9 P f (L2n.c fe fs fc fr) L2n.r L2n.n) (he:Q2n P fe) (hs:Qo4 P fs) (hc:Q29 P fc) (hr:Eb P fr):B3 P f:=by
 intro m z k
 have hec:=he k 32 1024 (by omega)
 have hsc:=hs m z
 have hso:=sec_ok m z
 have hz:Le1 (V.a [V.nil]) (rgV []):=.inr ⟨_,_,rfl,rfl,Le0.nil 2,trivial⟩
 unfold Zd
 cases hev:Za k 32 1024 with
 | false =>
   rw[hev]at hec
   rw[if_pos rfl]
   refine CallIs.res (r:=.t [.a [.nil],.i .i64 1]) ?_ (.inr ⟨_,_,rfl,rfl,hz,Le1.refl _,trivial⟩)
   refine PureC.is (Q6 hm hf (qh rfl) ?_) rfl
   unfold L2n.c
   simp[go_sem,Mesh.enc,Mesh.cs]
   refine Q4 hec ?_
   simp[go_sem,L2n.r]
   done
 | true =>
   rw[hev]at hec
   rw[if_neg (by simp)]
   unfold secL at hsc
   generalize Ze m z=S at *
   obtain⟨l,e⟩:=S
   simp only at hsc hso ⊢
   by_cases h0:e=0
   case neg =>
    rw[if_pos h0]
    refine CallIs.res (r:=.t [.a [.nil],.i .i64 e]) ?_ (.inr ⟨_,_,rfl,rfl,hz,Le1.refl _,trivial⟩)
    refine PureC.is (Q6 hm hf (qh rfl) ?_) rfl
    have hb:(e != 0)=true:=by simpa using h0
    unfold L2n.c
    simp[go_sem,Mesh.enc,Mesh.cs]
    refine Q4 hec ?_
    simp[go_sem]
    refine Q4 hsc ?_
    simp[go_sem,h0,hb,L2n.r]
    done
   subst h0
   rw[if_neg (by simp)]
   obtain⟨hc1,hc2⟩:=hc l hso
   by_cases hbal:Kj (egs l)
   case neg =>
    rw[if_neg hbal]
    have hcc:=hc1 hbal
    refine CallIs.res (r:=.t [.a [.nil],.i .i64 12]) ?_ (.inr ⟨_,_,rfl,rfl,hz,Le1.refl _,trivial⟩)
    refine PureC.is (Q6 hm hf (qh rfl) ?_) rfl
    unfold L2n.c
    simp[go_sem,Mesh.enc,Mesh.cs]
    refine Q4 hec ?_
    simp[go_sem]
    refine Q4 hsc ?_
    simp[go_sem]
    refine Q4 hcc ?_
    simp[go_sem,L2n.r]
    done
   rw[if_pos hbal]
   have hcc:=hc2 hbal
   refine PureC.is (Q6 hm hf (qh rfl) ?_) rfl
   unfold L2n.c
   simp[go_sem,Mesh.enc,Mesh.cs]
   refine Q4 hec ?_
   simp[go_sem]
   refine Q4 hsc ?_
   simp[go_sem]
   refine (hcc.lift rfl _).mono ?_
   rintro r h' ⟨⟨ps,hp1,hp2,rfl⟩,rfl⟩
   obtain⟨hpo,hpr⟩:=Qe0 hso hp1 hp2
   have hrc:=hr ps k hpo
   unfold X0 at hrc
   rw[if_neg (by rw[hev];simp),hpr]at hrc
   simp[go_sem]
   refine Q4 hrc ?_
   simp[go_sem,rgV,V.cells,V.okA,L2n.r]
theorem Q5a {f fe fs fc fr:FuncId} (hf:Q9 P f (L1o.c fe fs fc fr) L1o.r L1o.n) (he:Q2n P fe) (hs:Qo4 P fs) (hc:Q29 P fc) (hr:Eb P fr):B3 P f:=Wv hm hf he hs hc hr
end
def L1w.c (L0d L2t L0i L3a L1x:FuncId):C :=(.seq (.reg [Au 1 (.box (.t 0)),Ac 2 0]) (.seq (.seq (.reg [Ag 5 2 1,Au 6 (.call L0d [.t 5]),Am 3 6]) (.seq (.reg [Am 7 3,Ak .neq 8 7 0]) (.ite (.t 8) (.seq (.reg [Am 9 3,Am 2 9]) .ret) .skip))) (.seq (.seq (.reg [Ag 10 2 1,Au 11 (.call L2t [.t 10]),Au 12 (.un .not (.t 11))]) (.ite (.t 12) (.seq (.reg [Ac 2 12]) .ret) .skip)) (.seq (.seq (.reg [Ag 13 2 1,Au 14 (.call L0i [.t 13]),Au 15 (.un .not (.t 14))]) (.ite (.t 15) (.seq (.reg [Ac 2 13]) .ret) .skip)) (.seq (.seq (.reg [Af 16 1 1,Al 17 16,An 18 0 17,Ac 19 0]) (.blk 0 (.loop (.seq (.reg [Aj .lss 20 19 18])
 (.seq (.ite (.t 20) .skip (.exit 0)) (.seq (.blk 1 (.seq (.reg [Am 21 19,Am 4 21]) (.seq (.reg [Ag 22 2 1,Am 23 4,Au 24 (.call L3a [.t 22,.t 23])]) (.ite (.t 24) (.seq (.reg [Ac 2 1]) .ret) .skip)))) (.reg [Ad 25 19 1,Am 19 25]))))))) (.seq (.seq (.reg [Ag 26 2 1,Au 27 (.call L1x [.t 26])]) (.ite (.t 27) (.seq (.reg [Ac 2 1]) .ret) .skip)) (.seq (.reg [Ac 2 0]) .ret)))))))
def L1w.r:List Rr:=[.tmp 2]
abbrev L1w.n:Nat:=28
def L1x.c (L2u L0f:FuncId):C :=(.seq (.reg [Au 1 (.box (.t 0)),Ab 2 false]) (.seq (.seq (.reg [Ag 8 2 1,Au 9 (.call L2u [.t 8]),An 10 0 9,Ac 11 0]) (.blk 0 (.loop (.seq (.reg [Aj .lss 12 11 10]) (.seq (.ite (.t 12) .skip (.exit 0)) (.seq (.blk 1 (.seq (.reg [Ai 13 1 9 11,Al 14 13,Am 4 14]) (.seq (.reg [Af 15 0 1,Al 16 15,Au 17 (.build [.nil,.nil] [(0,1,(.t 16))]),Au 5 (.alloc [.nil,.nil]),As 2 5 17]) (.seq (.seq (.reg [Am 18 4,An 19 0 18,Ac 20 0]) (.blk 2 (.loop (.seq (.reg [Aj .lss 21 20 19]) (.seq (.ite (.t 21) .skip (.exit 2)) (.seq (.blk 3 (.seq (.reg [Ai 22 1 18 20,Al 23 22,Am 7 23]) (.drw [
 Af 24 1 5,Al 25 24,Af 26 1 1,Al 27 26,Am 28 7,Ai 29 3 27 28,Ag 30 3 29,Au 31 (.bsi 3 1 [(.i .i64 0),(.i .i64 0),(.i .i64 0)] [(0,(.t 30))]),Au 32 (.app 3 24 (.t 25) (.t 31)),Af 33 1 5,As 1 33 32] []))) (.reg [Ad 34 20 1,Am 20 34]))))))) (.seq (.reg [Ag 35 2 5,Au 36 (.call L0f [.t 35]),Ak .lss 37 36 0]) (.ite (.t 37) (.seq (.reg [Ab 2 true]) .ret) .skip)))))) (.reg [Ad 38 11 1,Am 11 38]))))))) (.seq (.reg [Ab 2 false]) .ret)))
def L1x.r:List Rr:=[.tmp 2]
abbrev L1x.n:Nat:=39
def Q09 (P:Program) (f:FuncId):Prop:=∀v:V3,CallIs P f [v.enc] (.b (v.within 131072))
def Qkh (P:Program) (f:FuncId):Prop:=∀b c:V3,b.valid=true->c.valid=true->CallIs P f [b.enc,c.enc] (crs b c).enc
def DotVC (P:Program) (f:FuncId):Prop:=∀a b:V3,a.valid=true->b.within 8589934592=true->CallIs P f [a.enc,b.enc] (.i .i64 (Qsp a b))
theorem Xp {v:V3} (h:v.valid=true):v.within 131072=true:=by
 have:=V3.valid_iff.1 h
 simp[V3.within];omega
theorem Qdd {v:V3} {a b:Int} (hab:a<=b) (h:v.within a=true):v.within b=true:=by
 simp[V3.within]at h ⊢;omega
theorem Qi6 {b c:V3} (hb:b.valid=true) (hc:c.valid=true):(crs b c).within 8589934592=true:=by
 have:=crs_b hb hc
 simp[V3.within];omega
section
variable {P:Program} (hm:P.follows .mixedOrders=true)
include hm
theorem Qaa {f fw:FuncId} (hf:Q9 P f (L38.c fw) L38.r L38.n) (hw:Jg P fw):Q09 P f:=by
 intro v
 refine PureC.is (Q6 hm hf (qh rfl) ?_) rfl
 unfold L38.c
 simp[go_sem,V3.enc,V3.cs]
 refine Q4 ((hw v 131072 (by omega) (by omega)).is rfl) ?_
 simp[go_sem,L38.r]
theorem Qac {f fs:FuncId} (hf:Q9 P f (L33.c fs) L33.r L33.n) (hs:Q09 P fs):Qkh P f:=by
 intro b c hb hc
 refine PureC.is (Q6 hm hf (qh rfl) ?_) rfl
 unfold L33.c
 have h1:=hs b
 have h2:=hs c
 rw[Xp hb]at h1
 rw[Xp hc]at h2
 obtain⟨b1,b2,b3,b4,b5,b6⟩:=V3.valid_iff.1 hb
 obtain⟨c1,c2,c3,c4,c5,c6⟩:=V3.valid_iff.1 hc
 have m1:=Wo b3 b4 c5 c6
 have m2:=Wo b5 b6 c3 c4
 have m3:=Wo b5 b6 c1 c2
 have m4:=Wo b1 b2 c5 c6
 have m5:=Wo b1 b2 c3 c4
 have m6:=Wo b3 b4 c1 c2
 have hcr:crs b c=⟨b.y*c.z-b.z*c.y,b.z*c.x-b.x*c.z,b.x*c.y-b.y*c.x⟩:=rfl
 rw[hcr]
 simp[go_sem,V3.enc,V3.cs]at h1 h2 ⊢
 refine Q4 h1 ?_
 simp[go_sem]
 refine Q4 h2 ?_
 simp (disch:=omega) [go_sem,Q0,L33.r]
theorem Qgd {f fs fw:FuncId} (hf:Q9 P f (L35.c fs fw) L35.r L35.n) (hs:Q09 P fs) (hw:Jg P fw):DotVC P f:=by
 intro a b ha hb
 refine PureC.is (Q6 hm hf (qh rfl) ?_) rfl
 unfold L35.c
 have h1:=hs a
 have h2:=(hw b 1099511627776 (by omega) (by omega)).is rfl
 rw[Xp ha]at h1
 rw[Qdd (by omega) hb]at h2
 obtain⟨b1,b2,b3,b4,b5,b6⟩:=V3.valid_iff.1 ha
 simp only[V3.within,Bool.and_eq_true,decide_eq_true_eq]at hb
 obtain⟨⟨⟨⟨⟨c1,c2⟩,c3⟩,c4⟩,c5⟩,c6⟩:=hb
 have m1:=Qhc b1 b2 c1 c2
 have m2:=Qhc b3 b4 c3 c4
 have m3:=Qhc b5 b6 c5 c6
 have hd:Qsp a b=a.x*b.x+a.y*b.y+a.z*b.z:=rfl
 rw[hd]
 simp[go_sem,V3.enc,V3.cs]at h1 h2 ⊢
 refine Q4 h1 ?_
 simp[go_sem]
 refine Q4 h2 ?_
 simp (disch:=omega) [go_sem,Q0,L35.r]
theorem Qge {f fs fc fd:FuncId} (hf:Q9 P f (L34.c fs fc fd) L34.r L34.n) (hs:Q09 P fs) (hc:Qkh P fc) (hd:DotVC P fd):DetC P f:=by
 intro x y z hx hy hz
 refine PureC.is (Q6 hm hf (qh rfl) ?_) rfl
 unfold L34.c
 have h1:=hs y
 have h2:=hs z
 rw[Xp hy]at h1
 rw[Xp hz]at h2
 simp[go_sem,V3.enc,V3.cs]at h1 h2 ⊢
 refine Q4 h1 ?_
 simp[go_sem]
 refine Q4 h2 ?_
 simp[go_sem]
 refine Qg (hc y z hy hz) ?_
 simp[go_sem]
 refine Qg (hd x (crs y z) hx (Qi6 hy hz)) ?_
 simp[go_sem,L34.r,Qfi]
theorem Q3y {f fc fd:FuncId} (hf:Q9 P f (L0f.c fc fd) L0f.r L0f.n) (hc:X6 P fc) (hd:DetC P fd):VolC P f:=by
 intro m
 refine PureC.is (Q6 hm hf (qh rfl) ?_) rfl
 unfold L0f.c
 have hv:m.vol6=if m.check=0 then Xa m.verts m.tris else 0:=rfl
 by_cases hz:m.check=0
 case neg =>
  rw[hv,if_neg hz]
  simp[go_sem,Mesh.enc,Mesh.cs]
  refine Q4 (hc m) ?_
  simp[go_sem,hz,L0f.r]
 rw[hv,if_pos hz]
 obtain⟨z1,z2,z3,z4⟩:=Mesh.check_zero.1 hz
 simp[go_sem,Mesh.enc,Mesh.cs]
 refine Q4 (hc m) ?_
 simp[go_sem,hz,vsV,tsV]
 refine Qc (α:=Nat) (λk=>k<=m.tris.length)
  (λk=>⟨[(1,.p 0 1 0 0),(3,.i .i64 (Xa m.verts (m.tris.take k))),(10,tsV m.tris),(11,.i .i64 m.tris.length),(12,.i .i64 k)],[.arr 1 2 [m.cs]]⟩)
  (λk=>m.tris.length-k) 0 (Nat.zero_le _) ?_ ?_
 ·simp[go_sem,Mesh.cs,vsV,tsV,B6]
 ·intro k hk
  by_cases hkl:k=m.tris.length
  ·subst hkl
   rw[qi]
   simp[go_sem,Mesh.cs,vsV,tsV,L0f.r]
  ·have hlt:k<m.tris.length:=by omega
   have hp:m.tris[k]?=some m.tris[k]:=q9 hlt
   generalize m.tris[k]=t at hp
   obtain⟨_,hp'⟩:=q8.1 hp
   have hok:=B7 z4 hp
   obtain⟨a1,a2,b1,b2,c1,c2⟩:=T3.ok_iff.1 hok
   have ga:=Q43 a1 a2
   have gb:=Q43 b1 b2
   have gc:=Q43 c1 c2
   have va:=Ji z3 a1 a2
   have vb:=Ji z3 b1 b2
   have vc:=Ji z3 c1 c2
   have hb1:=Qof z3 (ts:=m.tris.take k) (by
    simp only[Wp,qj]at z4 ⊢
    exact λx hx=>z4 x (jo hx))
   have hb2:=Qoe z3 hok
   have hln:((m.tris.take k).length:Int)<=4096:=by rw[qv];omega
   have hs:Xa m.verts (m.tris.take (k+1))=Xa m.verts (m.tris.take k)+Qdg m.verts t:=by
    rw[List.take_add_one,hp,Qog,Option.toList_some,Um,B6];omega
   have hvt:Qdg m.verts t=Qfi (vAt m.verts t.a) (vAt m.verts t.b) (vAt m.verts t.c):=rfl
   have hdd:=hd _ _ _ va vb vc
   rw[<- hvt]at hdd
   clear hvt
   generalize vAt m.verts t.a=A at *
   generalize vAt m.verts t.b=B at *
   generalize vAt m.verts t.c=C at *
   generalize Xa m.verts (m.tris.take k)=S at *
   generalize Qdg m.verts t=T at *
   obtain⟨ia,ga'⟩:=q8.1 ga
   obtain⟨ib,gb'⟩:=q8.1 gb
   obtain⟨ic,gc'⟩:=q8.1 gc
   simp[go_sem,Mesh.cs,vsV,tsV,hlt,hp,hp',tcs,a1,b1,c1,ga,gb,gc,ia,ib,ic,ga',gb',gc',vcs]
   simp[go_sem,V3.enc,vcs]at hdd
   refine Qg hdd ?_
   simp (disch:=omega) [go_sem,Q0]
   refine⟨k+1,by omega,by omega,?_⟩
   exact⟨hs.symm,by omega⟩
end
theorem Qeg {ts:List T3} {sh:List Int} {j:Nat} {v:Int} (h:sh[j]?=some v):Zm ts (sh.take (j+1))=Zm ts (sh.take j)++[tAt ts v.toNat]:=by
 unfold Zm;rw[Qa h,qx];rfl
theorem Q5p (ts:List T3) (sh:List Int):(Zm ts sh).length=sh.length:=by simp[Zm]
end Go.Abs
