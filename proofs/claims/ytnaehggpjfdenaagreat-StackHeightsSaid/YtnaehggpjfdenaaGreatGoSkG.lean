/- Part of the library on which the proof stands: an abstract machine, its values and its soundness against the model; or what functions of the program do to such values. -/
import Derived.Test.YtnaehggpjfdenaaGreatGoStA
import Derived.Test.YtnaehggpjfdenaaGreatGoTo
import Derived.Test.YtnaehggpjfdenaaGreatGoMapG
import Derived.Test.YtnaehggpjfdenaaGreatGoShpD
import Derived.Test.YtnaehggpjfdenaaGreatGoSecF
import Derived.Test.YtnaehggpjfdenaaGreatGoShp
import Derived.Test.YtnaehggpjfdenaaGreatGoShpN
import Derived.Test.YtnaehggpjfdenaaGreatGoStD
set_option linter.unusedVariables false
set_option linter.unusedSimpArgs false
set_option maxHeartbeats 16000000
set_option maxRecDepth 20000
namespace Go.Abs
def Et (es:List Eg) (p:P2):Int:=(es.countP (λe=>decide (e.1=p)):Int)-es.countP (λe=>decide (e.2=p))
def Qc5 (es:List Eg):Bool:=es.all λe=>decide (Et es e.1=0) && decide (Et es e.2=0)
theorem balB_iff {es:List Eg}:Qc5 es=true↔Ba es:=by
 unfold Qc5
 rw[qj]
 constructor
 ·intro h p
  by_cases hp:(∃e∈es,e.1=p)∨∃e∈es,e.2=p
  ·have:Et es p=0:=by
    rcases hp with⟨e,he,rfl⟩ | ⟨e,he,rfl⟩
    ·have:=h e he;simp only[Bool.and_eq_true,decide_eq_true_eq]at this;exact this.1
    ·have:=h e he;simp only[Bool.and_eq_true,decide_eq_true_eq]at this;exact this.2
   unfold Et at this;omega
  ·have h1:es.countP (λe=>decide (e.1=p))=0:=List.countP_eq_zero.2 λe he=>by
    simp only[decide_eq_true_eq];exact λhh=>hp (.inl ⟨e,he,hh⟩)
   have h2:es.countP (λe=>decide (e.2=p))=0:=List.countP_eq_zero.2 λe he=>by
    simp only[decide_eq_true_eq];exact λhh=>hp (.inr ⟨e,he,hh⟩)
   rw[h1,h2]
 ·intro h e he
  have h1:=h e.1
  have h2:=h e.2
  simp only[Bool.and_eq_true,decide_eq_true_eq]
  unfold Et
  omega
def Qqj (P:Program) (f:FuncId):Prop:=∀l:List Sg4,l.length<=4096->CallIs P f [Y7 l] (.b (Qc5 (egs l)))
theorem Q2d (l:List Sg4):(egs l).length=l.length:=by simp[egs]
theorem Qje (es:List Eg) (e:Eg) (p:P2):Et (es++[e]) p=Et es p+(if e.1=p then 1 else 0)-(if e.2=p then 1 else 0):=by
 unfold Et
 rw[List.countP_append,List.countP_append,List.countP_singleton,List.countP_singleton]
 by_cases h1:e.1=p<;>by_cases h2:e.2=p<;>simp[h1,h2]<;>omega
theorem Qgg (es:List Eg) (p:P2):-(es.length:Int)<=Et es p/\Et es p<=es.length:=by
 unfold Et
 have h1:=List.countP_le_length (p:=λe:Eg=>decide (e.1=p)) (l:=es)
 have h2:=List.countP_le_length (p:=λe:Eg=>decide (e.2=p)) (l:=es)
 omega
theorem p2_iff {a b:P2}:a=b↔a.x=b.x/\a.y=b.y:=by cases a;cases b;simp
theorem Qa3 (l:List Sg4) {k:Nat} {s:Sg4} (h:l[k]?=some s):egs (l.take (k+1))=egs (l.take k)++[s.eg]:=by
 unfold egs;rw[List.take_add_one,h];simp
def Qd4 (l:List Sg4) (i:Nat):Sg4:=(l[i]?).getD Sg4.init
section
variable {α β:Type}
def HeldR (sz:Nat) (hd:β->List V) (en:α->List V) (b:Nat) (hx:List O) (ls:List (β × List α)) (cells:List (List V)):Prop :=
 cells.length=ls.length/\∀(i:Nat) (c:List V) (l:β × List α),cells[i]?=some c->ls[i]?=some l->∃j g,c=hd l.1++[.own (b+j) g 0 l.2.length]/\hx[j]?=some (.arr g sz (l.2.map en))
structure CellsD (hd:β->List V) (en:α->List V):Prop where
 h1:∀b h,(hd b).mapM (Uj h)=some (hd b)
 h2:∀b,∀x∈hd b,x.isD=true
 e1:∀a,∀x∈en a,x.isD=true
variable {sz:Nat} {hd:β->List V} {en:α->List V}
theorem HeldR.nil (b:Nat):HeldR sz hd en b [] [] []:=⟨rfl,by simp⟩
theorem HeldR.app {b:Nat} {hx:List O} {ls:List (β × List α)} {cells:List (List V)} (h:HeldR sz hd en b hx ls cells) (l:List O):HeldR sz hd en b (hx++l) ls cells :=
 ⟨h.1,λi c x h1 h2=>by obtain⟨j,g,h3,h4⟩:=h.2 i c x h1 h2;exact⟨j,g,h3,by rw[qd (q8.1 h4).1];exact h4⟩⟩
theorem HeldR.snoc {b:Nat} {hx:List O} {ls:List (β × List α)} {cells:List (List V)} (h:HeldR sz hd en b hx ls cells) {j g:Nat} {l:β × List α} (hj:hx[j]?=some (.arr g sz (l.2.map en))):HeldR sz hd en b hx (ls++[l]) (cells++[hd l.1++[.own (b+j) g 0 l.2.length]]):=by
 refine⟨by simp[h.1],λi c x h1 h2=>?_⟩
 by_cases hi:i<ls.length
 ·rw[qd (by rw[h.1];exact hi)]at h1
  rw[qd hi]at h2
  exact h.2 i c x h1 h2
 ·rw[qf (by rw[h.1];omega)]at h1
  rw[qf (by omega)]at h2
  have hi0:i-ls.length=0:=by
   have:=(q8.1 h2).1
   simp at this;omega
  rw[h.1,hi0]at h1
  rw[hi0]at h2
  simp at h1 h2
  subst h1;subst h2
  exact⟨j,g,rfl,hj⟩
theorem HeldR.cl (D:CellsD hd en) {b:Nat} {hx:List O} {ls:List (β × List α)} {cells:List (List V)} (h:HeldR sz hd en b hx ls cells) {n:Nat} (hn:b+hx.length<=n):∀el∈cells,∀x∈el,x.cl n=true:=by
 intro el hel x hx'
 obtain⟨i,hi⟩:=qq hel
 have hlt:=(q8.1 hi).1
 obtain⟨j,g,rfl,h4⟩:=h.2 i el _ hi (q9 (by rw[<- h.1];exact hlt))
 have:=(q8.1 h4).1
 rcases qg.1 hx' with hx' | hx'
 ·exact Kk n (D.h2 _ x hx')
 ·simp at hx';subst hx'
  simp[V.cl,V.cl1,V.cl0];omega
theorem Qfx (D:CellsD hd en) (l:List α):∀el∈l.map en,∀x∈el,x.isD=true:=by
 intro el hel x hx
 obtain⟨a,_,rfl⟩:=qo.1 hel
 exact D.e1 a x hx
theorem Qds (D:CellsD hd en) (l:List α) (n:Nat):∀el∈l.map en,∀x∈el,x.cl n=true:=λel hel x hx=>Kk n (Qfx D l el hel x hx)
def Qle (sz:Nat) (hd:β->List V) (en:α->List V) (l:β × List α):List V:=hd l.1++[.l sz (l.2.map en)]
theorem HeldR.frz (D:CellsD hd en) {b:Nat} {base hx:List O} {ls:List (β × List α)} {cells:List (List V)} (h:HeldR sz hd en b hx ls cells) (hb:base.length=b):cells.mapM (λel=>el.mapM (Uj (base++hx)))=some (ls.map (Qle sz hd en)):=by
 induction cells generalizing ls with
 | nil =>
   have:=h.1
   simp at this
   obtain rfl:=List.length_eq_zero_iff.1 this.symm
   rfl
 | cons c cells ih =>
   have hl:=h.1
   cases ls with
   | nil=>simp at hl
   | cons l ls =>
     have h0:=h.2 0 c l rfl rfl
     obtain⟨j,g,rfl,hj⟩:=h0
     have ht:HeldR sz hd en b hx ls cells:=⟨by simpa using hl,λi c x h1 h2=>h.2 (i+1) c x (by simpa using h1) (by simpa using h2)⟩
     have hg:(base++hx)[b+j]?=some (.arr g sz (l.2.map en)):=by rw[<- hb,Qd];exact hj
     have ha:(l.2.map en).all (λx=>x.all V.isD)=true:=by
      rw[qj]
      exact λel hel=>qj.2 (Qfx D l.2 el hel)
     have hlen:(l.2.map en).length=l.2.length:=by simp
     have hfr:Uj (base++hx) (.own (b+j) g 0 l.2.length)=some (.l sz (l.2.map en)):=by
      have ht2:List.take l.2.length (l.2.map en)=l.2.map en:=qe (by omega)
      simp only[Uj,X6,hg]
      rw[List.drop_zero,ht2,if_pos ⟨trivial,by omega,ha⟩]
     have hrow:(hd l.1++[V.own (b+j) g 0 l.2.length]).mapM (Uj (base++hx))=some (Qle sz hd en l):=by
      rw[List.mapM_append,D.h1]
      simp[List.mapM_cons,hfr,Qle]
     rw[List.mapM_cons,hrow,ih ht]
     rfl
theorem Qna (D:CellsD hd en) {b rz:Nat} {base hx:List O} {ls:List (β × List α)} {cells:List (List V)} (h:HeldR sz hd en b hx ls cells) (hb:base.length=b) :
  (if ls.length<=cells.length then Option.map (V.l rz) (List.mapM (λel=>List.mapM (Uj (base++hx)) el) (List.take ls.length cells)) else none)=some (.l rz (ls.map (Qle sz hd en))):=by
 have h1:=h.frz D hb
 have ht:List.take ls.length cells=cells:=qe (by rw[h.1];exact Nat.le_refl _)
 simp only[ht,h1,h.1,Nat.le_refl,if_true,Option.map_some]
end
theorem W3 {l:List Sg4} {i:Nat} (h:i<l.length):l[i]?=some (Qd4 l i):=by unfold Qd4;rw[q9 h];rfl
theorem Qlm:CellsD (λ_:Unit=>([]:List V)) P2.cs:=⟨λ_ _=>rfl,by simp,λa x hx=>by simp[P2.cs]at hx;rcases hx with rfl | rfl<;>rfl⟩
abbrev Qq0 (b:Nat) (hx:List O) (ps:List (List P2)) (cells:List (List V)):Prop:=HeldR 2 (λ_:Unit=>([]:List V)) P2.cs b hx (ps.map λp=>((),p)) cells
def Qfd (P:Program) (f:FuncId):Prop:=∀l:List Sg4,Qgj l ->
 (¬ Ba (egs l)->CallIs P f [Y7 l] (.t [Qs [],.i .i64 12])) /\
 (Ba (egs l)->PureC P f [Y7 l] λr=>∃ps:List (List P2),(ps.flatMap Z7).Perm (neE (egs l))/\ps.length<=l.length/\r=.t [Qs ps,.i .i64 0])
def Qex (P:Program) (f:FuncId):Prop:=∀(m:Mesh) (z k:Int),CallIs P f [m.enc,.i .i64 z,.i .i64 k] (.t [rgV (Zb m z k).1,.i .i64 (Zb m z k).2])
theorem Qdn (es:List Eg):neE es=es.filter λe=>decide (e.1≠e.2):=by
 unfold neE
 congr 1
theorem Qai {l:List Sg4} (hl:Qgj l) {ps:List (List P2)} (h1:(ps.flatMap Z7).Perm (neE (egs l))) (h2:ps.length<=l.length):PolyOk ps/\∀k,Uc (ps.flatMap Z7) k=Uc (egs l) k:=by
 have hsub:∀e∈neE (egs l),e∈egs l:=λe he=>by
  rw[Qdn]at he
  exact(qu.1 he).1
 refine⟨⟨by have:=hl.1;omega,?_,λe he=>hl.2 e (hsub e (h1.mem_iff.1 he))⟩,λk=>?_⟩
 ·rw[h1.length_eq,Qdn]
  refine Nat.le_trans (j8 _ _) ?_
  simp[egs]
  exact hl.1
 ·rw[Qhw h1,Qdn,rasR_ne]
section
variable {P:Program} (hm:P.follows .mixedOrders=true)
include hm
theorem Q2s {f fe fs fc fr:FuncId} (hf:Q9 P f (L1v.c fe fs fc fr) L1v.r L1v.n) (he:Q13 P fe) (hs:SecC P fs) (hc:Qfd P fc) (hr:Q9c P fr):Qex P f:=by
 intro m z k
 have hec:=he k 32 1024 (by omega)
 have hsc:=hs m z
 have hso:=sec_ok m z
 have hz:Le1 (V.a [V.nil]) (rgV []):=.inr ⟨_,_,rfl,rfl,Le0.nil 2,trivial⟩
 unfold Zb
 cases hev:Zh k 32 1024 with
 | false =>
   rw[hev]at hec
   rw[if_pos rfl]
   refine CallIs.res (r:=.t [.a [.nil],.i .i64 1]) ?_ (.inr ⟨_,_,rfl,rfl,hz,Le1.refl _,trivial⟩)
   refine PureC.is (Q8 hm hf (qh rfl) ?_) rfl
   unfold L1v.c
   simp[go_sem,Mesh.enc,Mesh.cs]
   refine Q5 hec ?_
   simp[go_sem,L1v.r]
   done
 | true =>
   rw[hev]at hec
   rw[if_neg (by simp)]
   unfold secL at hsc
   generalize Zr m z=S at *
   obtain⟨l,e⟩:=S
   simp only at hsc hso ⊢
   by_cases h0:e=0
   case neg =>
    rw[if_pos h0]
    refine CallIs.res (r:=.t [.a [.nil],.i .i64 e]) ?_ (.inr ⟨_,_,rfl,rfl,hz,Le1.refl _,trivial⟩)
    refine PureC.is (Q8 hm hf (qh rfl) ?_) rfl
    have hb:(e != 0)=true:=by simpa using h0
    unfold L1v.c
    simp[go_sem,Mesh.enc,Mesh.cs]
    refine Q5 hec ?_
    simp[go_sem]
    refine Q5 hsc ?_
    simp[go_sem,h0,hb,L1v.r]
    done
   subst h0
   rw[if_neg (by simp)]
   obtain⟨hc1,hc2⟩:=hc l hso
   by_cases hbal:Ba (egs l)
   case neg =>
    rw[if_neg hbal]
    have hcc:=hc1 hbal
    refine CallIs.res (r:=.t [.a [.nil],.i .i64 12]) ?_ (.inr ⟨_,_,rfl,rfl,hz,Le1.refl _,trivial⟩)
    refine PureC.is (Q8 hm hf (qh rfl) ?_) rfl
    unfold L1v.c
    simp[go_sem,Mesh.enc,Mesh.cs]
    refine Q5 hec ?_
    simp[go_sem]
    refine Q5 hsc ?_
    simp[go_sem]
    refine Q5 hcc ?_
    simp[go_sem,L1v.r]
    done
   rw[if_pos hbal]
   have hcc:=hc2 hbal
   refine PureC.is (Q8 hm hf (qh rfl) ?_) rfl
   unfold L1v.c
   simp[go_sem,Mesh.enc,Mesh.cs]
   refine Q5 hec ?_
   simp[go_sem]
   refine Q5 hsc ?_
   simp[go_sem]
   refine (hcc.lift rfl _).mono ?_
   rintro r h' ⟨⟨ps,hp1,hp2,rfl⟩,rfl⟩
   obtain⟨hpo,hpr⟩:=Qai hso hp1 hp2
   have hrc:=hr ps k hpo
   unfold Kh at hrc
   rw[if_neg (by rw[hev];simp),hpr]at hrc
   simp[go_sem]
   refine Q5 hrc ?_
   simp[go_sem,rgV,V.cells,V.okA,L1v.r]
end
def L14.c (L0c L21 L0h L2i L15:FuncId):C :=(.seq (.reg [Au 1 (.box (.t 0)),Ac 2 0]) (.seq (.seq (.reg [Ag 5 2 1,Au 6 (.call L0c [.t 5]),Am 3 6]) (.seq (.reg [Am 7 3,Ak .neq 8 7 0]) (.ite (.t 8) (.seq (.reg [Am 9 3,Am 2 9]) .ret) .skip))) (.seq (.seq (.reg [Ag 10 2 1,Au 11 (.call L21 [.t 10]),Au 12 (.un .not (.t 11))]) (.ite (.t 12) (.seq (.reg [Ac 2 12]) .ret) .skip)) (.seq (.seq (.reg [Ag 13 2 1,Au 14 (.call L0h [.t 13]),Au 15 (.un .not (.t 14))]) (.ite (.t 15) (.seq (.reg [Ac 2 13]) .ret) .skip)) (.seq (.seq (.reg [Af 16 1 1,Al 17 16,An 18 0 17,Ac 19 0]) (.blk 0 (.loop (.seq (.reg [Aj .lss 20 19 18])
 (.seq (.ite (.t 20) .skip (.exit 0)) (.seq (.blk 1 (.seq (.reg [Am 21 19,Am 4 21]) (.seq (.reg [Ag 22 2 1,Am 23 4,Au 24 (.call L2i [.t 22,.t 23])]) (.ite (.t 24) (.seq (.reg [Ac 2 1]) .ret) .skip)))) (.reg [Ad 25 19 1,Am 19 25]))))))) (.seq (.seq (.reg [Ag 26 2 1,Au 27 (.call L15 [.t 26])]) (.ite (.t 27) (.seq (.reg [Ac 2 1]) .ret) .skip)) (.seq (.reg [Ac 2 0]) .ret)))))))
def L14.r:List Rr:=[.tmp 2]
abbrev L14.n:Nat:=28
def L15.c (L22 L0e:FuncId):C :=(.seq (.reg [Au 1 (.box (.t 0)),Ab 2 false]) (.seq (.seq (.reg [Ag 8 2 1,Au 9 (.call L22 [.t 8]),An 10 0 9,Ac 11 0]) (.blk 0 (.loop (.seq (.reg [Aj .lss 12 11 10]) (.seq (.ite (.t 12) .skip (.exit 0)) (.seq (.blk 1 (.seq (.reg [Ai 13 1 9 11,Al 14 13,Am 4 14]) (.seq (.reg [Af 15 0 1,Al 16 15,Au 17 (.build [.nil,.nil] [(0,1,(.t 16))]),Au 5 (.alloc [.nil,.nil]),As 2 5 17]) (.seq (.seq (.reg [Am 18 4,An 19 0 18,Ac 20 0]) (.blk 2 (.loop (.seq (.reg [Aj .lss 21 20 19]) (.seq (.ite (.t 21) .skip (.exit 2)) (.seq (.blk 3 (.seq (.reg [Ai 22 1 18 20,Al 23 22,Am 7 23]) (.drw [
 Af 24 1 5,Al 25 24,Af 26 1 1,Al 27 26,Am 28 7,Ai 29 3 27 28,Ag 30 3 29,Au 31 (.bsi 3 1 [(.i .i64 0),(.i .i64 0),(.i .i64 0)] [(0,(.t 30))]),Au 32 (.app 3 24 (.t 25) (.t 31)),Af 33 1 5,As 1 33 32] []))) (.reg [Ad 34 20 1,Am 20 34]))))))) (.seq (.reg [Ag 35 2 5,Au 36 (.call L0e [.t 35]),Ak .lss 37 36 0]) (.ite (.t 37) (.seq (.reg [Ab 2 true]) .ret) .skip)))))) (.reg [Ad 38 11 1,Am 11 38]))))))) (.seq (.reg [Ab 2 false]) .ret)))
def L15.r:List Rr:=[.tmp 2]
abbrev L15.n:Nat:=39
def B8 (P:Program) (f:FuncId):Prop:=∀v:V3,CallIs P f [v.enc] (.b (v.within 131072))
def Qgo (P:Program) (f:FuncId):Prop:=∀b c:V3,b.valid=true->c.valid=true->CallIs P f [b.enc,c.enc] (crs b c).enc
def DotVC (P:Program) (f:FuncId):Prop:=∀a b:V3,a.valid=true->b.within 8589934592=true->CallIs P f [a.enc,b.enc] (.i .i64 (Qoj a b))
theorem Xc {v:V3} (h:v.valid=true):v.within 131072=true:=by
 have:=V3.valid_iff.1 h
 simp[V3.within];omega
theorem Q9u {v:V3} {a b:Int} (hab:a<=b) (h:v.within a=true):v.within b=true:=by
 simp[V3.within]at h ⊢;omega
theorem Qei {b c:V3} (hb:b.valid=true) (hc:c.valid=true):(crs b c).within 8589934592=true:=by
 have:=crs_b hb hc
 simp[V3.within];omega
section
variable {P:Program} (hm:P.follows .mixedOrders=true)
include hm
theorem Q72 {f fw:FuncId} (hf:Q9 P f (L2g.c fw) L2g.r L2g.n) (hw:U8 P fw):B8 P f:=by
 intro v
 refine PureC.is (Q8 hm hf (qh rfl) ?_) rfl
 unfold L2g.c
 simp[go_sem,V3.enc,V3.cs]
 refine Q5 ((hw v 131072 (by omega) (by omega)).is rfl) ?_
 simp[go_sem,L2g.r]
theorem Q74 {f fs:FuncId} (hf:Q9 P f (L2b.c fs) L2b.r L2b.n) (hs:B8 P fs):Qgo P f:=by
 intro b c hb hc
 refine PureC.is (Q8 hm hf (qh rfl) ?_) rfl
 unfold L2b.c
 have h1:=hs b
 have h2:=hs c
 rw[Xc hb]at h1
 rw[Xc hc]at h2
 obtain⟨b1,b2,b3,b4,b5,b6⟩:=V3.valid_iff.1 hb
 obtain⟨c1,c2,c3,c4,c5,c6⟩:=V3.valid_iff.1 hc
 have m1:=Kw b3 b4 c5 c6
 have m2:=Kw b5 b6 c3 c4
 have m3:=Kw b5 b6 c1 c2
 have m4:=Kw b1 b2 c5 c6
 have m5:=Kw b1 b2 c3 c4
 have m6:=Kw b3 b4 c1 c2
 have hcr:crs b c=⟨b.y*c.z-b.z*c.y,b.z*c.x-b.x*c.z,b.x*c.y-b.y*c.x⟩:=rfl
 rw[hcr]
 simp[go_sem,V3.enc,V3.cs]at h1 h2 ⊢
 refine Q5 h1 ?_
 simp[go_sem]
 refine Q5 h2 ?_
 simp (disch:=omega) [go_sem,Q3,L2b.r]
theorem Qcm {f fs fw:FuncId} (hf:Q9 P f (L2d.c fs fw) L2d.r L2d.n) (hs:B8 P fs) (hw:U8 P fw):DotVC P f:=by
 intro a b ha hb
 refine PureC.is (Q8 hm hf (qh rfl) ?_) rfl
 unfold L2d.c
 have h1:=hs a
 have h2:=(hw b 1099511627776 (by omega) (by omega)).is rfl
 rw[Xc ha]at h1
 rw[Q9u (by omega) hb]at h2
 obtain⟨b1,b2,b3,b4,b5,b6⟩:=V3.valid_iff.1 ha
 simp only[V3.within,Bool.and_eq_true,decide_eq_true_eq]at hb
 obtain⟨⟨⟨⟨⟨c1,c2⟩,c3⟩,c4⟩,c5⟩,c6⟩:=hb
 have m1:=Qdp b1 b2 c1 c2
 have m2:=Qdp b3 b4 c3 c4
 have m3:=Qdp b5 b6 c5 c6
 have hd:Qoj a b=a.x*b.x+a.y*b.y+a.z*b.z:=rfl
 rw[hd]
 simp[go_sem,V3.enc,V3.cs]at h1 h2 ⊢
 refine Q5 h1 ?_
 simp[go_sem]
 refine Q5 h2 ?_
 simp (disch:=omega) [go_sem,Q3,L2d.r]
theorem Qcn {f fs fc fd:FuncId} (hf:Q9 P f (L2c.c fs fc fd) L2c.r L2c.n) (hs:B8 P fs) (hc:Qgo P fc) (hd:DotVC P fd):DetC P f:=by
 intro x y z hx hy hz
 refine PureC.is (Q8 hm hf (qh rfl) ?_) rfl
 unfold L2c.c
 have h1:=hs y
 have h2:=hs z
 rw[Xc hy]at h1
 rw[Xc hz]at h2
 simp[go_sem,V3.enc,V3.cs]at h1 h2 ⊢
 refine Q5 h1 ?_
 simp[go_sem]
 refine Q5 h2 ?_
 simp[go_sem]
 refine Qo (hc y z hy hz) ?_
 simp[go_sem]
 refine Qo (hd x (crs y z) hx (Qei hy hz)) ?_
 simp[go_sem,L2c.r,Qbt]
theorem Q22 {f fc fd:FuncId} (hf:Q9 P f (L0e.c fc fd) L0e.r L0e.n) (hc:Jo P fc) (hd:DetC P fd):VolC P f:=by
 intro m
 refine PureC.is (Q8 hm hf (qh rfl) ?_) rfl
 unfold L0e.c
 have hv:m.vol6=if m.check=0 then Yx m.verts m.tris else 0:=rfl
 by_cases hz:m.check=0
 case neg =>
  rw[hv,if_neg hz]
  simp[go_sem,Mesh.enc,Mesh.cs]
  refine Q5 (hc m) ?_
  simp[go_sem,hz,L0e.r]
 rw[hv,if_pos hz]
 obtain⟨z1,z2,z3,z4⟩:=Mesh.check_zero.1 hz
 simp[go_sem,Mesh.enc,Mesh.cs]
 refine Q5 (hc m) ?_
 simp[go_sem,hz,vsV,tsV]
 refine Qh (α:=Nat) (λk=>k<=m.tris.length)
  (λk=>⟨[(1,.p 0 1 0 0),(3,.i .i64 (Yx m.verts (m.tris.take k))),(10,tsV m.tris),(11,.i .i64 m.tris.length),(12,.i .i64 k)],[.arr 1 2 [m.cs]]⟩)
  (λk=>m.tris.length-k) 0 (Nat.zero_le _) ?_ ?_
 ·simp[go_sem,Mesh.cs,vsV,tsV,I0]
 ·intro k hk
  by_cases hkl:k=m.tris.length
  ·subst hkl
   rw[qi]
   simp[go_sem,Mesh.cs,vsV,tsV,L0e.r]
  ·have hlt:k<m.tris.length:=by omega
   have hp:m.tris[k]?=some m.tris[k]:=q9 hlt
   generalize m.tris[k]=t at hp
   obtain⟨_,hp'⟩:=q8.1 hp
   have hok:=Q2m z4 hp
   obtain⟨a1,a2,b1,b2,c1,c2⟩:=T3.ok_iff.1 hok
   have ga:=Q26 a1 a2
   have gb:=Q26 b1 b2
   have gc:=Q26 c1 c2
   have va:=Xx z3 a1 a2
   have vb:=Xx z3 b1 b2
   have vc:=Xx z3 c1 c2
   have hb1:=Qkd z3 (ts:=m.tris.take k) (by
    simp only[W2,qj]at z4 ⊢
    exact λx hx=>z4 x (List.mem_of_mem_take hx))
   have hb2:=Qkc z3 hok
   have hln:((m.tris.take k).length:Int)<=4096:=by rw[qv];omega
   have hs:Yx m.verts (m.tris.take (k+1))=Yx m.verts (m.tris.take k)+Q9x m.verts t:=by
    rw[List.take_add_one,hp,Qke,Option.toList_some,Wr,I0];omega
   have hvt:Q9x m.verts t=Qbt (vAt m.verts t.a) (vAt m.verts t.b) (vAt m.verts t.c):=rfl
   have hdd:=hd _ _ _ va vb vc
   rw[<- hvt]at hdd
   clear hvt
   generalize vAt m.verts t.a=A at *
   generalize vAt m.verts t.b=B at *
   generalize vAt m.verts t.c=C at *
   generalize Yx m.verts (m.tris.take k)=S at *
   generalize Q9x m.verts t=T at *
   obtain⟨ia,ga'⟩:=q8.1 ga
   obtain⟨ib,gb'⟩:=q8.1 gb
   obtain⟨ic,gc'⟩:=q8.1 gc
   simp[go_sem,Mesh.cs,vsV,tsV,hlt,hp,hp',tcs,a1,b1,c1,ga,gb,gc,ia,ib,ic,ga',gb',gc',vcs]
   simp[go_sem,V3.enc,vcs]at hdd
   refine Qo hdd ?_
   simp (disch:=omega) [go_sem,Q3]
   refine⟨k+1,by omega,by omega,?_⟩
   exact⟨hs.symm,by omega⟩
end
theorem Qaw {ts:List T3} {sh:List Int} {j:Nat} {v:Int} (h:sh[j]?=some v):Zj ts (sh.take (j+1))=Zj ts (sh.take j)++[tAt ts v.toNat]:=by
 unfold Zj;rw[Qc h,qw];rfl
theorem Q3b (ts:List T3) (sh:List Int):(Zj ts sh).length=sh.length:=by simp[Zj]
def InvC (P:Program) (f:FuncId):Prop:=∀m:Mesh,m.check=0->CallIs P f [m.enc] (.b m.inv)
def ChkC (P:Program) (f:FuncId):Prop:=∀m:Mesh,CallIs P f [m.enc] (.i .i64 (Wj m))
def NoneTo {α:Type} (p:α->Bool) (l:List α) (k:Nat):Prop:=(l.take k).any p=false
theorem NoneTo.zero {α:Type} (p:α->Bool) (l:List α):NoneTo p l 0:=by simp[NoneTo]
theorem NoneTo.all {α:Type} {p:α->Bool} {l:List α} (h:NoneTo p l l.length):l.any p=false:=by unfold NoneTo at h;rwa [qi]at h
theorem Qa4 {α:Type} (p:α->Bool) {l:List α} {k:Nat} {a:α} (h:l[k]?=some a) (hn:NoneTo p l k) (ha:p a=false):NoneTo p l (k+1):=by
 unfold NoneTo at *
 rw[Qc h,List.any_append,hn];simp[ha]
theorem Qgh {α:Type} (p:α->Bool) {l:List α} {k:Nat} {a:α} (h:l[k]?=some a) (ha:p a=true):l.any p=true :=
 List.any_eq_true.2 ⟨a,qb h,ha⟩
theorem degI_at {m:Mesh} (hz:m.check=0) {k:Nat} {t:T3} (h:m.tris[k]?=some t):m.degI (k:Int)=m.deg t:=by
 have hl:=(q8.1 h).1
 unfold Mesh.degI
 rw[if_pos ⟨by omega,by omega,hz⟩,Int.toNat_natCast,h]
theorem chkR_1 {m:Mesh} (h:m.check≠0):Wj m=m.check:=by unfold Wj;rw[if_pos h]
theorem chkR_2 {m:Mesh} (h:m.check=0) (h2:m.closed=false):Wj m=12:=by unfold Wj;rw[if_neg (by simpa using h),if_pos h2]
theorem chkR_3 {m:Mesh} (h:m.check=0) (h2:m.closed=true) (h3:Q0i m.tris=false):Wj m=13:=by unfold Wj;rw[if_neg (by simpa using h),if_neg (by rw[h2];simp),if_pos h3]
theorem chkR_4 {m:Mesh} (h:m.check=0) (h2:m.closed=true) (h3:Q0i m.tris=true):Wj m=if m.tris.any m.deg=true then 1 else if m.inv=true then 1 else 0:=by
 unfold Wj;rw[if_neg (by simpa using h),if_neg (by rw[h2];simp),if_neg (by rw[h3];simp)]
theorem Qon {m:Mesh} (h:m.check=0):m.coh=Q0i m.tris:=by unfold Mesh.coh;rw[h];simp
section
variable {P:Program} (hm:P.follows .mixedOrders=true)
include hm
theorem Uz {f fs fv:FuncId} (hf:Q9 P f (L15.c fs fv) L15.r L15.n) (hs:Q9a P fs) (hv:VolC P fv):InvC P f:=by
 intro m hz
 obtain⟨z1,z2,z3,z4⟩:=Mesh.check_zero.1 hz
 have hok:=Qhn hz
 have hs1:=hs m
 unfold Mesh.inv
 generalize m.shells=shs at *
 generalize hp:(λsh=>decide (Yx m.verts (Zj m.tris sh)<0))=p
 generalize hB:shs.any p=B
 refine PureC.is (Q8 hm hf (qh rfl) ?_) rfl
 unfold L15.c
 simp[go_sem,Mesh.enc,Mesh.cs,vsV,tsV]
 refine Q5 hs1 ?_
 simp[go_sem,lsV]
 have hsv:∀(n:Nat) (a:V3),List.map (V.sh1 n) a.cs=a.cs:=λn a=>by simp[vcs,V.sh1,V.sh0]
 have hst:∀(n:Nat) (a:T3),List.map (V.sh1 n) a.cs=a.cs:=λn a=>by simp[tcs,V.sh1,V.sh0]
 refine Qh (α:=Nat) (λk=>k<=shs.length/\NoneTo p shs k)
  (λk=>⟨[(1,.p 0 1 0 0),(9,lsV shs),(10,.i .i64 shs.length),(11,.i .i64 k)],
   [.arr 1 2 [m.cs]]⟩)
  (λk=>shs.length-k) 0 ⟨Nat.zero_le _,NoneTo.zero _ _⟩ ?_ ?_
 ·simp[go_sem,lsV,Mesh.cs,vsV,tsV,Q9z,Uy,hsv,hst]
 ·rintro k ⟨hk,hno⟩
  by_cases hkl:k=shs.length
  ·subst hkl
   obtain rfl:=hB.symm.trans hno.all
   simp[go_sem,lsV,L15.r]
  ·have hlt:k<shs.length:=by omega
   have hnum:=hok.num
   have hq:shs[k]?=some shs[k]:=q9 hlt
   have hmw:shs[k]∈shs:=List.getElem_mem _
   generalize shs[k]=sh at hq hmw
   obtain⟨_,hq'⟩:=q8.1 hq
   have hshl:=hok.len sh hmw
   have hshm:=hok.mem sh hmw
   simp[go_sem,lsV,hlt,hq,hq',Mesh.cs,vsV,tsV,isV]
   refine Qz [.c 1 0 1 3] (α:=Nat) (λj=>j<=sh.length)
    (λj=>⟨[(1,.p 0 1 0 0),(4,isV sh),(5,.p 1 1 0 0),(9,lsV shs),(10,.i .i64 shs.length),(11,.i .i64 k),(18,isV sh),(19,.i .i64 sh.length),(20,.i .i64 j)],
     [.arr 1 2 [m.cs],.arr 1 2 [[vsV m.verts,.own 2 (j+1) 0 j]],.arr (j+1) 3 ((Zj m.tris (sh.take j)).map T3.cs)]⟩)
    (λj=>sh.length-j) 0 (Nat.zero_le _) ?_ ?_
   ·simp[go_sem,lsV,isV,Zj,Mesh.cs,vsV,tsV,Q9z,Uy]
   ·intro j hj
    by_cases hjl:j=sh.length
    ·subst hjl
     rw[qi]
     have hpl:=Q3b m.tris sh
     have hvol:=hv ⟨m.verts,Zj m.tris sh⟩
     have hve:(Mesh.mk m.verts (Zj m.tris sh)).vol6=Yx m.verts (Zj m.tris sh):=by unfold Mesh.vol6;rw[if_pos (Qdh hz hshl hshm)]
     rw[hve]at hvol
     have hps:p sh=decide (Yx m.verts (Zj m.tris sh)<0):=by rw[<- hp]
     generalize Zj m.tris sh=PT at *
     have htkp:List.take sh.length (PT.map T3.cs)=PT.map T3.cs:=qe (by simp;omega)
     simp[go_sem,lsV,isV]
     refine Ya (vs:=[(Mesh.mk m.verts PT).enc]) ?_ hvol ?_
     ·simp[go_sem,X5,frz,X6,Mesh.enc,Mesh.cs,vsV,tsV,Qfi,htkp,hpl]
     ·by_cases hneg:Yx m.verts PT<0
      ·have ha:shs.any p=true:=Qgh p hq (by rw[hps];simpa using hneg)
       obtain rfl:=hB.symm.trans ha
       simp (disch:=omega) [go_sem,vsV,tsV,hneg,L15.r]
      ·have ha:=Qa4 p hq hno (by rw[hps];simpa using hneg)
       simp (disch:=omega) [go_sem,vsV,tsV,hneg,Q3]
       refine⟨k+1,⟨by omega,ha⟩,by omega,?_⟩
       simp (disch:=omega) [go_sem,lsV,Mesh.cs,vsV,tsV,Q9z,Uy,Q3]
    ·have hjlt:j<sh.length:=by omega
     have hq2:sh[j]?=some sh[j]:=q9 hjlt
     have hqm:sh[j]∈sh:=List.getElem_mem _
     have hpj:=λv (h:sh[j]?=some v)=>Qaw (ts:=m.tris) h
     generalize sh[j]=v at hq2 hqm
     have hpj:=hpj v hq2
     obtain⟨_,hq2'⟩:=q8.1 hq2
     obtain⟨v0,v1⟩:=hshm v hqm
     have v2:v.toNat<m.tris.length:=by omega
     have ht:=Zo v2
     have hpl:=Q3b m.tris (sh.take j)
     rw[qv,Nat.min_eq_left (by omega)]at hpl
     generalize tAt m.tris v.toNat=t at ht hpj
     obtain⟨_,ht'⟩:=q8.1 ht
     generalize hPT:Zj m.tris (sh.take j)=PT at *
     have htkp:List.take j (PT.map T3.cs)=PT.map T3.cs:=qe (by simp;omega)
     simp (disch:=omega) [go_sem,lsV,isV,Mesh.cs,vsV,tsV,hjlt,hq2,hq2',v0,v1,v2,ht,ht',tcs,htkp,hpl,Q3]
     refine⟨⟨by omega,by omega⟩,j+1,by omega,by omega,?_⟩
     rw[hpj]
     exact⟨by omega,rfl,by rw[qw];rfl⟩
theorem Q1c {f fc fl fh fd fi:FuncId} (hf:Q9 P f (L14.c fc fl fh fd fi) L14.r L14.n) (hc:Jo P fc) (hl:Q9n P fl) (hh:Q0t P fh) (hd:DegC P fd) (hi:InvC P fi):ChkC P f:=by
 intro m
 have hl1:=hl m
 have hh1:=hh m
 by_cases hz:m.check=0
 case neg =>
  rw[chkR_1 hz]
  refine PureC.is (Q8 hm hf (qh rfl) ?_) rfl
  unfold L14.c
  simp[go_sem,Mesh.enc,Mesh.cs]
  refine Q5 (hc m) ?_
  simp[go_sem,hz,L14.r]
 obtain⟨z1,z2,z3,z4⟩:=Mesh.check_zero.1 hz
 rw[Qon hz]at hh1
 by_cases hcl:m.closed=false
 case pos =>
  rw[chkR_2 hz hcl]
  rw[hcl]at hl1
  refine PureC.is (Q8 hm hf (qh rfl) ?_) rfl
  unfold L14.c
  simp[go_sem,Mesh.enc,Mesh.cs]
  refine Q5 (hc m) ?_
  simp[go_sem,hz]
  refine Q5 hl1 ?_
  simp[go_sem,L14.r]
 have hcl':m.closed=true:=by simpa using hcl
 rw[hcl']at hl1
 by_cases hco:Q0i m.tris=false
 case pos =>
  rw[chkR_3 hz hcl' hco]
  rw[hco]at hh1
  refine PureC.is (Q8 hm hf (qh rfl) ?_) rfl
  unfold L14.c
  simp[go_sem,Mesh.enc,Mesh.cs]
  refine Q5 (hc m) ?_
  simp[go_sem,hz]
  refine Q5 hl1 ?_
  simp[go_sem]
  refine Q5 hh1 ?_
  simp[go_sem,L14.r]
 have hco':Q0i m.tris=true:=by simpa using hco
 rw[hco']at hh1
 rw[chkR_4 hz hcl' hco']
 generalize hA:m.tris.any m.deg=A
 refine PureC.is (Q8 hm hf (qh rfl) ?_) rfl
 unfold L14.c
 simp[go_sem,Mesh.enc,Mesh.cs,vsV,tsV]
 refine Q5 (hc m) ?_
 simp[go_sem,hz]
 refine Q5 hl1 ?_
 simp[go_sem]
 refine Q5 hh1 ?_
 have hsv:∀(n:Nat) (a:V3),List.map (V.sh1 n) a.cs=a.cs:=λn a=>by simp[vcs,V.sh1,V.sh0]
 have hst:∀(n:Nat) (a:T3),List.map (V.sh1 n) a.cs=a.cs:=λn a=>by simp[tcs,V.sh1,V.sh0]
 simp[go_sem]
 refine Qh (α:=Nat) (λk=>k<=m.tris.length/\NoneTo m.deg m.tris k)
  (λk=>⟨[(1,.p 0 1 0 0),(18,.i .i64 m.tris.length),(19,.i .i64 k)],[.arr 1 2 [m.cs]]⟩)
  (λk=>m.tris.length-k) 0 ⟨Nat.zero_le _,NoneTo.zero _ _⟩ ?_ ?_
 ·simp[go_sem,Mesh.cs,vsV,tsV,Q9z,Uy,hsv,hst]
 ·rintro k ⟨hk,hno⟩
  by_cases hkl:k=m.tris.length
  ·subst hkl
   obtain rfl:=hA.symm.trans hno.all
   have hi1:=hi m hz
   simp[go_sem,Mesh.cs,vsV,tsV]
   refine Q5 hi1 ?_
   cases hin:m.inv<;>simp[go_sem,L14.r]
  ·have hlt:k<m.tris.length:=by omega
   have hq:=Zo hlt
   have hdk:=hd m (k:Int)
   rw[degI_at hz hq]at hdk
   simp[go_sem,hlt,Mesh.cs,vsV,tsV]
   refine Q5 hdk ?_
   cases hdg:m.deg (tAt m.tris k) with
   | true =>
     have ha:m.tris.any m.deg=true:=Qgh _ hq hdg
     obtain rfl:=hA.symm.trans ha
     simp[go_sem,L14.r]
   | false =>
     have ha:=Qa4 _ hq hno hdg
     simp (disch:=omega) [go_sem,Q3]
     refine⟨k+1,⟨by omega,ha⟩,by omega,?_⟩
     simp[go_sem,Mesh.cs,vsV,tsV,Q9z,Uy]
end
structure Sett where
 pitch:Int
 height:Int
 walls:Int
 top:Int
 bottom:Int
 pattern:Int
 spacing:Int
 support:Bool
 reach:Int
 gap:Int
 brim:Int
 skirt:Int
 drop:Int
 feed:Int
 travel:Int
 retract:Int
 minTime:Int
 minFeed:Int
 nozzle:Int
 bed:Int
def Sett.cs (s:Sett):List V:=[.i .i64 s.pitch,.i .i64 s.height,.i .i64 s.walls,.i .i64 s.top,.i .i64 s.bottom,.i .i64 s.pattern,.i .i64 s.spacing,.b s.support,.i .i64 s.reach,.i .i64 s.gap,
 .i .i64 s.brim,.i .i64 s.skirt,.i .i64 s.drop,.i .i64 s.feed,.i .i64 s.travel,.i .i64 s.retract,.i .i64 s.minTime,.i .i64 s.minFeed,.i .i64 s.nozzle,.i .i64 s.bed]
def Sett.enc (s:Sett):V:=.a s.cs
def Qf6 (P:Program) (f:FuncId):Prop:=∀(m:Mesh) (s:Sett),CallIs P f [m.enc,s.enc] (.t [Ju (Jc m s.pitch s.height).1,.i .i64 (Jc m s.pitch s.height).2])
theorem Qkb {l:List V3} (h:J7 l=true) {v:V3} (hv:v∈l):v.valid=true:=by
 unfold J7 at h
 exact qj.1 h v hv
theorem bHi_bd {l:List V3} (hl:l≠[]) (hv:∀v∈l,v.valid=true):(bHi l).z<=65536/\-65536<=(bHi l).z:=by
 have hb:∀v∈l,v.z<=65536/\-65536<=v.z:=λv h=>by
  have:=V3.val_iff.1 (hv v h)
  omega
 cases l with
 | nil=>exact absurd rfl hl
 | cons v l =>
   unfold bHi
   rw[(Qox (v::l) v).2.2]
   rcases (Qm3 V3.z (v::l) v.z).2.2 with h | ⟨w,hw,h⟩
   ·rw[h];exact hb v (by simp)
   ·rw[h];exact hb w hw
def rgE (g:List Rw):List V:=[rwL g]
theorem Q7o (l:List (List Rw)) (n:Nat):∀g∈l,∀x∈rgE g,x.cl n=true:=λg _ x hx=>by
 simp[rgE]at hx
 subst hx
 rfl
theorem Qfn (l:List (List Rw)):∀g∈l,∀x∈rgE g,x.isD=true:=λg _ x hx=>by
 simp[rgE]at hx
 subst hx
 rfl
theorem Xr (l:List (List Rw)):Ju l=.l 1 (l.map rgE):=rfl
section
variable {P:Program} (hm:P.follows .mixedOrders=true)
include hm
theorem Q4r {f fc fb fh fs:FuncId} (hf:Q9 P f (L1y.c fc fb fh fs) L1y.r L1y.n) (hc:ChkC P fc) (hb:Qpz P fb) (hh:Qcf P fh) (hs:Qex P fs):Qf6 P f:=by
 intro m s
 have hcc:=hc m
 have hnil:∀e:Int,Le (.t [.nil,.i .i64 e]) (.t [Ju [],.i .i64 e]):=λe=>.inr ⟨_,_,rfl,rfl,.inl (Le0.nil 1),Le1.refl _,trivial⟩
 unfold Jc
 by_cases h0:Wj m=0
 case neg =>
  rw[if_pos h0]
  refine CallIs.res (r:=.t [.nil,.i .i64 (Wj m)]) ?_ (hnil _)
  refine PureC.is (Q8 hm hf (qh rfl) ?_) rfl
  have hb:(Wj m != 0)=true:=by simpa using h0
  unfold L1y.c
  simp[go_sem,Mesh.enc,Mesh.cs,Sett.enc,Sett.cs]
  refine Q5 hcc ?_
  simp[go_sem,h0,hb,L1y.r]
 rw[if_neg (by simp[h0])]
 rw[h0]at hcc
 have hmc:=(snd_iff.1 h0).z
 have hbc:=hb m hmc
 by_cases hv:m.verts=[]
 ·rw[if_pos hv]
  rw[decide_eq_false (by simp[hv])]at hbc
  refine CallIs.res (r:=.t [.nil,.i .i64 0]) ?_ (hnil _)
  refine PureC.is (Q8 hm hf (qh rfl) ?_) rfl
  unfold L1y.c
  simp[go_sem,Mesh.enc,Mesh.cs,Sett.enc,Sett.cs]
  refine Q5 hcc ?_
  simp[go_sem]
  refine Q5 hbc ?_
  simp[go_sem,V3.enc,V3.cs,L1y.r]
 rw[if_neg hv]
 rw[decide_eq_true hv]at hbc
 by_cases hz:(bLo m.verts).z<0
 ·rw[if_pos hz]
  refine CallIs.res (r:=.t [.nil,.i .i64 8]) ?_ (hnil _)
  refine PureC.is (Q8 hm hf (qh rfl) ?_) rfl
  unfold L1y.c
  simp[go_sem,Mesh.enc,Mesh.cs,Sett.enc,Sett.cs]
  refine Q5 hcc ?_
  simp[go_sem]
  refine Q5 hbc ?_
  simp[go_sem,V3.enc,V3.cs,hz,L1y.r]
 rw[if_neg hz]
 have hzb:=bHi_bd hv λv hv=>Qkb (Mesh.check_zero.1 hmc).2.2.1 hv
 have hhc:=hh (bHi m.verts).z s.height (by omega) (by omega)
 have hhl:=Q40 (bHi m.verts).z s.height
 generalize El (bHi m.verts).z s.height=H at *
 obtain⟨zs,e⟩:=H
 simp only at hhc hhl ⊢
 by_cases he:e=0
 case neg =>
  rw[if_pos he]
  have heb:(e != 0)=true:=by simpa using he
  refine CallIs.res (r:=.t [.nil,.i .i64 e]) ?_ (hnil _)
  refine PureC.is (Q8 hm hf (qh rfl) ?_) rfl
  unfold L1y.c
  simp[go_sem,Mesh.enc,Mesh.cs,Sett.enc,Sett.cs]
  refine Q5 hcc ?_
  simp[go_sem]
  refine Q5 hbc ?_
  simp[go_sem,V3.enc,V3.cs,hz]
  refine Q5 hhc ?_
  simp[go_sem,he,heb,L1y.r]
 rw[if_neg (by simp[he])]
 subst he
 refine CallIs.res (r:=.t [if (Kg m s.pitch zs).2≠0 then .nil else Ju (Kg m s.pitch zs).1,.i .i64 (Kg m s.pitch zs).2]) ?_ (by
  by_cases h1:(Kg m s.pitch zs).2=0
  ·rw[if_neg (by simp[h1])]
   exact Le.refl _
  ·rw[if_pos h1]
   have h2:(Kg m s.pitch zs).1=[]:=by
    by_cases h3:∀z∈zs,(Zb m z s.pitch).2=0
    ·rw[I3 h3]at h1
     simp at h1
    ·cases zs with
     | nil=>rfl
     | cons z zs =>
       unfold Kg at h1 ⊢
       split
       ·rfl
       ·split
        ·rfl
        ·rename_i q1 q2
         rw[if_neg q1,if_neg q2]at h1
         simp at h1
   rw[h2]
   exact hnil _)
 refine PureC.is (Q8 hm hf (qh rfl) ?_) rfl
 unfold L1y.c
 simp[go_sem,Mesh.enc,Mesh.cs,Sett.enc,Sett.cs]
 refine Q5 hcc ?_
 simp[go_sem]
 refine Q5 hbc ?_
 simp[go_sem,V3.enc,V3.cs,hz]
 refine Q5 hhc ?_
 simp[go_sem,isV]
 obtain⟨T,hT⟩:∃T:Nat->List (List Rw),∀i,T i=(zs.take i).map λz=>(Zb m z s.pitch).1:=⟨_,λ_=>rfl⟩
 have hT0:T 0=[]:=by rw[hT];rfl
 have hTl:∀i,i<=zs.length->(T i).length=i:=λi hi=>by rw[hT,List.length_map,qv];omega
 refine Qz [.t 12 1] (α:=Nat) (λi=>i<=zs.length/\∀z∈zs.take i,(Zb m z s.pitch).2=0)
  (λi=>⟨[(2,.p 0 1 0 0),(3,.p 1 1 0 0),(12,.own 4 (i+1) 0 (T i).length),(44,isV zs),(45,.i .i64 zs.length),(46,.i .i64 i)],[.arr 1 2 [m.cs],.arr 1 20 [s.cs],.dead,.dead,.arr (i+1) 1 ((T i).map rgE)]⟩)
  (λi=>zs.length-i) 0 ⟨Nat.zero_le _,by simp⟩ ?_ ?_
 ·simp[go_sem,isV,hT0,Mesh.cs,Sett.cs]
  exact⟨rfl,rfl⟩
 rintro i ⟨hi,hok⟩
 have hTi:=hTl i hi
 by_cases hil:i=zs.length
 ·subst hil
  rw[qi]at hok
  have hall:=I3 hok
  have hTn:T zs.length=zs.map λz=>(Zb m z s.pitch).1:=by rw[hT,qi]
  rw[hall,<- hTn]
  have ht:List.take zs.length ((T zs.length).map rgE)=(T zs.length).map rgE:=qe (by simp[hTi])
  generalize T zs.length=L at *
  simp (disch:=omega) [go_sem,isV,hTi,ht,Xr,L1y.r]
  rw[if_pos (Qfn L)];rfl
 have hlt:i<zs.length:=by omega
 have hq:zs[i]?=some zs[i]:=q9 hlt
 have hTs:T (i+1)=T i++[(Zb m zs[i] s.pitch).1]:=by rw[hT,hT,Qc hq,qw];rfl
 have hsc:=hs m zs[i] s.pitch
 have hbad:=Qah (m:=m) (k:=s.pitch) hq hok
 have hnext:(Zb m zs[i] s.pitch).2=0->∀z∈zs.take (i+1),(Zb m z s.pitch).2=0:=λh z hz=>by
  rw[Qc hq]at hz
  rcases qg.1 hz with hz | hz
  ·exact hok z hz
  ·rw[qn.1 hz];exact h
 generalize Zb m zs[i] s.pitch=R at *
 obtain⟨g,e⟩:=R
 simp only at hTs hsc hbad hnext
 generalize zs[i]=z at *
 obtain⟨_,hq'⟩:=q8.1 hq
 simp only[Mesh.enc,Mesh.cs,rgV]at hsc
 have htk:List.take i ((T i).map rgE)=(T i).map rgE:=qe (by simp[hTi])
 simp (disch:=omega) [go_sem,isV,hlt,hq,hq',Mesh.cs,Sett.cs,Q3]
 refine Q5 hsc ?_
 by_cases he:e=0
 ·subst he
  have hnx:=hnext rfl
  simp (disch:=omega) [go_sem,isV,hTi,htk,V.cells,V.okA,Q3]
  exact⟨⟨by omega,by omega⟩,i+1,⟨by omega,hnx⟩,by omega,⟨⟨rfl,by rw[hTs];simp[hTi]⟩,by omega⟩,⟨rfl,rfl⟩,⟨rfl,by rw[hTs];simp[rgE,rwL]⟩,Q7o _ _⟩
 ·have heb:(e != 0)=true:=by simpa using he
  rw[hbad he]
  simp (disch:=omega) [go_sem,isV,he,heb,V.cells,V.okA,L1y.r]
end
theorem Qhj (l:List Int):(Zq l).Pairwise λx y=>x<=y:=by
 have:=List.pairwise_mergeSort (le:=λx y:Int=>decide (x<=y)) (by intro a b c;simp;omega) (by intro a b;simp;omega) l
 exact this.imp λh=>by simpa using h
theorem Q2u (l:List Int):(Zq l).Perm l:=List.mergeSort_perm _ _
def Xn (g:List Rw) (y:Int):List Rn:=((g.find? λw=>decide (w.y=y)).map Rw.rs).getD []
theorem Bp {g:List Rw} (hg:RgV g) {w:Rw} (hw:w∈g):Xn g w.y=w.rs:=by
 unfold Xn
 cases hf:g.find? λv=>decide (v.y=w.y) with
 | none =>
   have:=List.find?_eq_none.1 hf w hw
   simp at this
 | some v =>
   have h1:=List.mem_of_find?_eq_some hf
   have h2:v.y=w.y:=by simpa using List.find?_some hf
   rw[hg.uniq h1 hw h2];rfl
theorem Bq {g:List Rw} {y:Int} (h:∀w∈g,w.y≠y):Xn g y=[]:=by
 unfold Xn
 rw[List.find?_eq_none.2 λw hw=>by simpa using h w hw];rfl
theorem Iv {g:List Rw} (hg:RgV g) {y x:Int}:Qf (Xn g y) x↔Wb g y x:=by
 by_cases h:∃w∈g,w.y=y
 ·obtain⟨w,hw,rfl⟩:=h
  rw[Bp hg hw,hg.row hw]
 ·have h2:∀w∈g,w.y≠y:=λw hw he=>h ⟨w,hw,he⟩
  rw[Bq h2]
  constructor
  ·intro h3;exact absurd h3 (Qk _)
  ·rintro⟨w,hw,he,_⟩;exact absurd he (h2 w hw)
theorem Q7n {g:List Rw} (hg:RgV g) (hb:RgB g) (y:Int):RnsV (Xn g y)/\RnI (Xn g y):=by
 by_cases h:∃w∈g,w.y=y
 ·obtain⟨w,hw,rfl⟩:=h
  rw[Bp hg hw]
  exact⟨hg.rs w hw,hb.rnb hg hw⟩
 ·rw[Bq λw hw he=>h ⟨w,hw,he⟩]
  exact⟨RnsV.nil,by simp[RnI]⟩
theorem CallIs.lel {P:Program} {f:FuncId} {us vs:List V} {r:V} (hl:LeL Le us vs) (h:CallIs P f vs r):CallIs P f us r:=λhh J m w cargs hr hp =>
 h hh J m w cargs hr (LeL.pw (R:=Le) (Q:=RV J m w) (λu v c h1 h2=>h1.rv h2) hl hp)
def UniC (P:Program) (f:FuncId):Prop:=∀a b:List Rw,RgV a->RgV b->RgB a->RgB b->CallIs P f [rgV a,rgV b] (rgV (K0 a b))
def msV (ms:List Mesh):V:=.l 2 (ms.map Mesh.cs)
def Qp4 (P:Program) (f:FuncId):Prop:=∀(c:V) (g r:List Rw),(c=rwL g∨(c=.nil/\g=[]))->RgV g->RgB g->RgV r->RgB r->CallIs P f [.l 1 [[c],[rwL r]]] (rgV (K0 g r))
def Q99 (P:Program) (f:FuncId):Prop:=∀(ms:List Mesh) (s:Sett),ms.length<=1000->CallIs P f [msV ms,s.enc] (.t [Ju (Ws ms s.pitch s.height).1,.i .i64 (Ws ms s.pitch s.height).2])
noncomputable def Ui (acc l:List (List Rw)) (j:Nat):List (List Rw):=(List.range (max acc.length j)).map λi=>if i<j then K0 (atR acc i) (atR l i) else atR acc i
theorem K5 (acc l:List (List Rw)) (j:Nat):(Ui acc l j).length=max acc.length j:=by simp[Ui]
theorem W8 {acc l:List (List Rw)} {j i:Nat} (h:i<max acc.length j):(Ui acc l j)[i]?=some (if i<j then K0 (atR acc i) (atR l i) else atR acc i):=by
 unfold Ui
 rw[qp,jh h];rfl
theorem Qie {acc l:List (List Rw)}:Ui acc l 0=acc:=by
 refine qx λi=>?_
 by_cases hi:i<acc.length
 ·rw[W8 (by omega),if_neg (by omega)]
  unfold atR
  rw[q9 hi];rfl
 ·rw[qk (by rw[K5];omega),qk (by omega)]
theorem Qm8 {acc l:List (List Rw)} (ha:Ky acc):Ui acc l l.length=Q2l acc l:=by
 refine qx λi=>?_
 by_cases hi:i<max acc.length l.length
 ·rw[W8 hi,Qa2 hi]
  split
  ·rfl
  ·have e:atR l i=[]:=by unfold atR;rw[qk (by omega)];rfl
   rw[e,Qgq (Qoy ha i).1 (Qoy ha i).2]
 ·rw[qk (by rw[K5];omega),qk (by rw[Q2k];omega)]
theorem Qm7 {acc l:List (List Rw)} {j:Nat} (h:acc.length<=j):Ui acc l (j+1)=Ui acc l j++[K0 (atR acc j) (atR l j)]:=by
 unfold Ui
 rw[show max acc.length (j+1)=j+1 by omega,show max acc.length j=j by omega,List.range_succ,qw]
 congr 1
 ·refine jm λi hi=>?_
  have:=qy.1 hi
  rw[if_pos (by omega),if_pos (by omega)]
 ·simp
theorem Qm6 {acc l:List (List Rw)} {j:Nat} (h:j<acc.length):Ui acc l (j+1)=(Ui acc l j).set j (K0 (atR acc j) (atR l j)):=by
 refine qx λi=>?_
 rw[List.getElem?_set]
 by_cases hi:i<acc.length
 ·rw[W8 (by omega)]
  by_cases he:j=i
  ·subst he
   rw[if_pos rfl,if_pos (show j<j+1 by omega),if_pos (show j<(Ui acc l j).length by rw[K5];omega)]
  ·rw[if_neg he,W8 (by omega)]
   by_cases h2:i<j
   ·rw[if_pos h2,if_pos (by omega)]
   ·rw[if_neg h2,if_neg (by omega)]
 ·rw[qk (by rw[K5];omega),if_neg (by omega),qk (by rw[K5];omega)]
section
variable {P:Program} (hm:P.follows .mixedOrders=true)
include hm
theorem Q19 {f fu:FuncId} (hf:Q9 P f (L1z.c fu) L1z.r L1z.n) (hu:UniC P fu):Qp4 P f:=by
 intro c g r hc hg bg hr br
 have u1:=hu [] g RgV.nil hg RgB.nil bg
 rw[Qa1 hg bg]at u1
 have u2:=hu g r hg hr bg br
 have hcl:Le (.a [c]) (rgV g):=by
  rcases hc with rfl | ⟨rfl,rfl⟩
  ·exact Le.refl _
  ·exact .inl (.inr ⟨_,_,rfl,rfl,Le0.nil 2,trivial⟩)
 have hn0:Le (.a [.nil]) (rgV []):=.inl (.inr ⟨_,_,rfl,rfl,Le0.nil 2,trivial⟩)
 have w1:CallIs P fu [.a [.nil],.a [c]] (rgV g):=CallIs.lel (show LeL Le [.a [.nil],.a [c]] [rgV [],rgV g] from ⟨hn0,hcl,trivial⟩) u1
 have hcc:c.cl 3=true/\c.cl 2=true/\c.isD=true:=by
  rcases hc with rfl | ⟨rfl,rfl⟩<;>exact⟨rfl,rfl,rfl⟩
 refine PureC.is (Q8 hm hf (qh rfl) ?_) (by rcases hc with rfl | ⟨rfl,rfl⟩<;>rfl)
 unfold L1z.c
 simp[go_sem]
 obtain⟨F,hF⟩:∃F:Nat->V,∀i,F i=if i=0 then .nil else if i=1 then rwL g else rwL (K0 g r):=⟨_,λ_=>rfl⟩
 have F0:F 0=.nil:=by rw[hF];rfl
 have F1:F 1=rwL g:=by rw[hF];rfl
 have F2:F 2=rwL (K0 g r):=by rw[hF];rfl
 refine Qh (α:=Nat) (λi=>i<=2)
  (λi=>⟨[(2,.p 0 1 0 0),(3,.p 1 1 0 0),(6,.l 1 [[c],[rwL r]]),(7,.i .i64 2),(8,.i .i64 i)],[.arr 1 1 [[.nil]],.arr 1 1 [[F i]]]⟩)
  (λi=>2-i) 0 (by omega) ?_ ?_
 ·simp[go_sem,F0]
 intro i hi
 rcases (show i=0∨i=1∨i=2 by omega) with rfl | rfl | rfl
 ·rw[F0]
  simp[go_sem]
  refine Q5 w1 ?_
  simp[go_sem,rgV,V.cells,V.okA]
  exact⟨1,by omega,by omega,rfl,by rw[F1];rfl,by rw[F1];rfl⟩
 ·rw[F1]
  simp[go_sem]
  refine Q5 u2 ?_
  simp[go_sem,rgV,V.cells,V.okA]
  exact⟨2,by omega,by omega,rfl,by rw[F2];rfl,by rw[F2];rfl⟩
 ·rw[F2]
  simp[go_sem,rwL,rgV,L1z.r]
end
end Go.Abs
