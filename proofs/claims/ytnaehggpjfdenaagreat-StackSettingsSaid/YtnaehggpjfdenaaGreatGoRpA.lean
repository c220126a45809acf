/- Part of the library on which the proof stands: an abstract machine, its values and its soundness against the model; or what functions of the program do to such values. -/
import Derived.Test.YtnaehggpjfdenaaGreatGoMapG
import Derived.Test.YtnaehggpjfdenaaGreatGoCtB
import Derived.Test.YtnaehggpjfdenaaGreatGoMap
import Derived.Test.YtnaehggpjfdenaaGreatGoRw
import Derived.Test.YtnaehggpjfdenaaGreatGoRevC
import Derived.Test.YtnaehggpjfdenaaGreatGoDet
import Derived.Test.YtnaehggpjfdenaaGreatGoShp
import Derived.Test.YtnaehggpjfdenaaGreatGoSkB
set_option linter.unusedVariables false
set_option linter.unusedSimpArgs false
set_option maxHeartbeats 8000000
set_option maxRecDepth 20000
namespace Go.Abs
section
variable {α β:Type}
def HeldR (sz:Nat) (hd:β->List V) (en:α->List V) (b:Nat) (hx:List O) (ls:List (β × List α)) (cells:List (List V)):Prop :=
 cells.length=ls.length/\∀(i:Nat) (c:List V) (l:β × List α),cells[i]?=some c->ls[i]?=some l->∃j g,c=hd l.1++[.own (b+j) g 0 l.2.length]/\hx[j]?=some (.arr g sz (l.2.map en))
structure CellsD (hd:β->List V) (en:α->List V):Prop where
 h1:∀b h,(hd b).mapM (Um h)=some (hd b)
 h2:∀b,∀x∈hd b,x.isD=true
 e1:∀a,∀x∈en a,x.isD=true
variable {sz:Nat} {hd:β->List V} {en:α->List V}
theorem HeldR.nil (b:Nat):HeldR sz hd en b [] [] []:=⟨rfl,by simp⟩
theorem HeldR.app {b:Nat} {hx:List O} {ls:List (β × List α)} {cells:List (List V)} (h:HeldR sz hd en b hx ls cells) (l:List O):HeldR sz hd en b (hx++l) ls cells :=
 ⟨h.1,λi c x h1 h2=>by obtain⟨j,g,h3,h4⟩:=h.2 i c x h1 h2;exact⟨j,g,h3,by rw[qd (q8.1 h4).1];exact h4⟩⟩
theorem HeldR.snoc {b:Nat} {hx:List O} {ls:List (β × List α)} {cells:List (List V)} (h:HeldR sz hd en b hx ls cells) {j g:Nat} {l:β × List α} (hj:hx[j]?=some (.arr g sz (l.2.map en))):HeldR sz hd en b hx (ls++[l]) (cells++[hd l.1++[.own (b+j) g 0 l.2.length]]):=by
 refine⟨by simp[h.1],λi c x h1 h2=>?_⟩
 by_cases hi:i<ls.length
 ·rw[qd (by rw[h.1];exact hi)]at h1
  rw[qd hi]at h2
  exact h.2 i c x h1 h2
 ·rw[qf (by rw[h.1];omega)]at h1
  rw[qf (by omega)]at h2
  have hi0:i-ls.length=0:=by
   have:=(q8.1 h2).1
   simp at this;omega
  rw[h.1,hi0]at h1
  rw[hi0]at h2
  simp at h1 h2
  subst h1;subst h2
  exact⟨j,g,rfl,hj⟩
theorem HeldR.cl (D:CellsD hd en) {b:Nat} {hx:List O} {ls:List (β × List α)} {cells:List (List V)} (h:HeldR sz hd en b hx ls cells) {n:Nat} (hn:b+hx.length<=n):∀el∈cells,∀x∈el,x.cl n=true:=by
 intro el hel x hx'
 obtain⟨i,hi⟩:=qq hel
 have hlt:=(q8.1 hi).1
 obtain⟨j,g,rfl,h4⟩:=h.2 i el _ hi (q9 (by rw[<- h.1];exact hlt))
 have:=(q8.1 h4).1
 rcases qg.1 hx' with hx' | hx'
 ·exact Kl n (D.h2 _ x hx')
 ·simp at hx';subst hx'
  simp[V.cl,V.cl1,V.cl0];omega
theorem Qg3 (D:CellsD hd en) (l:List α):∀el∈l.map en,∀x∈el,x.isD=true:=by
 intro el hel x hx
 obtain⟨a,_,rfl⟩:=qo.1 hel
 exact D.e1 a x hx
theorem Qdw (D:CellsD hd en) (l:List α) (n:Nat):∀el∈l.map en,∀x∈el,x.cl n=true:=λel hel x hx=>Kl n (Qg3 D l el hel x hx)
def Qlo (sz:Nat) (hd:β->List V) (en:α->List V) (l:β × List α):List V:=hd l.1++[.l sz (l.2.map en)]
theorem HeldR.frz (D:CellsD hd en) {b:Nat} {base hx:List O} {ls:List (β × List α)} {cells:List (List V)} (h:HeldR sz hd en b hx ls cells) (hb:base.length=b):cells.mapM (λel=>el.mapM (Um (base++hx)))=some (ls.map (Qlo sz hd en)):=by
 induction cells generalizing ls with
 | nil =>
   have:=h.1
   simp at this
   obtain rfl:=List.length_eq_zero_iff.1 this.symm
   rfl
 | cons c cells ih =>
   have hl:=h.1
   cases ls with
   | nil=>simp at hl
   | cons l ls =>
     have h0:=h.2 0 c l rfl rfl
     obtain⟨j,g,rfl,hj⟩:=h0
     have ht:HeldR sz hd en b hx ls cells:=⟨by simpa using hl,λi c x h1 h2=>h.2 (i+1) c x (by simpa using h1) (by simpa using h2)⟩
     have hg:(base++hx)[b+j]?=some (.arr g sz (l.2.map en)):=by rw[<- hb,Qd];exact hj
     have ha:(l.2.map en).all (λx=>x.all V.isD)=true:=by
      rw[qj]
      exact λel hel=>qj.2 (Qg3 D l.2 el hel)
     have hlen:(l.2.map en).length=l.2.length:=by simp
     have hfr:Um (base++hx) (.own (b+j) g 0 l.2.length)=some (.l sz (l.2.map en)):=by
      have ht2:List.take l.2.length (l.2.map en)=l.2.map en:=qe (by omega)
      simp only[Um,X7,hg]
      rw[List.drop_zero,ht2,if_pos ⟨trivial,by omega,ha⟩]
     have hrow:(hd l.1++[V.own (b+j) g 0 l.2.length]).mapM (Um (base++hx))=some (Qlo sz hd en l):=by
      rw[List.mapM_append,D.h1]
      simp[List.mapM_cons,hfr,Qlo]
     rw[List.mapM_cons,hrow,ih ht]
     rfl
theorem Qni (D:CellsD hd en) {b rz:Nat} {base hx:List O} {ls:List (β × List α)} {cells:List (List V)} (h:HeldR sz hd en b hx ls cells) (hb:base.length=b) :
  (if ls.length<=cells.length then Option.map (V.l rz) (List.mapM (λel=>List.mapM (Um (base++hx)) el) (List.take ls.length cells)) else none)=some (.l rz (ls.map (Qlo sz hd en))):=by
 have h1:=h.frz D hb
 have ht:List.take ls.length cells=cells:=qe (by rw[h.1];exact Nat.le_refl _)
 simp only[ht,h1,h.1,Nat.le_refl,if_true,Option.map_some]
end
theorem W3 {l:List Sg4} {i:Nat} (h:i<l.length):l[i]?=some (Qd8 l i):=by unfold Qd8;rw[q9 h];rfl
theorem Qlw:CellsD (λ_:Unit=>([]:List V)) P2.cs:=⟨λ_ _=>rfl,by simp,λa x hx=>by simp[P2.cs]at hx;rcases hx with rfl | rfl<;>rfl⟩
abbrev Qq9 (b:Nat) (hx:List O) (ps:List (List P2)) (cells:List (List V)):Prop:=HeldR 2 (λ_:Unit=>([]:List V)) P2.cs b hx (ps.map λp=>((),p)) cells
def Qfh (P:Program) (f:FuncId):Prop:=∀l:List Sg4,Qgq l ->
 (¬ Bc (egs l)->CallIs P f [Y8 l] (.t [Qs [],.i .i64 12])) /\
 (Bc (egs l)->PureC P f [Y8 l] λr=>∃ps:List (List P2),(ps.flatMap Z7).Perm (neE (egs l))/\ps.length<=l.length/\r=.t [Qs ps,.i .i64 0])
def Qf1 (P:Program) (f:FuncId):Prop:=∀(m:Mesh) (z k:Int),CallIs P f [m.enc,.i .i64 z,.i .i64 k] (.t [rgV (Zb m z k).1,.i .i64 (Zb m z k).2])
theorem Qdr (es:List Eg):neE es=es.filter λe=>decide (e.1≠e.2):=by
 unfold neE
 congr 1
theorem Qak {l:List Sg4} (hl:Qgq l) {ps:List (List P2)} (h1:(ps.flatMap Z7).Perm (neE (egs l))) (h2:ps.length<=l.length):PolyOk ps/\∀k,Uf (ps.flatMap Z7) k=Uf (egs l) k:=by
 have hsub:∀e∈neE (egs l),e∈egs l:=λe he=>by
  rw[Qdr]at he
  exact(qu.1 he).1
 refine⟨⟨by have:=hl.1;omega,?_,λe he=>hl.2 e (hsub e (h1.mem_iff.1 he))⟩,λk=>?_⟩
 ·rw[h1.length_eq,Qdr]
  refine Nat.le_trans (j8 _ _) ?_
  simp[egs]
  exact hl.1
 ·rw[Qi5 h1,Qdr,rasR_ne]
section
variable {P:Program} (hm:P.follows .mixedOrders=true)
include hm
theorem Q2s {f fe fs fc fr:FuncId} (hf:Q9 P f (L1x.c fe fs fc fr) L1x.r L1x.n) (he:Qcj P fe) (hs:SecC P fs) (hc:Qfh P fc) (hr:Q9f P fr):Qf1 P f:=by
 intro m z k
 have hec:=he k 32 1024 (by omega)
 have hsc:=hs m z
 have hso:=sec_ok m z
 have hz:Le1 (V.a [V.nil]) (rgV []):=.inr ⟨_,_,rfl,rfl,Le0.nil 2,trivial⟩
 unfold Zb
 cases hev:Zn k 32 1024 with
 | false =>
   rw[hev]at hec
   rw[if_pos rfl]
   refine CallIs.res (r:=.t [.a [.nil],.i .i64 1]) ?_ (.inr ⟨_,_,rfl,rfl,hz,Le1.refl _,trivial⟩)
   refine PureC.is (Q8 hm hf (qh rfl) ?_) rfl
   unfold L1x.c
   simp[go_sem,Mesh.enc,Mesh.cs]
   refine Q5 hec ?_
   simp[go_sem,L1x.r]
   done
 | true =>
   rw[hev]at hec
   rw[if_neg (by simp)]
   unfold secL at hsc
   generalize Zr m z=S at *
   obtain⟨l,e⟩:=S
   simp only at hsc hso ⊢
   by_cases h0:e=0
   case neg =>
    rw[if_pos h0]
    refine CallIs.res (r:=.t [.a [.nil],.i .i64 e]) ?_ (.inr ⟨_,_,rfl,rfl,hz,Le1.refl _,trivial⟩)
    refine PureC.is (Q8 hm hf (qh rfl) ?_) rfl
    have hb:(e != 0)=true:=by simpa using h0
    unfold L1x.c
    simp[go_sem,Mesh.enc,Mesh.cs]
    refine Q5 hec ?_
    simp[go_sem]
    refine Q5 hsc ?_
    simp[go_sem,h0,hb,L1x.r]
    done
   subst h0
   rw[if_neg (by simp)]
   obtain⟨hc1,hc2⟩:=hc l hso
   by_cases hbal:Bc (egs l)
   case neg =>
    rw[if_neg hbal]
    have hcc:=hc1 hbal
    refine CallIs.res (r:=.t [.a [.nil],.i .i64 12]) ?_ (.inr ⟨_,_,rfl,rfl,hz,Le1.refl _,trivial⟩)
    refine PureC.is (Q8 hm hf (qh rfl) ?_) rfl
    unfold L1x.c
    simp[go_sem,Mesh.enc,Mesh.cs]
    refine Q5 hec ?_
    simp[go_sem]
    refine Q5 hsc ?_
    simp[go_sem]
    refine Q5 hcc ?_
    simp[go_sem,L1x.r]
    done
   rw[if_pos hbal]
   have hcc:=hc2 hbal
   refine PureC.is (Q8 hm hf (qh rfl) ?_) rfl
   unfold L1x.c
   simp[go_sem,Mesh.enc,Mesh.cs]
   refine Q5 hec ?_
   simp[go_sem]
   refine Q5 hsc ?_
   simp[go_sem]
   refine (hcc.lift rfl _).mono ?_
   rintro r h' ⟨⟨ps,hp1,hp2,rfl⟩,rfl⟩
   obtain⟨hpo,hpr⟩:=Qak hso hp1 hp2
   have hrc:=hr ps k hpo
   unfold Ki at hrc
   rw[if_neg (by rw[hev];simp),hpr]at hrc
   simp[go_sem]
   refine Q5 hrc ?_
   simp[go_sem,rgV,V.cells,V.okA,L1x.r]
end
def L16.c (L0e L23 L0j L2k L17:FuncId):C :=(.seq (.reg [Au 1 (.box (.t 0)),Ac 2 0]) (.seq (.seq (.reg [Ag 5 2 1,Au 6 (.call L0e [.t 5]),Am 3 6]) (.seq (.reg [Am 7 3,Ak .neq 8 7 0]) (.ite (.t 8) (.seq (.reg [Am 9 3,Am 2 9]) .ret) .skip))) (.seq (.seq (.reg [Ag 10 2 1,Au 11 (.call L23 [.t 10]),Au 12 (.un .not (.t 11))]) (.ite (.t 12) (.seq (.reg [Ac 2 12]) .ret) .skip)) (.seq (.seq (.reg [Ag 13 2 1,Au 14 (.call L0j [.t 13]),Au 15 (.un .not (.t 14))]) (.ite (.t 15) (.seq (.reg [Ac 2 13]) .ret) .skip)) (.seq (.seq (.reg [Af 16 1 1,Al 17 16,An 18 0 17,Ac 19 0]) (.blk 0 (.loop (.seq (.reg [Aj .lss 20 19 18])
 (.seq (.ite (.t 20) .skip (.exit 0)) (.seq (.blk 1 (.seq (.reg [Am 21 19,Am 4 21]) (.seq (.reg [Ag 22 2 1,Am 23 4,Au 24 (.call L2k [.t 22,.t 23])]) (.ite (.t 24) (.seq (.reg [Ac 2 1]) .ret) .skip)))) (.reg [Ad 25 19 1,Am 19 25]))))))) (.seq (.seq (.reg [Ag 26 2 1,Au 27 (.call L17 [.t 26])]) (.ite (.t 27) (.seq (.reg [Ac 2 1]) .ret) .skip)) (.seq (.reg [Ac 2 0]) .ret)))))))
def L16.r:List Rr:=[.tmp 2]
abbrev L16.n:Nat:=28
def L17.c (L24 L0g:FuncId):C :=(.seq (.reg [Au 1 (.box (.t 0)),Ab 2 false]) (.seq (.seq (.reg [Ag 8 2 1,Au 9 (.call L24 [.t 8]),An 10 0 9,Ac 11 0]) (.blk 0 (.loop (.seq (.reg [Aj .lss 12 11 10]) (.seq (.ite (.t 12) .skip (.exit 0)) (.seq (.blk 1 (.seq (.reg [Ai 13 1 9 11,Al 14 13,Am 4 14]) (.seq (.reg [Af 15 0 1,Al 16 15,Au 17 (.build [.nil,.nil] [(0,1,(.t 16))]),Au 5 (.alloc [.nil,.nil]),As 2 5 17]) (.seq (.seq (.reg [Am 18 4,An 19 0 18,Ac 20 0]) (.blk 2 (.loop (.seq (.reg [Aj .lss 21 20 19]) (.seq (.ite (.t 21) .skip (.exit 2)) (.seq (.blk 3 (.seq (.reg [Ai 22 1 18 20,Al 23 22,Am 7 23]) (.drw [
 Af 24 1 5,Al 25 24,Af 26 1 1,Al 27 26,Am 28 7,Ai 29 3 27 28,Ag 30 3 29,Au 31 (.bsi 3 1 [(.i .i64 0),(.i .i64 0),(.i .i64 0)] [(0,(.t 30))]),Au 32 (.app 3 24 (.t 25) (.t 31)),Af 33 1 5,As 1 33 32] []))) (.reg [Ad 34 20 1,Am 20 34]))))))) (.seq (.reg [Ag 35 2 5,Au 36 (.call L0g [.t 35]),Ak .lss 37 36 0]) (.ite (.t 37) (.seq (.reg [Ab 2 true]) .ret) .skip)))))) (.reg [Ad 38 11 1,Am 11 38]))))))) (.seq (.reg [Ab 2 false]) .ret)))
def L17.r:List Rr:=[.tmp 2]
abbrev L17.n:Nat:=39
def Ba (P:Program) (f:FuncId):Prop:=∀v:V3,CallIs P f [v.enc] (.b (v.within 131072))
def Qgv (P:Program) (f:FuncId):Prop:=∀b c:V3,b.valid=true->c.valid=true->CallIs P f [b.enc,c.enc] (crs b c).enc
def DotVC (P:Program) (f:FuncId):Prop:=∀a b:V3,a.valid=true->b.within 8589934592=true->CallIs P f [a.enc,b.enc] (.i .i64 (Qor a b))
theorem Xe {v:V3} (h:v.valid=true):v.within 131072=true:=by
 have:=V3.valid_iff.1 h
 simp[V3.within];omega
theorem Q9w {v:V3} {a b:Int} (hab:a<=b) (h:v.within a=true):v.within b=true:=by
 simp[V3.within]at h ⊢;omega
theorem Qem {b c:V3} (hb:b.valid=true) (hc:c.valid=true):(crs b c).within 8589934592=true:=by
 have:=crs_b hb hc
 simp[V3.within];omega
section
variable {P:Program} (hm:P.follows .mixedOrders=true)
include hm
theorem Q74 {f fw:FuncId} (hf:Q9 P f (L2i.c fw) L2i.r L2i.n) (hw:Ua P fw):Ba P f:=by
 intro v
 refine PureC.is (Q8 hm hf (qh rfl) ?_) rfl
 unfold L2i.c
 simp[go_sem,V3.enc,V3.cs]
 refine Q5 ((hw v 131072 (by omega) (by omega)).is rfl) ?_
 simp[go_sem,L2i.r]
theorem Q76 {f fs:FuncId} (hf:Q9 P f (L2d.c fs) L2d.r L2d.n) (hs:Ba P fs):Qgv P f:=by
 intro b c hb hc
 refine PureC.is (Q8 hm hf (qh rfl) ?_) rfl
 unfold L2d.c
 have h1:=hs b
 have h2:=hs c
 rw[Xe hb]at h1
 rw[Xe hc]at h2
 obtain⟨b1,b2,b3,b4,b5,b6⟩:=V3.valid_iff.1 hb
 obtain⟨c1,c2,c3,c4,c5,c6⟩:=V3.valid_iff.1 hc
 have m1:=Kx b3 b4 c5 c6
 have m2:=Kx b5 b6 c3 c4
 have m3:=Kx b5 b6 c1 c2
 have m4:=Kx b1 b2 c5 c6
 have m5:=Kx b1 b2 c3 c4
 have m6:=Kx b3 b4 c1 c2
 have hcr:crs b c=⟨b.y*c.z-b.z*c.y,b.z*c.x-b.x*c.z,b.x*c.y-b.y*c.x⟩:=rfl
 rw[hcr]
 simp[go_sem,V3.enc,V3.cs]at h1 h2 ⊢
 refine Q5 h1 ?_
 simp[go_sem]
 refine Q5 h2 ?_
 simp (disch:=omega) [go_sem,Q2,L2d.r]
theorem Qcq {f fs fw:FuncId} (hf:Q9 P f (L2f.c fs fw) L2f.r L2f.n) (hs:Ba P fs) (hw:Ua P fw):DotVC P f:=by
 intro a b ha hb
 refine PureC.is (Q8 hm hf (qh rfl) ?_) rfl
 unfold L2f.c
 have h1:=hs a
 have h2:=(hw b 1099511627776 (by omega) (by omega)).is rfl
 rw[Xe ha]at h1
 rw[Q9w (by omega) hb]at h2
 obtain⟨b1,b2,b3,b4,b5,b6⟩:=V3.valid_iff.1 ha
 simp only[V3.within,Bool.and_eq_true,decide_eq_true_eq]at hb
 obtain⟨⟨⟨⟨⟨c1,c2⟩,c3⟩,c4⟩,c5⟩,c6⟩:=hb
 have m1:=Qdt b1 b2 c1 c2
 have m2:=Qdt b3 b4 c3 c4
 have m3:=Qdt b5 b6 c5 c6
 have hd:Qor a b=a.x*b.x+a.y*b.y+a.z*b.z:=rfl
 rw[hd]
 simp[go_sem,V3.enc,V3.cs]at h1 h2 ⊢
 refine Q5 h1 ?_
 simp[go_sem]
 refine Q5 h2 ?_
 simp (disch:=omega) [go_sem,Q2,L2f.r]
theorem Qcr {f fs fc fd:FuncId} (hf:Q9 P f (L2e.c fs fc fd) L2e.r L2e.n) (hs:Ba P fs) (hc:Qgv P fc) (hd:DotVC P fd):DetC P f:=by
 intro x y z hx hy hz
 refine PureC.is (Q8 hm hf (qh rfl) ?_) rfl
 unfold L2e.c
 have h1:=hs y
 have h2:=hs z
 rw[Xe hy]at h1
 rw[Xe hz]at h2
 simp[go_sem,V3.enc,V3.cs]at h1 h2 ⊢
 refine Q5 h1 ?_
 simp[go_sem]
 refine Q5 h2 ?_
 simp[go_sem]
 refine Qo (hc y z hy hz) ?_
 simp[go_sem]
 refine Qo (hd x (crs y z) hx (Qem hy hz)) ?_
 simp[go_sem,L2e.r,Qbx]
theorem Q21 {f fc fd:FuncId} (hf:Q9 P f (L0g.c fc fd) L0g.r L0g.n) (hc:Jq P fc) (hd:DetC P fd):VolC P f:=by
 intro m
 refine PureC.is (Q8 hm hf (qh rfl) ?_) rfl
 unfold L0g.c
 have hv:m.vol6=if m.check=0 then Yy m.verts m.tris else 0:=rfl
 by_cases hz:m.check=0
 case neg =>
  rw[hv,if_neg hz]
  simp[go_sem,Mesh.enc,Mesh.cs]
  refine Q5 (hc m) ?_
  simp[go_sem,hz,L0g.r]
 rw[hv,if_pos hz]
 obtain⟨z1,z2,z3,z4⟩:=Mesh.check_zero.1 hz
 simp[go_sem,Mesh.enc,Mesh.cs]
 refine Q5 (hc m) ?_
 simp[go_sem,hz,vsV,tsV]
 refine Qf (α:=Nat) (λk=>k<=m.tris.length)
  (λk=>⟨[(1,.p 0 1 0 0),(3,.i .i64 (Yy m.verts (m.tris.take k))),(10,tsV m.tris),(11,.i .i64 m.tris.length),(12,.i .i64 k)],[.arr 1 2 [m.cs]]⟩)
  (λk=>m.tris.length-k) 0 (Nat.zero_le _) ?_ ?_
 ·simp[go_sem,Mesh.cs,vsV,tsV,I0]
 ·intro k hk
  by_cases hkl:k=m.tris.length
  ·subst hkl
   rw[qi]
   simp[go_sem,Mesh.cs,vsV,tsV,L0g.r]
  ·have hlt:k<m.tris.length:=by omega
   have hp:m.tris[k]?=some m.tris[k]:=q9 hlt
   generalize m.tris[k]=t at hp
   obtain⟨_,hp'⟩:=q8.1 hp
   have hok:=Q2m z4 hp
   obtain⟨a1,a2,b1,b2,c1,c2⟩:=T3.ok_iff.1 hok
   have ga:=Q25 a1 a2
   have gb:=Q25 b1 b2
   have gc:=Q25 c1 c2
   have va:=Xy z3 a1 a2
   have vb:=Xy z3 b1 b2
   have vc:=Xy z3 c1 c2
   have hb1:=Qkm z3 (ts:=m.tris.take k) (by
    simp only[W2,qj]at z4 ⊢
    exact λx hx=>z4 x (List.mem_of_mem_take hx))
   have hb2:=Qkl z3 hok
   have hln:((m.tris.take k).length:Int)<=4096:=by rw[qv];omega
   have hs:Yy m.verts (m.tris.take (k+1))=Yy m.verts (m.tris.take k)+Q9z m.verts t:=by
    rw[List.take_add_one,hp,Qkn,Option.toList_some,Wt,I0];omega
   have hvt:Q9z m.verts t=Qbx (vAt m.verts t.a) (vAt m.verts t.b) (vAt m.verts t.c):=rfl
   have hdd:=hd _ _ _ va vb vc
   rw[<- hvt]at hdd
   clear hvt
   generalize vAt m.verts t.a=A at *
   generalize vAt m.verts t.b=B at *
   generalize vAt m.verts t.c=C at *
   generalize Yy m.verts (m.tris.take k)=S at *
   generalize Q9z m.verts t=T at *
   obtain⟨ia,ga'⟩:=q8.1 ga
   obtain⟨ib,gb'⟩:=q8.1 gb
   obtain⟨ic,gc'⟩:=q8.1 gc
   simp[go_sem,Mesh.cs,vsV,tsV,hlt,hp,hp',tcs,a1,b1,c1,ga,gb,gc,ia,ib,ic,ga',gb',gc',vcs]
   simp[go_sem,V3.enc,vcs]at hdd
   refine Qo hdd ?_
   simp (disch:=omega) [go_sem,Q2]
   refine⟨k+1,by omega,by omega,?_⟩
   exact⟨hs.symm,by omega⟩
end
theorem Qay {ts:List T3} {sh:List Int} {j:Nat} {v:Int} (h:sh[j]?=some v):Zi ts (sh.take (j+1))=Zi ts (sh.take j)++[tAt ts v.toNat]:=by
 unfold Zi;rw[Qc h,qw];rfl
theorem Q3c (ts:List T3) (sh:List Int):(Zi ts sh).length=sh.length:=by simp[Zi]
def InvC (P:Program) (f:FuncId):Prop:=∀m:Mesh,m.check=0->CallIs P f [m.enc] (.b m.inv)
def ChkC (P:Program) (f:FuncId):Prop:=∀m:Mesh,CallIs P f [m.enc] (.i .i64 (Wl m))
def NoneTo {α:Type} (p:α->Bool) (l:List α) (k:Nat):Prop:=(l.take k).any p=false
theorem NoneTo.zero {α:Type} (p:α->Bool) (l:List α):NoneTo p l 0:=by simp[NoneTo]
theorem NoneTo.all {α:Type} {p:α->Bool} {l:List α} (h:NoneTo p l l.length):l.any p=false:=by unfold NoneTo at h;rwa [qi]at h
theorem Qa6 {α:Type} (p:α->Bool) {l:List α} {k:Nat} {a:α} (h:l[k]?=some a) (hn:NoneTo p l k) (ha:p a=false):NoneTo p l (k+1):=by
 unfold NoneTo at *
 rw[Qc h,List.any_append,hn];simp[ha]
theorem Qgo {α:Type} (p:α->Bool) {l:List α} {k:Nat} {a:α} (h:l[k]?=some a) (ha:p a=true):l.any p=true :=
 List.any_eq_true.2 ⟨a,qb h,ha⟩
theorem degI_at {m:Mesh} (hz:m.check=0) {k:Nat} {t:T3} (h:m.tris[k]?=some t):m.degI (k:Int)=m.deg t:=by
 have hl:=(q8.1 h).1
 unfold Mesh.degI
 rw[if_pos ⟨by omega,by omega,hz⟩,Int.toNat_natCast,h]
theorem chkR_1 {m:Mesh} (h:m.check≠0):Wl m=m.check:=by unfold Wl;rw[if_pos h]
theorem chkR_2 {m:Mesh} (h:m.check=0) (h2:m.closed=false):Wl m=12:=by unfold Wl;rw[if_neg (by simpa using h),if_pos h2]
theorem chkR_3 {m:Mesh} (h:m.check=0) (h2:m.closed=true) (h3:Q0i m.tris=false):Wl m=13:=by unfold Wl;rw[if_neg (by simpa using h),if_neg (by rw[h2];simp),if_pos h3]
theorem chkR_4 {m:Mesh} (h:m.check=0) (h2:m.closed=true) (h3:Q0i m.tris=true):Wl m=if m.tris.any m.deg=true then 1 else if m.inv=true then 1 else 0:=by
 unfold Wl;rw[if_neg (by simpa using h),if_neg (by rw[h2];simp),if_neg (by rw[h3];simp)]
theorem Qov {m:Mesh} (h:m.check=0):m.coh=Q0i m.tris:=by unfold Mesh.coh;rw[h];simp
section
variable {P:Program} (hm:P.follows .mixedOrders=true)
include hm
theorem E3 {f fs fv:FuncId} (hf:Q9 P f (L17.c fs fv) L17.r L17.n) (hs:Q9c P fs) (hv:VolC P fv):InvC P f:=by
 intro m hz
 obtain⟨z1,z2,z3,z4⟩:=Mesh.check_zero.1 hz
 have hok:=Qhv hz
 have hs1:=hs m
 unfold Mesh.inv
 generalize m.shells=shs at *
 generalize hp:(λsh=>decide (Yy m.verts (Zi m.tris sh)<0))=p
 generalize hB:shs.any p=B
 refine PureC.is (Q8 hm hf (qh rfl) ?_) rfl
 unfold L17.c
 simp[go_sem,Mesh.enc,Mesh.cs,vsV,tsV]
 refine Q5 hs1 ?_
 simp[go_sem,lsV]
 have hsv:∀(n:Nat) (a:V3),List.map (V.sh1 n) a.cs=a.cs:=λn a=>by simp[vcs,V.sh1,V.sh0]
 have hst:∀(n:Nat) (a:T3),List.map (V.sh1 n) a.cs=a.cs:=λn a=>by simp[tcs,V.sh1,V.sh0]
 refine Qf (α:=Nat) (λk=>k<=shs.length/\NoneTo p shs k)
  (λk=>⟨[(1,.p 0 1 0 0),(9,lsV shs),(10,.i .i64 shs.length),(11,.i .i64 k)],
   [.arr 1 2 [m.cs]]⟩)
  (λk=>shs.length-k) 0 ⟨Nat.zero_le _,NoneTo.zero _ _⟩ ?_ ?_
 ·simp[go_sem,lsV,Mesh.cs,vsV,tsV,Qa1,E1,hsv,hst]
 ·rintro k ⟨hk,hno⟩
  by_cases hkl:k=shs.length
  ·subst hkl
   obtain rfl:=hB.symm.trans hno.all
   simp[go_sem,lsV,L17.r]
  ·have hlt:k<shs.length:=by omega
   have hnum:=hok.num
   have hq:shs[k]?=some shs[k]:=q9 hlt
   have hmw:shs[k]∈shs:=List.getElem_mem _
   generalize shs[k]=sh at hq hmw
   obtain⟨_,hq'⟩:=q8.1 hq
   have hshl:=hok.len sh hmw
   have hshm:=hok.mem sh hmw
   simp[go_sem,lsV,hlt,hq,hq',Mesh.cs,vsV,tsV,isV]
   refine Z0 [.c 1 0 1 3] (α:=Nat) (λj=>j<=sh.length)
    (λj=>⟨[(1,.p 0 1 0 0),(4,isV sh),(5,.p 1 1 0 0),(9,lsV shs),(10,.i .i64 shs.length),(11,.i .i64 k),(18,isV sh),(19,.i .i64 sh.length),(20,.i .i64 j)],
     [.arr 1 2 [m.cs],.arr 1 2 [[vsV m.verts,.own 2 (j+1) 0 j]],.arr (j+1) 3 ((Zi m.tris (sh.take j)).map T3.cs)]⟩)
    (λj=>sh.length-j) 0 (Nat.zero_le _) ?_ ?_
   ·simp[go_sem,lsV,isV,Zi,Mesh.cs,vsV,tsV,Qa1,E1]
   ·intro j hj
    by_cases hjl:j=sh.length
    ·subst hjl
     rw[qi]
     have hpl:=Q3c m.tris sh
     have hvol:=hv ⟨m.verts,Zi m.tris sh⟩
     have hve:(Mesh.mk m.verts (Zi m.tris sh)).vol6=Yy m.verts (Zi m.tris sh):=by unfold Mesh.vol6;rw[if_pos (Qdl hz hshl hshm)]
     rw[hve]at hvol
     have hps:p sh=decide (Yy m.verts (Zi m.tris sh)<0):=by rw[<- hp]
     generalize Zi m.tris sh=PT at *
     have htkp:List.take sh.length (PT.map T3.cs)=PT.map T3.cs:=qe (by simp;omega)
     simp[go_sem,lsV,isV]
     refine Yb (vs:=[(Mesh.mk m.verts PT).enc]) ?_ hvol ?_
     ·simp[go_sem,X6,frz,X7,Mesh.enc,Mesh.cs,vsV,tsV,Qfm,htkp,hpl]
     ·by_cases hneg:Yy m.verts PT<0
      ·have ha:shs.any p=true:=Qgo p hq (by rw[hps];simpa using hneg)
       obtain rfl:=hB.symm.trans ha
       simp (disch:=omega) [go_sem,vsV,tsV,hneg,L17.r]
      ·have ha:=Qa6 p hq hno (by rw[hps];simpa using hneg)
       simp (disch:=omega) [go_sem,vsV,tsV,hneg,Q2]
       refine⟨k+1,⟨by omega,ha⟩,by omega,?_⟩
       simp (disch:=omega) [go_sem,lsV,Mesh.cs,vsV,tsV,Qa1,E1,Q2]
    ·have hjlt:j<sh.length:=by omega
     have hq2:sh[j]?=some sh[j]:=q9 hjlt
     have hqm:sh[j]∈sh:=List.getElem_mem _
     have hpj:=λv (h:sh[j]?=some v)=>Qay (ts:=m.tris) h
     generalize sh[j]=v at hq2 hqm
     have hpj:=hpj v hq2
     obtain⟨_,hq2'⟩:=q8.1 hq2
     obtain⟨v0,v1⟩:=hshm v hqm
     have v2:v.toNat<m.tris.length:=by omega
     have ht:=Zo v2
     have hpl:=Q3c m.tris (sh.take j)
     rw[qv,Nat.min_eq_left (by omega)]at hpl
     generalize tAt m.tris v.toNat=t at ht hpj
     obtain⟨_,ht'⟩:=q8.1 ht
     generalize hPT:Zi m.tris (sh.take j)=PT at *
     have htkp:List.take j (PT.map T3.cs)=PT.map T3.cs:=qe (by simp;omega)
     simp (disch:=omega) [go_sem,lsV,isV,Mesh.cs,vsV,tsV,hjlt,hq2,hq2',v0,v1,v2,ht,ht',tcs,htkp,hpl,Q2]
     refine⟨⟨by omega,by omega⟩,j+1,by omega,by omega,?_⟩
     rw[hpj]
     exact⟨by omega,rfl,by rw[qw];rfl⟩
theorem Q1b {f fc fl fh fd fi:FuncId} (hf:Q9 P f (L16.c fc fl fh fd fi) L16.r L16.n) (hc:Jq P fc) (hl:Q9p P fl) (hh:Q0t P fh) (hd:DegC P fd) (hi:InvC P fi):ChkC P f:=by
 intro m
 have hl1:=hl m
 have hh1:=hh m
 by_cases hz:m.check=0
 case neg =>
  rw[chkR_1 hz]
  refine PureC.is (Q8 hm hf (qh rfl) ?_) rfl
  unfold L16.c
  simp[go_sem,Mesh.enc,Mesh.cs]
  refine Q5 (hc m) ?_
  simp[go_sem,hz,L16.r]
 obtain⟨z1,z2,z3,z4⟩:=Mesh.check_zero.1 hz
 rw[Qov hz]at hh1
 by_cases hcl:m.closed=false
 case pos =>
  rw[chkR_2 hz hcl]
  rw[hcl]at hl1
  refine PureC.is (Q8 hm hf (qh rfl) ?_) rfl
  unfold L16.c
  simp[go_sem,Mesh.enc,Mesh.cs]
  refine Q5 (hc m) ?_
  simp[go_sem,hz]
  refine Q5 hl1 ?_
  simp[go_sem,L16.r]
 have hcl':m.closed=true:=by simpa using hcl
 rw[hcl']at hl1
 by_cases hco:Q0i m.tris=false
 case pos =>
  rw[chkR_3 hz hcl' hco]
  rw[hco]at hh1
  refine PureC.is (Q8 hm hf (qh rfl) ?_) rfl
  unfold L16.c
  simp[go_sem,Mesh.enc,Mesh.cs]
  refine Q5 (hc m) ?_
  simp[go_sem,hz]
  refine Q5 hl1 ?_
  simp[go_sem]
  refine Q5 hh1 ?_
  simp[go_sem,L16.r]
 have hco':Q0i m.tris=true:=by simpa using hco
 rw[hco']at hh1
 rw[chkR_4 hz hcl' hco']
 generalize hA:m.tris.any m.deg=A
 refine PureC.is (Q8 hm hf (qh rfl) ?_) rfl
 unfold L16.c
 simp[go_sem,Mesh.enc,Mesh.cs,vsV,tsV]
 refine Q5 (hc m) ?_
 simp[go_sem,hz]
 refine Q5 hl1 ?_
 simp[go_sem]
 refine Q5 hh1 ?_
 have hsv:∀(n:Nat) (a:V3),List.map (V.sh1 n) a.cs=a.cs:=λn a=>by simp[vcs,V.sh1,V.sh0]
 have hst:∀(n:Nat) (a:T3),List.map (V.sh1 n) a.cs=a.cs:=λn a=>by simp[tcs,V.sh1,V.sh0]
 simp[go_sem]
 refine Qf (α:=Nat) (λk=>k<=m.tris.length/\NoneTo m.deg m.tris k)
  (λk=>⟨[(1,.p 0 1 0 0),(18,.i .i64 m.tris.length),(19,.i .i64 k)],[.arr 1 2 [m.cs]]⟩)
  (λk=>m.tris.length-k) 0 ⟨Nat.zero_le _,NoneTo.zero _ _⟩ ?_ ?_
 ·simp[go_sem,Mesh.cs,vsV,tsV,Qa1,E1,hsv,hst]
 ·rintro k ⟨hk,hno⟩
  by_cases hkl:k=m.tris.length
  ·subst hkl
   obtain rfl:=hA.symm.trans hno.all
   have hi1:=hi m hz
   simp[go_sem,Mesh.cs,vsV,tsV]
   refine Q5 hi1 ?_
   cases hin:m.inv<;>simp[go_sem,L16.r]
  ·have hlt:k<m.tris.length:=by omega
   have hq:=Zo hlt
   have hdk:=hd m (k:Int)
   rw[degI_at hz hq]at hdk
   simp[go_sem,hlt,Mesh.cs,vsV,tsV]
   refine Q5 hdk ?_
   cases hdg:m.deg (tAt m.tris k) with
   | true =>
     have ha:m.tris.any m.deg=true:=Qgo _ hq hdg
     obtain rfl:=hA.symm.trans ha
     simp[go_sem,L16.r]
   | false =>
     have ha:=Qa6 _ hq hno hdg
     simp (disch:=omega) [go_sem,Q2]
     refine⟨k+1,⟨by omega,ha⟩,by omega,?_⟩
     simp[go_sem,Mesh.cs,vsV,tsV,Qa1,E1]
end
end Go.Abs
