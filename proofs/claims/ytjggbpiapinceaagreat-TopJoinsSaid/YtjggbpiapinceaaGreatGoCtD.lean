/- Part of the library on which the proof stands: an abstract machine, its values and its soundness against the model; or what functions of the program do to such values. -/
import Derived.Test.YtjggbpiapinceaaGreatGoHG
import Derived.Test.YtjggbpiapinceaaGreatGoMap
import Derived.Test.YtjggbpiapinceaaGreatGoRw
import Derived.Test.YtjggbpiapinceaaGreatGoRevC
import Derived.Test.YtjggbpiapinceaaGreatGoSc
import Derived.Test.YtjggbpiapinceaaGreatGoUnF
import Derived.Test.YtjggbpiapinceaaGreatGoSecD
import Derived.Test.YtjggbpiapinceaaGreatAbsSP
import Derived.Test.YtjggbpiapinceaaGreatGoUpX
import Derived.Test.YtjggbpiapinceaaGreatGoSet
set_option linter.unusedVariables false
set_option linter.unusedSimpArgs false
set_option maxHeartbeats 16000000
set_option maxRecDepth 20000
namespace Go.Abs
theorem Kz {l:List Sg4} {i:Nat} (h:i<l.length):l[i]?=some (Qbd l i):=by unfold Qbd;rw[q9 h];rfl
theorem Qjq:CellsD (λ_:Unit=>([]:List V)) P2.cs:=⟨λ_ _=>rfl,by simp,λa x hx=>by simp[P2.cs]at hx;rcases hx with rfl | rfl<;>rfl⟩
abbrev Qnw (b:Nat) (hx:List O) (ps:List (List P2)) (cells:List (List V)):Prop:=HeldR 2 (λ_:Unit=>([]:List V)) P2.cs b hx (ps.map λp=>((),p)) cells
def Qdn (P:Program) (f:FuncId):Prop:=∀l:List Sg4,Qev l ->
 (¬ BalE (egs l)->CallIs P f [Y3 l] (.t [Qq [],.i .i64 12])) /\
 (BalE (egs l)->PureC P f [Y3 l] λr=>∃ps:List (List P2),(ps.flatMap Z4).Perm (neE (egs l))/\ps.length<=l.length/\r=.t [Qq ps,.i .i64 0])
def Q7v (P:Program) (f:FuncId):Prop:=∀(m:Mesh) (z k:Int),CallIs P f [m.enc,.i .i64 z,.i .i64 k] (.t [rgV (Qn m z k).1,.i .i64 (Qn m z k).2])
theorem Qbw (es:List Eg):neE es=es.filter λe=>decide (e.1≠e.2):=by
 unfold neE
 congr 1
theorem Q8v {l:List Sg4} (hl:Qev l) {ps:List (List P2)} (h1:(ps.flatMap Z4).Perm (neE (egs l))) (h2:ps.length<=l.length):PolyOk ps/\∀k,Jz (ps.flatMap Z4) k=Jz (egs l) k:=by
 have hsub:∀e∈neE (egs l),e∈egs l:=λe he=>by
  rw[Qbw]at he
  exact(qu.1 he).1
 refine⟨⟨by have:=hl.1;omega,?_,λe he=>hl.2 e (hsub e (h1.mem_iff.1 he))⟩,λk=>?_⟩
 ·rw[h1.length_eq,Qbw]
  refine Nat.le_trans (j8 _ _) ?_
  simp[egs]
  exact hl.1
 ·rw[Qg5 h1,Qbw,rasR_ne]
section
variable {P:Program} (hm:P.follows .mixedOrders=true)
include hm
theorem Q1w {f fe fs fc fr:FuncId} (hf:Q9 P f (L1n.c fe fs fc fr) L1n.r L1n.n) (he:Qoa P fe) (hs:SecC P fs) (hc:Qdn P fc) (hr:Q7y P fr):Q7v P f:=by
 intro m z k
 have hec:=he k 32 1024 (by omega)
 have hsc:=hs m z
 have hso:=sec_ok m z
 have hz:Le1 (V.a [V.nil]) (rgV []):=.inr ⟨_,_,rfl,rfl,Le0.nil 2,trivial⟩
 unfold Qn
 cases hev:Yq k 32 1024 with
 | false =>
   rw[hev]at hec
   rw[if_pos rfl]
   refine CallIs.res (r:=.t [.a [.nil],.i .i64 1]) ?_ (.inr ⟨_,_,rfl,rfl,hz,Le1.refl _,trivial⟩)
   refine PureC.is (Q8 hm hf (qh rfl) ?_) rfl
   unfold L1n.c
   simp[go_sem,Mesh.enc,Mesh.cs]
   refine Q5 hec ?_
   simp[go_sem,L1n.r]
   done
 | true =>
   rw[hev]at hec
   rw[if_neg (by simp)]
   unfold secL at hsc
   generalize Ze m z=S at *
   obtain⟨l,e⟩:=S
   simp only at hsc hso ⊢
   by_cases h0:e=0
   case neg =>
    rw[if_pos h0]
    refine CallIs.res (r:=.t [.a [.nil],.i .i64 e]) ?_ (.inr ⟨_,_,rfl,rfl,hz,Le1.refl _,trivial⟩)
    refine PureC.is (Q8 hm hf (qh rfl) ?_) rfl
    have hb:(e != 0)=true:=by simpa using h0
    unfold L1n.c
    simp[go_sem,Mesh.enc,Mesh.cs]
    refine Q5 hec ?_
    simp[go_sem]
    refine Q5 hsc ?_
    simp[go_sem,h0,hb,L1n.r]
    done
   subst h0
   rw[if_neg (by simp)]
   obtain⟨hc1,hc2⟩:=hc l hso
   by_cases hbal:BalE (egs l)
   case neg =>
    rw[if_neg hbal]
    have hcc:=hc1 hbal
    refine CallIs.res (r:=.t [.a [.nil],.i .i64 12]) ?_ (.inr ⟨_,_,rfl,rfl,hz,Le1.refl _,trivial⟩)
    refine PureC.is (Q8 hm hf (qh rfl) ?_) rfl
    unfold L1n.c
    simp[go_sem,Mesh.enc,Mesh.cs]
    refine Q5 hec ?_
    simp[go_sem]
    refine Q5 hsc ?_
    simp[go_sem]
    refine Q5 hcc ?_
    simp[go_sem,L1n.r]
    done
   rw[if_pos hbal]
   have hcc:=hc2 hbal
   refine PureC.is (Q8 hm hf (qh rfl) ?_) rfl
   unfold L1n.c
   simp[go_sem,Mesh.enc,Mesh.cs]
   refine Q5 hec ?_
   simp[go_sem]
   refine Q5 hsc ?_
   simp[go_sem]
   refine (hcc.lift rfl _).mono ?_
   rintro r h' ⟨⟨ps,hp1,hp2,rfl⟩,rfl⟩
   obtain⟨hpo,hpr⟩:=Q8v hso hp1 hp2
   have hrc:=hr ps k hpo
   unfold Kc at hrc
   rw[if_neg (by rw[hev];simp),hpr]at hrc
   simp[go_sem]
   refine Q5 hrc ?_
   simp[go_sem,rgV,V.cells,V.okA,L1n.r]
end
def L17.c (L0c L1q L0i L25 L18:FuncId):C :=(.seq (.reg [Au 1 (.box (.t 0)),Ac 2 0]) (.seq (.seq (.reg [Ag 5 2 1,Au 6 (.call L0c [.t 5]),Am 3 6]) (.seq (.reg [Am 7 3,Ak .neq 8 7 0]) (.ite (.t 8) (.seq (.reg [Am 9 3,Am 2 9]) .ret) .skip))) (.seq (.seq (.reg [Ag 10 2 1,Au 11 (.call L1q [.t 10]),Au 12 (.un .not (.t 11))]) (.ite (.t 12) (.seq (.reg [Ac 2 12]) .ret) .skip)) (.seq (.seq (.reg [Ag 13 2 1,Au 14 (.call L0i [.t 13]),Au 15 (.un .not (.t 14))]) (.ite (.t 15) (.seq (.reg [Ac 2 13]) .ret) .skip)) (.seq (.seq (.reg [Af 16 1 1,Al 17 16,An 18 0 17,Ac 19 0]) (.blk 0 (.loop (.seq (.reg [Aj .lss 20 19 18])
 (.seq (.ite (.t 20) .skip (.exit 0)) (.seq (.blk 1 (.seq (.reg [Am 21 19,Am 4 21]) (.seq (.reg [Ag 22 2 1,Am 23 4,Au 24 (.call L25 [.t 22,.t 23])]) (.ite (.t 24) (.seq (.reg [Ac 2 1]) .ret) .skip)))) (.reg [Ad 25 19 1,Am 19 25]))))))) (.seq (.seq (.reg [Ag 26 2 1,Au 27 (.call L18 [.t 26])]) (.ite (.t 27) (.seq (.reg [Ac 2 1]) .ret) .skip)) (.seq (.reg [Ac 2 0]) .ret)))))))
def L17.r:List Rr:=[.tmp 2]
abbrev L17.n:Nat:=28
def L18.c (L1r L0f:FuncId):C :=(.seq (.reg [Au 1 (.box (.t 0)),Ab 2 false]) (.seq (.seq (.reg [Ag 8 2 1,Au 9 (.call L1r [.t 8]),An 10 0 9,Ac 11 0]) (.blk 0 (.loop (.seq (.reg [Aj .lss 12 11 10]) (.seq (.ite (.t 12) .skip (.exit 0)) (.seq (.blk 1 (.seq (.reg [Ai 13 1 9 11,Al 14 13,Am 4 14]) (.seq (.reg [Af 15 0 1,Al 16 15,Au 17 (.build [.nil,.nil] [(0,1,(.t 16))]),Au 5 (.alloc [.nil,.nil]),As 2 5 17]) (.seq (.seq (.reg [Am 18 4,An 19 0 18,Ac 20 0]) (.blk 2 (.loop (.seq (.reg [Aj .lss 21 20 19]) (.seq (.ite (.t 21) .skip (.exit 2)) (.seq (.blk 3 (.seq (.reg [Ai 22 1 18 20,Al 23 22,Am 7 23]) (.drw [
 Af 24 1 5,Al 25 24,Af 26 1 1,Al 27 26,Am 28 7,Ai 29 3 27 28,Ag 30 3 29,Au 31 (.bsi 3 1 [(.i .i64 0),(.i .i64 0),(.i .i64 0)] [(0,(.t 30))]),Au 32 (.app 3 24 (.t 25) (.t 31)),Af 33 1 5,As 1 33 32] []))) (.reg [Ad 34 20 1,Am 20 34]))))))) (.seq (.reg [Ag 35 2 5,Au 36 (.call L0f [.t 35]),Ak .lss 37 36 0]) (.ite (.t 37) (.seq (.reg [Ab 2 true]) .ret) .skip)))))) (.reg [Ad 38 11 1,Am 11 38]))))))) (.seq (.reg [Ab 2 false]) .ret)))
def L18.r:List Rr:=[.tmp 2]
abbrev L18.n:Nat:=39
theorem Q99 {ts:List T3} {sh:List Int} {j:Nat} {v:Int} (h:sh[j]?=some v):Zj ts (sh.take (j+1))=Zj ts (sh.take j)++[tAt ts v.toNat]:=by
 unfold Zj;rw[Qf h,qw];rfl
theorem Q2j (ts:List T3) (sh:List Int):(Zj ts sh).length=sh.length:=by simp[Zj]
def InvC (P:Program) (f:FuncId):Prop:=∀m:Mesh,m.check=0->CallIs P f [m.enc] (.b m.inv)
def ChkC (P:Program) (f:FuncId):Prop:=∀m:Mesh,CallIs P f [m.enc] (.i .i64 (Bw m))
def NoneTo {α:Type} (p:α->Bool) (l:List α) (k:Nat):Prop:=(l.take k).any p=false
theorem NoneTo.zero {α:Type} (p:α->Bool) (l:List α):NoneTo p l 0:=by simp[NoneTo]
theorem NoneTo.all {α:Type} {p:α->Bool} {l:List α} (h:NoneTo p l l.length):l.any p=false:=by unfold NoneTo at h;rwa [qi]at h
theorem Q8j {α:Type} (p:α->Bool) {l:List α} {k:Nat} {a:α} (h:l[k]?=some a) (hn:NoneTo p l k) (ha:p a=false):NoneTo p l (k+1):=by
 unfold NoneTo at *
 rw[Qf h,List.any_append,hn];simp[ha]
theorem Qet {α:Type} (p:α->Bool) {l:List α} {k:Nat} {a:α} (h:l[k]?=some a) (ha:p a=true):l.any p=true :=
 List.any_eq_true.2 ⟨a,qb h,ha⟩
theorem degI_at {m:Mesh} (hz:m.check=0) {k:Nat} {t:T3} (h:m.tris[k]?=some t):m.degI (k:Int)=m.deg t:=by
 have hl:=(q8.1 h).1
 unfold Mesh.degI
 rw[if_pos ⟨by omega,by omega,hz⟩,Int.toNat_natCast,h]
theorem chkR_1 {m:Mesh} (h:m.check≠0):Bw m=m.check:=by unfold Bw;rw[if_pos h]
theorem chkR_2 {m:Mesh} (h:m.check=0) (h2:m.closed=false):Bw m=12:=by unfold Bw;rw[if_neg (by simpa using h),if_pos h2]
theorem chkR_3 {m:Mesh} (h:m.check=0) (h2:m.closed=true) (h3:Bu m.tris=false):Bw m=13:=by unfold Bw;rw[if_neg (by simpa using h),if_neg (by rw[h2];simp),if_pos h3]
theorem chkR_4 {m:Mesh} (h:m.check=0) (h2:m.closed=true) (h3:Bu m.tris=true):Bw m=if m.tris.any m.deg=true then 1 else if m.inv=true then 1 else 0:=by
 unfold Bw;rw[if_neg (by simpa using h),if_neg (by rw[h2];simp),if_neg (by rw[h3];simp)]
theorem Qmn {m:Mesh} (h:m.check=0):m.coh=Bu m.tris:=by unfold Mesh.coh;rw[h];simp
section
variable {P:Program} (hm:P.follows .mixedOrders=true)
include hm
theorem Uh {f fs fv:FuncId} (hf:Q9 P f (L18.c fs fv) L18.r L18.n) (hs:Q7w P fs) (hv:VolC P fv):InvC P f:=by
 intro m hz
 obtain⟨z1,z2,z3,z4⟩:=Mesh.check_zero.1 hz
 have hok:=Qfv hz
 have hs1:=hs m
 unfold Mesh.inv
 generalize m.shells=shs at *
 generalize hp:(λsh=>decide (Yy m.verts (Zj m.tris sh)<0))=p
 generalize hB:shs.any p=B
 refine PureC.is (Q8 hm hf (qh rfl) ?_) rfl
 unfold L18.c
 simp[go_sem,Mesh.enc,Mesh.cs,vsV,tsV]
 refine Q5 hs1 ?_
 simp[go_sem,lsV]
 have hsv:∀(n:Nat) (a:V3),List.map (V.sh1 n) a.cs=a.cs:=λn a=>by simp[vcs,V.sh1,V.sh0]
 have hst:∀(n:Nat) (a:T3),List.map (V.sh1 n) a.cs=a.cs:=λn a=>by simp[tcs,V.sh1,V.sh0]
 refine Qj (α:=Nat) (λk=>k<=shs.length/\NoneTo p shs k)
  (λk=>⟨[(1,.p 0 1 0 0),(9,lsV shs),(10,.i .i64 shs.length),(11,.i .i64 k)],
   [.arr 1 2 [m.cs]]⟩)
  (λk=>shs.length-k) 0 ⟨Nat.zero_le _,NoneTo.zero _ _⟩ ?_ ?_
 ·simp[go_sem,lsV,Mesh.cs,vsV,tsV,Q1o,Ka,hsv,hst]
 ·rintro k ⟨hk,hno⟩
  by_cases hkl:k=shs.length
  ·subst hkl
   obtain rfl:=hB.symm.trans hno.all
   simp[go_sem,lsV,L18.r]
  ·have hlt:k<shs.length:=by omega
   have hnum:=hok.num
   have hq:shs[k]?=some shs[k]:=q9 hlt
   have hmw:shs[k]∈shs:=List.getElem_mem _
   generalize shs[k]=sh at hq hmw
   obtain⟨_,hq'⟩:=q8.1 hq
   have hshl:=hok.len sh hmw
   have hshm:=hok.mem sh hmw
   simp[go_sem,lsV,hlt,hq,hq',Mesh.cs,vsV,tsV,isV]
   refine Zc [.c 1 0 1 3] (α:=Nat) (λj=>j<=sh.length)
    (λj=>⟨[(1,.p 0 1 0 0),(4,isV sh),(5,.p 1 1 0 0),(9,lsV shs),(10,.i .i64 shs.length),(11,.i .i64 k),(18,isV sh),(19,.i .i64 sh.length),(20,.i .i64 j)],
     [.arr 1 2 [m.cs],.arr 1 2 [[vsV m.verts,.own 2 (j+1) 0 j]],.arr (j+1) 3 ((Zj m.tris (sh.take j)).map T3.cs)]⟩)
    (λj=>sh.length-j) 0 (Nat.zero_le _) ?_ ?_
   ·simp[go_sem,lsV,isV,Zj,Mesh.cs,vsV,tsV,Q1o,Ka]
   ·intro j hj
    by_cases hjl:j=sh.length
    ·subst hjl
     rw[qi]
     have hpl:=Q2j m.tris sh
     have hvol:=hv ⟨m.verts,Zj m.tris sh⟩
     have hve:(Mesh.mk m.verts (Zj m.tris sh)).vol6=Yy m.verts (Zj m.tris sh):=by unfold Mesh.vol6;rw[if_pos (Qbp hz hshl hshm)]
     rw[hve]at hvol
     have hps:p sh=decide (Yy m.verts (Zj m.tris sh)<0):=by rw[<- hp]
     generalize Zj m.tris sh=PT at *
     have htkp:List.take sh.length (PT.map T3.cs)=PT.map T3.cs:=qe (by simp;omega)
     simp[go_sem,lsV,isV]
     refine K7 (vs:=[(Mesh.mk m.verts PT).enc]) ?_ hvol ?_
     ·simp[go_sem,Kg,frz,Jd,Mesh.enc,Mesh.cs,vsV,tsV,Q5z,htkp,hpl]
     ·by_cases hneg:Yy m.verts PT<0
      ·have ha:shs.any p=true:=Qet p hq (by rw[hps];simpa using hneg)
       obtain rfl:=hB.symm.trans ha
       simp (disch:=omega) [go_sem,vsV,tsV,hneg,L18.r]
      ·have ha:=Q8j p hq hno (by rw[hps];simpa using hneg)
       simp (disch:=omega) [go_sem,vsV,tsV,hneg,Q3]
       refine⟨k+1,⟨by omega,ha⟩,by omega,?_⟩
       simp (disch:=omega) [go_sem,lsV,Mesh.cs,vsV,tsV,Q1o,Ka,Q3]
    ·have hjlt:j<sh.length:=by omega
     have hq2:sh[j]?=some sh[j]:=q9 hjlt
     have hqm:sh[j]∈sh:=List.getElem_mem _
     have hpj:=λv (h:sh[j]?=some v)=>Q99 (ts:=m.tris) h
     generalize sh[j]=v at hq2 hqm
     have hpj:=hpj v hq2
     obtain⟨_,hq2'⟩:=q8.1 hq2
     obtain⟨v0,v1⟩:=hshm v hqm
     have v2:v.toNat<m.tris.length:=by omega
     have ht:=Zq v2
     have hpl:=Q2j m.tris (sh.take j)
     rw[qv,Nat.min_eq_left (by omega)]at hpl
     generalize tAt m.tris v.toNat=t at ht hpj
     obtain⟨_,ht'⟩:=q8.1 ht
     generalize hPT:Zj m.tris (sh.take j)=PT at *
     have htkp:List.take j (PT.map T3.cs)=PT.map T3.cs:=qe (by simp;omega)
     simp (disch:=omega) [go_sem,lsV,isV,Mesh.cs,vsV,tsV,hjlt,hq2,hq2',v0,v1,v2,ht,ht',tcs,htkp,hpl,Q3]
     refine⟨⟨by omega,by omega⟩,j+1,by omega,by omega,?_⟩
     rw[hpj]
     exact⟨by omega,rfl,by rw[qw];rfl⟩
theorem Q0l {f fc fl fh fd fi:FuncId} (hf:Q9 P f (L17.c fc fl fh fd fi) L17.r L17.n) (hc:Jl P fc) (hl:Q87 P fl) (hh:Q05 P fh) (hd:DegC P fd) (hi:InvC P fi):ChkC P f:=by
 intro m
 have hl1:=hl m
 have hh1:=hh m
 by_cases hz:m.check=0
 case neg =>
  rw[chkR_1 hz]
  refine PureC.is (Q8 hm hf (qh rfl) ?_) rfl
  unfold L17.c
  simp[go_sem,Mesh.enc,Mesh.cs]
  refine Q5 (hc m) ?_
  simp[go_sem,hz,L17.r]
 obtain⟨z1,z2,z3,z4⟩:=Mesh.check_zero.1 hz
 rw[Qmn hz]at hh1
 by_cases hcl:m.closed=false
 case pos =>
  rw[chkR_2 hz hcl]
  rw[hcl]at hl1
  refine PureC.is (Q8 hm hf (qh rfl) ?_) rfl
  unfold L17.c
  simp[go_sem,Mesh.enc,Mesh.cs]
  refine Q5 (hc m) ?_
  simp[go_sem,hz]
  refine Q5 hl1 ?_
  simp[go_sem,L17.r]
 have hcl':m.closed=true:=by simpa using hcl
 rw[hcl']at hl1
 by_cases hco:Bu m.tris=false
 case pos =>
  rw[chkR_3 hz hcl' hco]
  rw[hco]at hh1
  refine PureC.is (Q8 hm hf (qh rfl) ?_) rfl
  unfold L17.c
  simp[go_sem,Mesh.enc,Mesh.cs]
  refine Q5 (hc m) ?_
  simp[go_sem,hz]
  refine Q5 hl1 ?_
  simp[go_sem]
  refine Q5 hh1 ?_
  simp[go_sem,L17.r]
 have hco':Bu m.tris=true:=by simpa using hco
 rw[hco']at hh1
 rw[chkR_4 hz hcl' hco']
 generalize hA:m.tris.any m.deg=A
 refine PureC.is (Q8 hm hf (qh rfl) ?_) rfl
 unfold L17.c
 simp[go_sem,Mesh.enc,Mesh.cs,vsV,tsV]
 refine Q5 (hc m) ?_
 simp[go_sem,hz]
 refine Q5 hl1 ?_
 simp[go_sem]
 refine Q5 hh1 ?_
 have hsv:∀(n:Nat) (a:V3),List.map (V.sh1 n) a.cs=a.cs:=λn a=>by simp[vcs,V.sh1,V.sh0]
 have hst:∀(n:Nat) (a:T3),List.map (V.sh1 n) a.cs=a.cs:=λn a=>by simp[tcs,V.sh1,V.sh0]
 simp[go_sem]
 refine Qj (α:=Nat) (λk=>k<=m.tris.length/\NoneTo m.deg m.tris k)
  (λk=>⟨[(1,.p 0 1 0 0),(18,.i .i64 m.tris.length),(19,.i .i64 k)],[.arr 1 2 [m.cs]]⟩)
  (λk=>m.tris.length-k) 0 ⟨Nat.zero_le _,NoneTo.zero _ _⟩ ?_ ?_
 ·simp[go_sem,Mesh.cs,vsV,tsV,Q1o,Ka,hsv,hst]
 ·rintro k ⟨hk,hno⟩
  by_cases hkl:k=m.tris.length
  ·subst hkl
   obtain rfl:=hA.symm.trans hno.all
   have hi1:=hi m hz
   simp[go_sem,Mesh.cs,vsV,tsV]
   refine Q5 hi1 ?_
   cases hin:m.inv<;>simp[go_sem,L17.r]
  ·have hlt:k<m.tris.length:=by omega
   have hq:=Zq hlt
   have hdk:=hd m (k:Int)
   rw[degI_at hz hq]at hdk
   simp[go_sem,hlt,Mesh.cs,vsV,tsV]
   refine Q5 hdk ?_
   cases hdg:m.deg (tAt m.tris k) with
   | true =>
     have ha:m.tris.any m.deg=true:=Qet _ hq hdg
     obtain rfl:=hA.symm.trans ha
     simp[go_sem,L17.r]
   | false =>
     have ha:=Q8j _ hq hno hdg
     simp (disch:=omega) [go_sem,Q3]
     refine⟨k+1,⟨by omega,ha⟩,by omega,?_⟩
     simp[go_sem,Mesh.cs,vsV,tsV,Q1o,Ka]
end
theorem Q51 {α β γ:Type} {f:β->Option γ} {g:α->β} {k:α->γ}:∀{l:List α},(∀a∈l,f (g a)=some (k a))->(l.map g).mapM f=some (l.map k)
 | [],_=>rfl
 | a::l,h=>by
   have ih:=Q51 (f:=f) (g:=g) (k:=k) (l:=l) λb hb=>h b (by simp[hb])
   simp only[List.map_cons,List.mapM_cons,h a (by simp),ih]
   rfl
def rcE (x y w:Int) (j:Nat):List V:=[.i .i64 (y+j),.own (3+j) 1 0 1]
def rcO (x w:Int):O:=.arr 1 2 [[.i .i64 x,.i .i64 (x+w)]]
theorem rcE_cl (x y w:Int) {i n:Nat} (h:i+3<=n):∀el∈(List.range i).map (rcE x y w),∀c∈el,c.cl n=true:=λel hel c hc=>by
 obtain⟨j,hj,rfl⟩:=qo.1 hel
 have:=qy.1 hj
 simp[rcE]at hc
 rcases hc with rfl | rfl
 ·rfl
 ·simp[V.cl,V.cl1,V.cl0];omega
theorem Qjm (x w:Int):∀(i n:Nat) (l:List O),WeakH n (List.replicate i (rcO x w)++l) (List.replicate i (rcO x w))
 | 0,n,l=>by simp[WeakH]
 | i+1,n,l=>by
   rw[List.replicate_succ]
   exact⟨.inr ⟨rfl,by simp[rcO,O.cl,V.cl,V.cl1,V.cl0]⟩,Qjm x w i n l⟩
def Qdi (P:Program) (f:FuncId):Prop:=∀a b:List Rw,RgV a->RgV b->RgB a->RgB b->CallIs P f [rgV a,rgV b] (rgV (opR 1 a b))
def Qn4 (P:Program) (f:FuncId):Prop:=∀a b:List Rw,RgV a->RgV b->RgB a->RgB b->CallIs P f [rgV a,rgV b] (rgV (opR 2 a b))
def Q01 (P:Program) (f:FuncId):Prop:=∀a b:List Rw,RgV a->RgV b->RgB a->RgB b->(∀y x,Z0 a y x->Z0 b y x)->CallIs P f [rgV a,rgV b] (.b true)
section
variable {P:Program} (hm:P.follows .mixedOrders=true)
include hm
theorem Ui {f fo:FuncId} (hf:Q9 P f (L0v.c fo) L0v.r L0v.n) (ho:OpC P fo):Qdi P f:=by
 intro a b ha hb ba bb
 have h:=ho 1 a b ha hb ba bb
 refine PureC.is (Q8 hm hf (qh rfl) ?_) rfl
 unfold L0v.c
 simp[go_sem,rgV]
 refine Q5 h ?_
 simp[go_sem,rgV,V.cells,V.okA,L0v.r]
theorem Em {f fo:FuncId} (hf:Q9 P f (L0x.c fo) L0x.r L0x.n) (ho:OpC P fo):Qn4 P f:=by
 intro a b ha hb ba bb
 have h:=ho 2 a b ha hb ba bb
 refine PureC.is (Q8 hm hf (qh rfl) ?_) rfl
 unfold L0x.c
 simp[go_sem,rgV]
 refine Q5 h ?_
 simp[go_sem,rgV,V.cells,V.okA,L0x.r]
theorem Q0o {f fv fs:FuncId} (hf:Q9 P f (L10.c fv fs) L10.r L10.n) (hv:Q1l P fv) (hs:Qn4 P fs):Q01 P f:=by
 intro a b ha hb ba bb h
 have c1:=hv a ha ba
 have c2:=hv b hb bb
 have c3:=hs a b ha hb ba bb
 rw[(opR_sub ba bb).2 h]at c3
 unfold rgV at c1 c2 c3
 refine PureC.is (Q8 hm hf (qh rfl) ?_) rfl
 unfold L10.c
 simp[go_sem,rgV]
 refine Q5 c1 ?_
 simp[go_sem]
 refine Q5 c2 ?_
 simp[go_sem]
 refine Q5 c3 ?_
 simp[go_sem,L10.r]
end
theorem rectR_b {x y w d:Int} (hx:-4096<=x/\x+w<=4096) (hy:-4096<=y/\y+d<=4096):RgB (W2 x y w d):=λb a hba=>by
 have:=in_rectR.1 hba
 omega
theorem par_pt {ps:List (Bool × List Sch)} {us:List V} (h:Jq ((true,[.i .i64,.i .i64])::ps) us):∃(v:P2) (r:List V),us=v.enc::r/\Jq ps r:=by
 simp only[Jq,Qe6]at h
 obtain⟨v,r,rfl,⟨cs,rfl,hc⟩,hr⟩:=h
 simp only[okL,Sch.ok]at hc
 obtain⟨_,_,rfl,⟨a,rfl,_⟩,_,_,rfl,⟨b,rfl,_⟩,rfl⟩:=hc
 exact⟨⟨a,b⟩,r,rfl,hr⟩
def Q8u (m:Mesh):Bool:=decide (m.verts.length<=60) && decide (m.tris.length<=60)
def Qnb (P:Program) (f:FuncId):Prop:=∀m:Mesh,CallIs P f [m.enc] (.b (Q8u m))
def Q7t (P:Program) (f:FuncId):Prop:=∀x y n:Int,(-10000<=x/\x<=10000)->(-10000<=y/\y<=10000)->(0<=n/\n<=10000)->CallIs P f [.i .i64 x,.i .i64 y,.i .i64 n] (rgV (W2 x y n n))
def exBox:Mesh:=⟨Qd ⟨40,80,0⟩ ⟨120,120,20⟩,Qk⟩
theorem exBox_ok:exBox.check=0/\Bw exBox=0:=box_ok (by decide) (by decide) (by decide) (by decide) (by decide)
theorem Qa4:Qn exBox 10 40=(W2 1 2 3 3,0):=by
 have hc:=(Q5n (p:=⟨40,80,0⟩) (s:=⟨120,120,20⟩) (by decide) (by decide) (by decide) (by decide) (by decide)).a
 have h:=Q67 (m:=exBox) (z:=10) (k:=40) hc (by omega) (by decide)
 rw[h]
 congr 1
 exact box_ras (x:=1) (y:=2) (w:=3) (d:=3) (p:=⟨40,80,0⟩) (s:=⟨120,120,20⟩) (by omega) (by omega) (by omega) (by omega) (by omega) rfl rfl rfl rfl (by decide) (by decide) (by decide) (by decide) (by decide)
section
variable {P:Program} (hm:P.follows .mixedOrders=true)
include hm
theorem Ku {f:FuncId} (hf:Q9 P f L03.c L03.r L03.n):Q7t P f:=by
 intro x y w hx hy hd
 obtain⟨D,rfl⟩:∃D:Nat,w=D:=⟨w.toNat,by omega⟩
 refine PureC.is (Qjo hm hf (qh rfl) ?_) rfl
 unfold L03.c
 simp[go_sem]
 refine Zc [.c 1 0 0 2] (α:=Nat) (λi=>i<=D)
  (λi=>⟨[(0,.i .i64 x),(1,.i .i64 y),(2,.i .i64 D),(6,.p 0 1 0 0),(7,.p 1 1 0 0),(8,.i .i64 i)],.arr 1 1 [[.nil]]::.arr 1 1 [[.own 2 (i+1) 0 i]]::.arr (i+1) 2 ((List.range i).map (rcE x y D))::List.replicate i (rcO x D)⟩)
  (λi=>D-i) 0 (Nat.zero_le _) ?_ ?_
 ·simp[go_sem]
 intro i hi
 by_cases hil:i=D
 ·subst hil
  simp[go_sem,L03.r]
  have ht:List.take i ((List.range i).map (rcE x y i))=(List.range i).map (rcE x y i):=qe (by simp)
  rw[ht,Q51 (k:=λ(j:Nat)=>[.i .i64 (y+j),.l 2 [[.i .i64 x,.i .i64 (x+i)]]]) λj hj=>by
   have hji:=qy.1 hj
   have hg:∀A B C:O,(A::B::C::List.replicate i (rcO x i))[3+j]?=some (rcO x i):=λA B C=>by
    rw[show 3+j=j+1+1+1 by omega]
    simp[hji]
   simp only[rcE,List.mapM_cons,List.mapM_nil,U3,Jd,hg,V.isD]
   simp[rcO,V.isD]]
  simp[rgV,W2,Rw.cs,Qe,Rn.cs,Yu]
 have hlt:i<D:=by omega
 have ht:List.take i ((List.range i).map (rcE x y D))=(List.range i).map (rcE x y D):=qe (by simp)
 have hgi:∀a b:O,(List.replicate i (rcO x D)++[a,b])[i+1]?=some b:=λa b=>by
  rw[qf (by simp)];simp
 simp (disch:=omega) [go_sem,hlt,ht,hgi,Q3]
 refine⟨⟨by omega,by omega⟩,i+1,by omega,by omega,by omega,by omega,rfl,⟨⟨rfl,?_⟩,λa ha c hc=>rcE_cl x y D (i:=i+1) (by omega) _ (List.mem_map_of_mem (qy.2 ha)) c hc⟩,?_⟩
 ·rw[List.range_succ,qw]
  simp[rcE]
  omega
 ·have e:∀b:O,List.replicate i (rcO x D)++[rcO x D,b]=List.replicate (i+1) (rcO x D)++[b]:=λb=>by
   rw[List.replicate_succ'];simp
  have e2:=e (O.arr 1 2 [[V.i IntKind.i64 (y+↑i),V.own (i+1+1+1) 1 0 1]])
  have:=Qjm x D (i+1) (i+1+1+1+1) [O.arr 1 2 [[V.i IntKind.i64 (y+↑i),V.own (i+1+1+1) 1 0 1]]]
  rw[<- e2]at this
  exact this
theorem U5 {f:FuncId} (hf:Q9 P f L02.c L02.r L02.n):Qnb P f:=by
 intro m
 refine PureC.is (Q8 hm hf (qh rfl) ?_) rfl
 unfold L02.c
 obtain⟨p,hp⟩:∃p:Bool,decide ((m.verts.length:Int)<=60)=p:=⟨_,rfl⟩
 obtain⟨q,hq⟩:∃q:Bool,decide ((m.tris.length:Int)<=60)=q:=⟨_,rfl⟩
 have hB:Q8u m=(p && q):=by
  unfold Q8u
  rw[<- hp,<- hq]
  congr 1<;>exact decide_eq_decide.2 (by omega)
 rw[hB]
 cases p<;>cases q<;>simp only[decide_eq_true_eq,decide_eq_false_iff_not]at hp hq<;>simp[go_sem,Mesh.enc,Mesh.cs,vsV,tsV,hp,hq,L02.r]
theorem Kw {f fb fs fq fe fc:FuncId} (hf:Q9 P f (L01.c fb fs fq fe fc) L01.r L01.n) (hb:BoxC P fb) (hs:Q7v P fs) (hq:Q7t P fq) (he:Qdc P fe) (hc:ChkC P fc):Qdo P f:=by
 have c2:=hb ⟨40,80,0⟩ ⟨120,120,20⟩ (by decide) (by decide)
 rw[show Qad ⟨40,80,0⟩ ⟨120,120,20⟩=Q2x exBox 0 by rfl]at c2
 have c3:=hs exBox 10 40
 rw[Qa4]at c3
 have c4:=hq 1 2 3 (by omega) (by omega) (by omega)
 have hv:RgV (W2 1 2 3 3)/\RgB (W2 1 2 3 3):=⟨Qe0 (by omega),rectR_b (by omega) (by omega)⟩
 have c5:=he _ _ hv.1 hv.1 hv.2 hv.2
 rw[decide_eq_true rfl]at c5
 have c6:=hc exBox
 rw[exBox_ok.2]at c6
 have hmc:exBox.cs.length=2:=rfl
 have hmt:List.take 2 exBox.cs=exBox.cs:=rfl
 have hmd:∀x∈exBox.cs,x.isD=true:=by
  intro x hx
  simp[Mesh.cs]at hx
  rcases hx with rfl | rfl<;>rfl
 have hmcl:∀n,∀x∈exBox.cs,x.cl n=true:=λn x hx=>Kf n (hmd x hx)
 unfold Q2x Mesh.enc at c2
 simp only[Mesh.enc]at c3 c6
 simp only[rgV]at c3 c4 c5
 simp only[V3.enc,V3.cs]at c2
 generalize exBox=m at *
 generalize W2 1 2 3 3=R at *
 refine PureC.is (Q8 hm hf (qh rfl) ?_) rfl
 unfold L01.c
 simp[go_sem]
 refine Q5 c2 ?_
 simp[go_sem,V.cells,V.okA,hmc,hmt]
 refine Q5 c3 ?_
 simp[go_sem,V.cells,V.okA,hmc,hmt]
 refine Ql c4 ?_
 simp[go_sem,V.cells,V.okA,hmc,hmt]
 refine Ql c5 ?_
 simp[go_sem,V.cells,V.okA,hmc,hmt]
 refine Ql c6 ?_
 simp[go_sem,V.cells,V.okA,hmc,hmt,L01.r]
end
section
variable {P:Program} (hm:P.follows .mixedOrders=true)
include hm
theorem TopJoins_ok {f fl fa fj fs fi fw fu:FuncId} (hf:Q9 P f (L00.c fl fa fj fs fi fw fu) L00.r L00.n) (hl:Qnb P fl) (ha:Qdo P fa) (hj:Qnv P fj) (hs:Q7v P fs) (hi:Qdi P fi) (hw:Q01 P fw) (hu:UniC P fu)
  (a b:Mesh) (p:P2):PureC P f [a.enc,b.enc,p.enc] (·=.b true):=by
 have l1:=hl a
 have l2:=hl b
 have j1:=hj a b
 have s1:=hs a p.x p.y
 have s2:=hs b p.x p.y
 have s3:=hs (Zu a b).1 p.x p.y
 have v1:=Q20 a p.x p.y
 have v2:=Q20 b p.x p.y
 have v3:=Q20 (Zu a b).1 p.x p.y
 have hjs:(Zu a b).2=0->(Qn a p.x p.y).2=0->(Qn b p.x p.y).2=0->_:=λh1 h2 h3=>Qc7 h1 h2 h3
 have i1:=hi _ _ v1.1 v2.1 v1.2 v2.2
 have u1:=hu _ _ v1.1 v2.1 v1.2 v2.2
 have w1:(Zu a b).2=0->(Qn a p.x p.y).2=0->(Qn b p.x p.y).2=0->CallIs P fw [rgV (opR 1 (Qn a p.x p.y).1 (Qn b p.x p.y).1),rgV (Qn (Zu a b).1 p.x p.y).1] (.b true):=λh1 h2 h3 =>
  hw _ _ (Q09 _ _ _) v3.1 (Q9b _ _ _) v3.2 λy x h=>(hjs h1 h2 h3).2.1 y x ((Qeg v1.2 v2.2).1 h).1 ((Qeg v1.2 v2.2).1 h).2
 have w2:(Zu a b).2=0->(Qn a p.x p.y).2=0->(Qn b p.x p.y).2=0->CallIs P fw [rgV (Qn (Zu a b).1 p.x p.y).1,rgV (Qik (Qn a p.x p.y).1 (Qn b p.x p.y).1)] (.b true):=λh1 h2 h3=>by
  rw[<- Q9a]
  refine hw _ _ v3.1 (Q09 _ _ _) v3.2 (Q9b _ _ _) λy x h=>(Bm v1.2 v2.2).2 ?_
  rcases (hjs h1 h2 h3).2.2 y x h with h | h<;>simp[Y7,h]
 have hz:(Zu a b).2=0->(Qn a p.x p.y).2=0->(Qn b p.x p.y).2=0->(Qn (Zu a b).1 p.x p.y).2=0:=λh1 h2 h3=>(hjs h1 h2 h3).1
 clear hjs v1 v2 v3
 generalize opR 1 (Qn a p.x p.y).1 (Qn b p.x p.y).1=I at *
 generalize Qik (Qn a p.x p.y).1 (Qn b p.x p.y).1=U at *
 generalize Qn a p.x p.y=A at *
 generalize Qn b p.x p.y=B at *
 generalize Qn (Zu a b).1 p.x p.y=S at *
 generalize Zu a b=J at *
 obtain⟨A,e⟩:=A
 obtain⟨B,f'⟩:=B
 obtain⟨S,g⟩:=S
 obtain⟨J,j⟩:=J
 obtain⟨z,k⟩:=p
 simp only[]at *
 simp only[Mesh.enc,Mesh.cs,rgV]at l1 l2 j1 s1 s2 s3 i1 u1 w1 w2
 refine Q8 hm hf (qh rfl) ?_
 unfold L00.c
 simp[go_sem,Mesh.enc,Mesh.cs,P2.enc,P2.cs]
 refine Q5 l1 ?_
 cases Q8u a with
 | false =>
   simp[go_sem]
   refine Q5 ha ?_
   simp[go_sem,L00.r]
 | true =>
 simp[go_sem]
 refine Q5 l2 ?_
 cases Q8u b with
 | false =>
   simp[go_sem]
   refine Q5 ha ?_
   simp[go_sem,L00.r]
 | true =>
 simp[go_sem]
 refine Q5 j1 ?_
 simp[go_sem]
 refine Q5 s1 ?_
 simp[go_sem]
 refine Q5 s2 ?_
 by_cases hj0:j=0
 case neg =>
  have hj':(j != 0)=true:=by simpa using hj0
  simp[go_sem,hj0,hj']
  refine Q5 ha ?_
  simp[go_sem,L00.r]
 by_cases he0:e=0
 case neg =>
  have he':(e != 0)=true:=by simpa using he0
  simp[go_sem,hj0,he0,he']
  refine Q5 ha ?_
  simp[go_sem,L00.r]
 by_cases hf0:f'=0
 case neg =>
  have hf':(f' != 0)=true:=by simpa using hf0
  simp[go_sem,hj0,he0,hf0,hf']
  refine Q5 ha ?_
  simp[go_sem,L00.r]
 have hg0:=hz hj0 he0 hf0
 have w1:=w1 hj0 he0 hf0
 have w2:=w2 hj0 he0 hf0
 simp[go_sem,hj0,he0,hf0]
 refine Q5 s3 ?_
 simp[go_sem,hg0]
 refine Ql i1 ?_
 simp[go_sem,hg0]
 refine Ql w1 ?_
 simp[go_sem,hg0]
 refine Ql u1 ?_
 simp[go_sem,hg0]
 refine Ql w2 ?_
 simp[go_sem,hg0]
 refine Ql ha ?_
 simp[go_sem,L00.r]
end
theorem Xl {h l:List O} {id:Nat} (hid:id<h.length):(h++l)[id]?=h[id]?:=qd hid
theorem Ij {h l:List O} {id:Nat} (hid:id<h.length) (o:O):(h++l).set id o=h.set id o++l:=List.set_append_left _ _ hid
theorem Qg8 (e:Int):Le (.t [.nil,.i .i64 e]) (.t [Qq [],.i .i64 e]):=.inr ⟨_,_,rfl,rfl,.inl (Le0.nil 1),Le1.refl _,trivial⟩
theorem Q92 {p:P2} (h:(-65536<=p.x/\p.x<=65536)/\-65536<=p.y/\p.y<=65536):p.valid=true:=P2.valid_iff.2 ⟨by omega,by omega,by omega,by omega⟩
theorem Q4q {l:List Sg4} (h:Qev l) {s:Sg4} (hs:s∈l):s.eg.1.valid=true/\s.eg.2.valid=true:=by
 obtain⟨a,b,c,d⟩:=h.2 s.eg (qo.2 ⟨s,hs,rfl⟩)
 exact⟨Q92 ⟨a,b⟩,Q92 ⟨c,d⟩⟩
theorem Qdx (s:Sg4):s.eg.1.enc=.a [.i .i64 s.a.1,.i .i64 s.a.2]:=rfl
theorem Qdw (s:Sg4):s.eg.2.enc=.a [.i .i64 s.b.1,.i .i64 s.b.2]:=rfl
end Go.Abs
