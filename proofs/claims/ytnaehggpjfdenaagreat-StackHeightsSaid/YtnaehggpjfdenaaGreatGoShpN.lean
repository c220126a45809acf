/- Part of the library on which the proof stands: an abstract machine, its values and its soundness against the model; or what functions of the program do to such values. -/
import Derived.Test.YtnaehggpjfdenaaGreatGoSo
import Derived.Test.YtnaehggpjfdenaaGreatGoShp
import Derived.Test.YtnaehggpjfdenaaGreatGoMapG
import Derived.Test.YtnaehggpjfdenaaGreatGoRsD
import Derived.Test.YtnaehggpjfdenaaGreatGoTo
import Derived.Test.YtnaehggpjfdenaaGreatGoShpD
import Derived.Test.YtnaehggpjfdenaaGreatGoSecF
set_option linter.unusedVariables false
set_option linter.unusedSimpArgs false
set_option maxHeartbeats 8000000
set_option maxRecDepth 20000
namespace Go.Abs
theorem UM.cl2 {hx:List O} {KJ:List (P2 × (Nat × Nat))} {Q:List (P2 × Int)} (h:UM hx KJ Q) {N:Nat} (hN:hx.length+2<=N):∀(a b:V) (x:P2) (y z:Nat),(x,y,z)∈KJ->asG P2.enc evU (x,y,z)=(a,b)->a.cl N=true/\b.cl N=true:=λa b x y z hm he=>by
 have:=h.cl hN (asG P2.enc evU (x,y,z)) (qo.2 ⟨_,hm,rfl⟩)
 rw[he]at this
 exact this
theorem Qdq (m:Mesh) (N:Nat):∀x∈m.cs,x.cl N=true:=by
 intro x hx
 simp[Mesh.cs]at hx
 rcases hx with rfl | rfl<;>rfl
theorem Flt.one {o:O} (h:∀n,o.cl n):Flt [o]:=λx hx n=>by simp at hx;subst hx;exact h n
theorem fe_cl (e:P2) (n:Nat):(O.arr 1 2 [[V.i .i64 e.x,V.i .i64 e.y]]).cl n:=by
 intro el hel x hx
 simp at hel;subst hel
 simp at hx;rcases hx with rfl | rfl<;>rfl
theorem J3 {α:Type} [BEq α] [LawfulBEq α]:∀{A B:List α},A.Nodup->(∀a∈A,a∈B)->A.length<=B.length
 | [],_,_,_=>Nat.zero_le _
 | a::A,B,h,hs=>by
   have h1:=List.nodup_cons.1 h
   have h2:=J3 (A:=A) (B:=B.erase a) h1.2 λb hb=>by
    rw[List.mem_erase_of_ne (by rintro rfl;exact h1.1 hb)]
    exact hs b (by simp[hb])
   rw[List.length_erase_of_mem (hs a (by simp))]at h2
   have:=List.length_pos_of_mem (hs a (by simp))
   simp only[List.length_cons]
   omega
theorem Part.len {ts:List T3} {D S:List Int} {i:Nat} (h:Part ts D S i):S.length<=ts.length:=by
 have h1:=(List.nodup_append.1 h.nodup).2.1
 have h2:=J3 (B:=(List.range ts.length).map λ(j:Nat)=>(j:Int)) h1 λv hv=>by
  obtain⟨h0,hc⟩:=h.mem v hv
  exact qo.2 ⟨v.toNat,qy.2 hc.lt.2,by omega⟩
 simpa using h2
def BfK (ts:List T3) (D S:List Int) (k:Nat):Prop:=∀(k':Nat) (v:Int),k'<k->S[k']?=some v->∀j:Nat,adjI ts v.toNat j->(j:Int)∈D++S
structure BfI (ts:List T3) (D S:List Int) (i k:Nat) (v:Int) (E:List P2):Prop where
 part:Part ts D S i
 bk:BfK ts D S k
 at_:S[k]?=some v
 ed:∀e∈E,∀w∈usL (Eu ts ts.length) e.und,w∈D++S
theorem Q3q {D S:List Int} {u w:Int} (h:w∈D++S):w∈D++(S++[u]):=by
 rcases qg.1 h with h | h<;>simp[h]
theorem BfI.add {ts:List T3} {D S:List Int} {i k:Nat} {v u:Int} {E:List P2} (h:BfI ts D S i k v E) (hu:0<=u) (hadj:adjI ts v.toNat u.toNat) (hn:u∉D++S):BfI ts D (S++[u]) i k v E:=by
 have hk:=(q8.1 h.at_).1
 refine⟨h.part.add (qb h.at_) hu hadj hn,λk' w hk' hw j hj=>?_,by rw[qd hk];exact h.at_,λe he w hw=>Q3q (h.ed e he w hw)⟩
 rw[qd (by omega)]at hw
 exact Q3q (h.bk k' w hk' hw j hj)
theorem BfI.more {ts:List T3} {D S:List Int} {i k:Nat} {v:Int} {E:List P2} (h:BfI ts D S i k v E) {e:P2} (ha:∀w∈usL (Eu ts ts.length) e.und,w∈D++S):BfI ts D S i k v (E++[e]) :=
 ⟨h.part,h.bk,h.at_,λe' he w hw=>by
  rcases qg.1 he with h1 | h1
  ·exact h.ed e' h1 w hw
  ·simp at h1;subst h1;exact ha w hw⟩
theorem BfI.next {ts:List T3} {D S:List Int} {i k:Nat} {v:Int} (h:BfI ts D S i k v (Q7 (tAt ts v.toNat))):BfK ts D S (k+1):=λk' w hk' hw j hj=>by
 by_cases hkk:k'=k
 ·subst hkk
  rw[h.at_]at hw
  obtain rfl:=Option.some.inj hw
  obtain⟨e,he,hm⟩:=(adj_us hj.lt.1).1 hj
  exact h.ed e he _ hm
 ·exact h.bk k' w (by omega) hw j hj
theorem old0 {ts:List T3} {L:List Int} (hL:IsLab ts L):Old ts L [] 0 :=
 ⟨by simp,λv=>by
  constructor
  ·intro h;simp at h
  ·rintro⟨j,_,_,u,h3,h4⟩
   have:=(hL.con j u h3).1
   omega⟩
section
variable {P:Program} (hm:P.follows .mixedOrders=true)
include hm
theorem Q2n {f fc fe fu fs:FuncId} (hf:Q9 P f (L22.c fc fe fu fs) L22.r L22.n) (hc:Jo P fc) (he:Ey P fe) (hu:UndC P fu) (hs:Q97 P fs):Q9a P f:=by
 intro m
 by_cases hz:m.check=0
 case neg =>
  have he:m.shells=[]:=by simp[Mesh.shells,hz]
  rw[he]
  refine CallIs.res (r:=.nil) ?_ lsV_nil
  refine PureC.is (Q8 hm hf (qh rfl) ?_) rfl
  unfold L22.c
  simp[go_sem,Mesh.enc,Mesh.cs]
  refine Q5 (hc m) ?_
  simp[go_sem,hz,L22.r]
 have hl:=(Mesh.check_zero.1 hz).2.1
 obtain⟨L,hL⟩:=Q84 m.tris
 have hR:m.shells=Xq L L.length:=by unfold Mesh.shells;rw[if_pos hz,Ir hL]
 rw[hR]
 have hLl:=hL.len
 refine PureC.is (Qar hm hf (qh rfl) ?_) rfl
 unfold L22.c
 simp[go_sem,Mesh.enc,Mesh.cs,tsV]
 refine Q5 (hc m) ?_
 simp[go_sem,hz]
 refine Qh (α:=Nat × List O × List (P2 × (Nat × Nat))) (λp=>p.1<=m.tris.length/\UM p.2.1 p.2.2 (Eu m.tris p.1)/\Flt p.2.1)
  (λp=>⟨[(1,.p 0 1 0 0),(3,.mp 1),(22,tsV m.tris),(23,.i .i64 m.tris.length),(24,.i .i64 p.1)],.arr 1 2 [m.cs]::.mp (p.2.2.map (asG P2.enc evU))::p.2.1⟩)
  (λp=>m.tris.length-p.1) (0,[],[]) ⟨Nat.zero_le _,UM.nil,by simp[Flt]⟩ ?_ ?_
 ·simp[go_sem,Mesh.cs,vsV,tsV]
 ·rintro⟨i,hx,KJ⟩ ⟨hi,hU,hF⟩
  simp only at hi hU hF ⊢
  by_cases hil:i=m.tris.length
  ·subst hil
   simp[go_sem,Mesh.cs,tsV,mk_nil]
   have hmcs:m.cs=[vsV m.verts,.l 3 (m.tris.map T3.cs)]:=rfl
   obtain⟨pre,hpre⟩:∃pre:List (List V)->Nat->List (List V)->List O,pre=λM g C=>.arr 1 2 [m.cs]::.mp (KJ.map (asG P2.enc evU))::(hx++[.arr 1 1 M,.arr g 1 C]):=⟨_,rfl⟩
   obtain⟨mi,hmi⟩:∃mi,mi=hx.length+2:=⟨_,rfl⟩
   obtain⟨oi,hoi⟩:∃oi,oi=hx.length+3:=⟨_,rfl⟩
   obtain⟨N,hN⟩:∃N,N=hx.length+4:=⟨_,rfl⟩
   have plen:∀M g C,(pre M g C).length=N:=λM g C=>by rw[hpre,hN];simp
   have f0:∀M g C l,(pre M g C++l)[0]?=some (.arr 1 2 [m.cs]):=λM g C l=>by rw[hpre];rfl
   have f1:∀M g C l,(pre M g C++l)[1]?=some (.mp (KJ.map (asG P2.enc evU))):=λM g C l=>by rw[hpre];rfl
   have fm:∀M g C l,(pre M g C++l)[mi]?=some (.arr 1 1 M):=λM g C l=>by rw[hpre,hmi];simp[Qg,Qd]
   have fo:∀M g C l,(pre M g C++l)[oi]?=some (.arr g 1 C):=λM g C l=>by rw[hpre,hoi];simp[Qg,Qd]
   have fu:∀M g C l j o,hx[j]?=some o->(pre M g C++l)[j+2]?=some o:=λM g C l j o h=>by rw[hpre];simp only[List.cons_append,List.getElem?_cons_succ,qz];exact X9 h
   have fk0:∀M g C l,(pre M g C++l)[N]?=l[0]?:=λM g C l=>by rw[<- plen M g C];exact Qg _ _
   have fk:∀M g C l k,(pre M g C++l)[N+k]?=l[k]?:=λM g C l k=>by rw[<- plen M g C];exact Qd _ _ _
   have sm:∀M M' g C l,(pre M g C++l).set mi (.arr 1 1 M')=pre M' g C++l:=λM M' g C l=>by rw[hpre,hmi];simp[Qt,Qn]
   have so:∀M g g' C C' l,(pre M g C++l).set oi (.arr g' 1 C')=pre M g' C'++l:=λM g g' C C' l=>by rw[hpre,hoi];simp[Qt,Qn]
   have sk:∀M g C l k o,(pre M g C++l).set (N+k) o=pre M g C++l.set k o:=λM g C l k o=>by rw[<- plen M g C];exact Qn _ _ _ _
   have pcl:∀D g C n',N<=n'->(∀el∈C,∀x∈el,x.cl n'=true)->∀o∈pre (mk m.tris.length D) g C,o.cl n':=by
    intro D g C n' hn hC o ho
    rw[hpre]at ho
    simp only[List.mem_cons,qg,List.not_mem_nil,or_false]at ho
    rcases ho with rfl | rfl | ho | rfl | rfl
    ·intro el hel x hx'
     simp at hel;subst hel;exact Qdq m n' x hx'
    ·exact hU.cl (by omega)
    ·exact hF o ho n'
    ·exact mk_cl _ _ _
    ·exact hC
   refine⟨⟨by omega,by omega⟩,?_⟩
   refine Qz [.t 8 1] (α:=Nat × List Int × List (List V) × List O) (λp=>p.1<=m.tris.length/\Old m.tris L p.2.1 p.1/\Held N p.2.2.2 (Xq L p.1) p.2.2.1/\Flt p.2.2.2/\(Xq L p.1).length<=p.1)
    (λp=>⟨[(1,.p 0 1 0 0),(3,.mp 1),(8,.own oi ((Xq L p.1).length+1) 0 (Xq L p.1).length),(9,.own mi 1 0 m.tris.length),(54,.i .i64 m.tris.length),(55,.i .i64 p.1)],
     pre (mk m.tris.length p.2.1) ((Xq L p.1).length+1) p.2.2.1++p.2.2.2⟩)
    (λp=>m.tris.length-p.1) (0,[],[],[]) ⟨Nat.zero_le _,old0 hL,Held.nil N,by simp[Flt],by simp[Xq]⟩ ?_ ?_
   ·simp[go_sem,hpre,hmi,hoi,Xq,hmcs]
    exact⟨rfl,hU.cl2 (by omega),Qy (λo ho=>hF o ho _) ⟨.inr ⟨rfl,mk_cl _ _ _⟩,.inr ⟨rfl,by simp[O.cl]⟩,trivial⟩⟩
   ·rintro⟨i,D,cells,hy⟩ ⟨hi,hD,hH,hFy,hsl⟩
    simp only at hi hD hH hFy hsl ⊢
    clear hpre
    by_cases hil:i=m.tris.length
    ·subst hil
     rw[hLl]
     have hfz:=held_if (base:=pre (mk m.tris.length D) ((Xq L m.tris.length).length+1) cells) hH (plen _ _ _)
     generalize hls:Xq L m.tris.length=ls at *
     simp[go_sem,L22.r,Q9k,fo]
     rw[hfz];rfl
    ·have hlt:i<m.tris.length:=by omega
     have hmg:=Qm5 (n:=m.tris.length) (d:=D) (v:=(i:Int)) (by omega) (by omega)
     rw[Int.toNat_natCast]at hmg
     obtain⟨_,hmg'⟩:=q8.1 hmg
     have hst:=Q5y L i
     generalize hls:Xq L i=ls at *
     by_cases hd:(i:Int)∈D
     ·obtain⟨hD2,hne⟩:=hD.skip hL hd
      rw[if_neg hne,List.append_nil]at hst
      rw[decide_eq_true hd]at hmg hmg'
      simp (disch:=omega) [go_sem,hlt,fm,hmg,hmg',Q3]
      refine⟨i+1,D,cells,hy,⟨by omega,hD2,by rw[hst];exact hH,hFy,by rw[hst];omega⟩,by omega,?_⟩
      rw[hst]
      simp[go_sem,plen]
      exact⟨⟨by omega,by omega,by omega,by omega⟩,Qy (pcl _ _ _ _ (by simp) (hH.cl (by simp))) (hFy.WeakH' _)⟩
     ·have hLi:=hD.own hL hlt hd
      rw[if_pos hLi]at hst
      rw[decide_eq_false hd]at hmg hmg'
      have hP0:=Part.one hD hlt hd
      have hms:=λd=>Qm4 (n:=m.tris.length) (d:=d) (v:=(i:Int)) (by omega)
      simp only[Int.toNat_natCast]at hms
      simp (disch:=omega) [go_sem,hlt,fm,sm,hmg,hmg',hms,plen,Q3]
      have hwk:∀(D' S':List Int) (a:Nat) (l:List O) (n':Nat),N+hy.length<=n'->WeakH n' (pre (mk m.tris.length D') (ls.length+1) cells++(hy++(O.arr a 1 (ics S')::l))) (pre (mk m.tris.length D') (ls.length+1) cells++(hy++[O.arr a 1 (ics S')])) :=
       λD' S' a l n' hn=>Qy (pcl _ _ _ _ (by omega) (hH.cl (by omega))) (Qy (λo ho=>hFy o ho _) ⟨.inr ⟨rfl,Q3z _ _⟩,by cases l<;>trivial⟩)
      have hcell:=hH.1
      refine Qh (α:=Nat × List Int) (λp=>p.1<=p.2.length/\Part m.tris D p.2 i/\BfK m.tris D p.2 p.1)
       (λp=>⟨[(1,.p 0 1 0 0),(3,.mp 1),(8,.own oi (ls.length+1) 0 ls.length),(9,.own mi 1 0 m.tris.length),(11,.own (N+hy.length) p.2.length 0 p.2.length),(12,.i .i64 p.1),(54,.i .i64 m.tris.length),(55,.i .i64 i)],
        pre (mk m.tris.length (D++p.2)) (ls.length+1) cells++(hy++[.arr p.2.length 1 (ics p.2)])⟩)
       (λp=>m.tris.length-p.1) (0,[(i:Int)]) ⟨by simp,hP0,λ_ _ h=>by omega⟩ ?_ ?_
      ·simp[go_sem,ics,plen]
       exact⟨⟨by omega,by omega,by omega,by omega⟩,hwk _ [(i:Int)] 1 [] _ (by omega)⟩
      ·rintro⟨k,S⟩ ⟨hk,hP,hB⟩
       simp only at hk hP hB ⊢
       have hSl:=hP.len
       have gS:∀M g C g' els l,(pre M g C++(hy++(O.arr g' 1 els::l)))[N+hy.length]?=some (.arr g' 1 els):=λM g C g' els l=>by rw[fk,Qg];rfl
       have gT:∀M g C o x l,(pre M g C++(hy++(o::x::l)))[N+(hy.length+1)]?=some x:=λM g C o x l=>by rw[fk,Qd];rfl
       have sS:∀M g C o o' l,(pre M g C++(hy++(o::l))).set (N+hy.length) o'=pre M g C++(hy++(o'::l)):=λM g C o o' l=>by rw[sk,Qt];rfl
       by_cases hkl:k=S.length
       ·subst hkl
        have hall:=hP.all hL hD hlt hLi λv hv j hj=>by
         obtain⟨k',hk'⟩:=qq hv
         exact hB k' v (q8.1 hk').1 hk' j hj
        have hso:=Ql1 (List.nodup_append.1 hP.nodup).2.1 hall
        have hon:=hD.next hL hP.nodup hall
        rw[hLl]at hst
        generalize shK L i m.tris.length=W at *
        have hWl:W.length=S.length:=by rw[<- hso];simp[Zq]
        have hcall:=hs (pre (mk m.tris.length (D++S)) (ls.length+1) cells++(hy++[O.arr S.length 1 (ics S)])) (N+hy.length) S.length S (by omega) (gS _ _ _ _ _ _)
        rw[sS,hso]at hcall
        have htc:List.take ls.length cells=cells:=qe (by omega)
        have hHs:Held N (hy++[O.arr S.length 1 (ics W)]) (ls++[W]) (cells++[[.own (N+hy.length) S.length 0 S.length]]):=by
         have:=(hH.app [O.arr S.length 1 (ics W)]).snoc (j:=hy.length) (l:=W) (g:=S.length) (by rw[Qg];rfl)
         rwa [hWl]at this
        have hFs:Flt (hy++[O.arr S.length 1 (ics W)]):=hFy.app (Flt.one λn=>Q3z W n)
        simp (disch:=omega) [go_sem,gS]
        refine Qr hcall ?_
        change Nx P _ _ _ _ _ (pre (mk m.tris.length (D++S)) (ls.length+1) cells++(hy++[O.arr S.length 1 (ics W)]))
        simp (disch:=omega) [go_sem,fo,so,htc,gT,plen,Q3]
        refine⟨⟨by omega,by omega,by omega⟩,i+1,D++S,_,hy++[O.arr S.length 1 (ics W)],⟨by omega,hon,by rw[hst];exact hHs,hFs,by rw[hst];simp;omega⟩,by omega,?_⟩
        rw[hst]
        simp[go_sem,plen]
        exact⟨⟨by omega,by omega,by omega,by omega⟩,Qy (pcl _ _ _ _ (by omega) (hHs.cl (by simp))) (Qy (λo ho=>hFy o ho _) ⟨.inr ⟨rfl,Q3z _ _⟩,trivial⟩)⟩
       ·have hkS:k<S.length:=by omega
        have hv:S[k]?=some S[k]:=q9 hkS
        generalize S[k]=v at hv
        obtain⟨hv0,hvc⟩:=hP.mem v (qb hv)
        have hvl:=hvc.lt.2
        have hic:(ics S)[k]?=some [V.i .i64 v]:=by simp[ics,hv]
        obtain⟨hicl,hic'⟩:=q8.1 hic
        have ht:=Zo hvl
        generalize htt:tAt m.tris v.toNat=t at ht
        obtain⟨_,ht'⟩:=q8.1 ht
        have hvl2:v<m.tris.length:=by omega
        simp (disch:=omega) [go_sem,f0,hmcs,hkS,gS,hic,hic',hicl,ht,ht',hvl,hvl2,hv0,tcs,Q3]
        refine Qo (he t) ?_
        have hlen:(Q7 t).length<=3:=X7 t 3
        have hnx:∀S',BfI m.tris D S' i k v (Q7 t)->BfK m.tris D S' (k+1):=λS' h=>by rw[<- htt]at h;exact h.next
        have htm:m.tris[v.toNat]?=some t:=ht
        have hel:∀e∈Q7 t,e∈Q7 t:=λe h=>h
        generalize hEE:Q7 t=E at hlen hnx hel
        simp[go_sem,psV]
        refine Qh (α:=Nat × List Int) (λp=>p.1<=E.length/\BfI m.tris D p.2 i k v (E.take p.1))
         (λp=>⟨[(1,.p 0 1 0 0),(3,.mp 1),(8,.own oi (ls.length+1) 0 ls.length),(9,.own mi 1 0 m.tris.length),(11,.own (N+hy.length) p.2.length 0 p.2.length),(12,.i .i64 k),(54,.i .i64 m.tris.length),(55,.i .i64 i),(81,psV E),(82,.i .i64 E.length),(83,.i .i64 p.1)],
          pre (mk m.tris.length (D++p.2)) (ls.length+1) cells++(hy++[.arr p.2.length 1 (ics p.2)])⟩)
         (λp=>E.length-p.1) (0,S) ⟨Nat.zero_le _,hP,hB,hv,by simp⟩ ?_ ?_
        ·simp[go_sem,psV,plen]
         exact⟨⟨by omega,by omega,by omega,by omega⟩,hwk _ S _ [] _ (by omega)⟩
        ·clear hP hB hv hic hicl hic' hkl hkS hk hSl
         rintro⟨q,S⟩ ⟨hq,hI⟩
         simp only at hq hI ⊢
         have hSl:=hI.part.len
         have hkS:=(q8.1 hI.at_).1
         by_cases hql:q=E.length
         ·subst hql
          rw[qi]at hI
          have hB:=hnx S hI
          simp (disch:=omega) [go_sem,psV,Q3,plen]
          exact⟨k+1,S,⟨by omega,hI.part,hB⟩,by omega,⟨by omega,by omega,by omega,by omega,rfl,by simp⟩,hwk _ S _ [] _ (by omega)⟩
         ·have hqE:q<E.length:=by omega
          have hee:E[q]?=some E[q]:=q9 hqE
          generalize E[q]=e at hee
          have heE:e∈E:=qb hee
          have htk:=Qc hee
          obtain⟨_,hee'⟩:=q8.1 hee
          have hfe:Ql [1,1] (V.a [.i .i64 e.und.x,.i .i64 e.und.y]) (KJ.map (asG P2.enc evU))=_:=Xv W9 evU e.und KJ
          simp (disch:=omega) [go_sem,psV,hqE,hee,hee',pcs,gT,Qg,Qd]
          refine Q5 (hu e) ?_
          cases hfn:Z8 e.und KJ with
          | none =>
            rw[hfn,Option.map_none]at hfe
            have hus:=hU.none _ hfn
            simp (disch:=omega) [go_sem,P2.enc,P2.cs,f1,hfe,Q3]
            refine Qh (α:=Unit) (λ_=>True)
             (λ_=>⟨[(1,.p 0 1 0 0),(3,.mp 1),(8,.own oi (ls.length+1) 0 ls.length),(9,.own mi 1 0 m.tris.length),(11,.own (N+hy.length) S.length 0 S.length),(12,.i .i64 k),(54,.i .i64 m.tris.length),(55,.i .i64 i),(81,psV E),(82,.i .i64 E.length),(83,.i .i64 q),(91,.i .i64 0),(92,.i .i64 0)],
              pre (mk m.tris.length (D++S)) (ls.length+1) cells++(hy++[.arr S.length 1 (ics S)])⟩)
             (λ_=>0) () trivial ?_ ?_
            ·simp[go_sem,psV,plen]
             exact⟨⟨by omega,by omega,by omega,by omega⟩,hwk _ S _ _ _ (by omega)⟩
            ·intro _ _
             simp (disch:=omega) [go_sem,psV,plen,Q3]
             exact⟨q+1,S,⟨by omega,by rw[htk];exact hI.more (by rw[hus];simp)⟩,by omega,⟨by omega,by omega,by omega,by omega,rfl,by simp⟩,hwk _ S _ [] _ (by omega)⟩
          | some w =>
            obtain⟨p,jj,n⟩:=w
            rw[hfn,Option.map_some]at hfe
            obtain⟨hn,hjj⟩:=hU.val p e.und jj n (Zt hfn)
            have hjjl:=(q8.1 hjj).1
            have gU:=λM g C l=>fu M g C l jj _ hjj
            have hmU:∀w∈usL (Eu m.tris m.tris.length) e.und,∃j:Nat,j<m.tris.length/\w=(j:Int)/\adjI m.tris v.toNat j:=λw hw=>by
             obtain⟨j,h1,h2,a,ha,hab⟩:=mem_allP.1 (mem_usL.1 hw)
             exact⟨j,h1,h2,t,_,htm,Zo h1,e,by rw[hEE];exact heE,a,ha,hab.symm⟩
            have hmore:=λS' (h:BfI m.tris D S' i k v (E.take q))=>h.more (e:=e)
            have hUl:=Qfg (Eu m.tris m.tris.length) e.und
            have hAl:=Qc8 m.tris m.tris.length
            generalize usL (Eu m.tris m.tris.length) e.und=U at hn hjj gU hmU hmore hUl
            subst hn
            simp (disch:=omega) [go_sem,P2.enc,P2.cs,f1,hfe,evU,gU,Q3]
            refine Qh (α:=Nat × List Int) (λp=>p.1<=U.length/\BfI m.tris D p.2 i k v (E.take q)/\∀w∈U.take p.1,w∈D++p.2)
             (λp=>⟨[(1,.p 0 1 0 0),(3,.mp 1),(8,.own oi (ls.length+1) 0 ls.length),(9,.own mi 1 0 m.tris.length),(11,.own (N+hy.length) p.2.length 0 p.2.length),(12,.i .i64 k),(54,.i .i64 m.tris.length),(55,.i .i64 i),(81,psV E),(82,.i .i64 E.length),(83,.i .i64 q),(90,.own (jj+2) U.length 0 U.length),(91,.i .i64 U.length),(92,.i .i64 p.1)],
              pre (mk m.tris.length (D++p.2)) (ls.length+1) cells++(hy++[.arr p.2.length 1 (ics p.2)])⟩)
             (λp=>U.length-p.1) (0,S) ⟨Nat.zero_le _,hI,by simp⟩ ?_ ?_
            ·simp[go_sem,psV,plen]
             exact⟨⟨by omega,by omega,by omega,by omega,by omega⟩,hwk _ S _ _ _ (by omega)⟩
            ·clear hI hSl hkS
             rintro⟨r,S⟩ ⟨hr,hI,hmr⟩
             simp only at hr hI hmr ⊢
             have hSl:=hI.part.len
             by_cases hrl:r=U.length
             ·subst hrl
              rw[qi]at hmr
              simp (disch:=omega) [go_sem,psV,plen,Q3]
              exact⟨q+1,S,⟨by omega,by rw[htk];exact hmore S hI hmr⟩,by omega,⟨by omega,by omega,by omega,by omega,rfl,by simp⟩,hwk _ S _ [] _ (by omega)⟩
             ·have hrU:r<U.length:=by omega
              have hur:U[r]?=some U[r]:=q9 hrU
              obtain⟨j,hjl,hju,hadj⟩:=hmU _ (qb hur)
              rw[hju]at hur
              have htr:=Qc hur
              have hicU:(ics U)[r]?=some [V.i .i64 (j:Int)]:=by simp[ics,hur]
              obtain⟨hiclU,hicU'⟩:=q8.1 hicU
              have hmg:=Qm5 (n:=m.tris.length) (d:=D++S) (v:=(j:Int)) (by omega) (by omega)
              rw[Int.toNat_natCast]at hmg
              obtain⟨hmgl,hmg'⟩:=q8.1 hmg
              have hms:=Qm4 (n:=m.tris.length) (d:=D++S) (v:=(j:Int)) (by omega)
              rw[Int.toNat_natCast]at hms
              by_cases hjm:(j:Int)∈D++S
              ·rw[decide_eq_true hjm]at hmg hmg'
               have hmr2:∀w∈U.take (r+1),w∈D++S:=λw hw=>by
                rw[htr]at hw
                rcases qg.1 hw with h | h
                ·exact hmr w h
                ·simp at h;subst h;exact hjm
               generalize hDS:D++S=DS at *
               simp (disch:=omega) [go_sem,psV,gU,hrU,hur,hicU,hicU',hiclU,fm,hmg,hmg',plen,Q3]
               exact⟨hjl,r+1,S,⟨by omega,hI,λw hw=>qg.1 (by rw[hDS];exact hmr2 w hw)⟩,by omega,⟨by omega,by omega,by omega,by omega,rfl,by omega,by simp⟩,by rw[hDS];exact hwk DS S _ [] _ (by omega)⟩
              ·rw[decide_eq_false hjm]at hmg hmg'
               have hI2:=hI.add (u:=(j:Int)) (by omega) (by rw[Int.toNat_natCast];exact hadj) hjm
               have hmr2:∀w∈U.take (r+1),w∈D++(S++[(j:Int)]):=λw hw=>by
                rw[htr]at hw
                rcases qg.1 hw with h | h
                ·exact Q3q (hmr w h)
                ·simp at h;subst h;simp
               have htS:List.take S.length (ics S)=ics S:=qe (by simp[ics])
               have hiS:S.length<=(ics S).length:=by simp[ics]
               have hDS2:D++(S++[(j:Int)])=D++S++[(j:Int)]:=(qz _ _ _).symm
               have hicsS:ics (S++[(j:Int)])=ics S++[[.i .i64 (j:Int)]]:=by simp[ics]
               generalize hDS:D++S=DS at *
               simp (disch:=omega) [go_sem,psV,gU,hrU,hur,hicU,hicU',hiclU,fm,sm,gS,sS,gT,htS,hiS,hmg,hmg',hms,plen,Q3]
               refine⟨hjl,⟨by omega,by omega⟩,r+1,S++[(j:Int)],⟨by omega,hI2,λw hw=>qg.1 (hmr2 w hw)⟩,by omega,⟨by omega,by omega,by omega,by omega,by simp,by omega,by simp⟩,?_⟩
               rw[hDS2,hicsS,j3,List.length_singleton]
               have:=hwk (DS++[(j:Int)]) (S++[(j:Int)]) (S.length+1) [] (N+(hy.length+1)) (by omega)
               rwa [hicsS]at this
  ·have hlt:i<m.tris.length:=by omega
   have hp:=Zo hlt
   have hps:=Q6u m.tris i
   have hal:=Qc8 m.tris i
   generalize tAt m.tris i=t at hp hps
   obtain⟨_,hp'⟩:=q8.1 hp
   generalize hQ:Eu m.tris i=Q at *
   simp[go_sem,Mesh.cs,tsV,hlt,hp,hp',tcs,Qg,Qd]
   refine Q5 (he t) ?_
   have hlen:(Q7 t).length<=3:=X7 t 3
   simp[go_sem,psV]
   refine Qh (α:=Nat × List O × List (P2 × (Nat × Nat))) (λp=>p.1<=(Q7 t).length/\UM p.2.1 p.2.2 (Q++((Q7 t).take p.1).map λe=>(e.und,(i:Int)))/\Flt p.2.1)
    (λp=>⟨[(1,.p 0 1 0 0),(3,.mp 1),(4,.i .i64 i),(22,tsV m.tris),(23,.i .i64 m.tris.length),(24,.i .i64 i),(30,psV (Q7 t)),(31,.i .i64 (Q7 t).length),(32,.i .i64 p.1)],.arr 1 2 [m.cs]::.mp (p.2.2.map (asG P2.enc evU))::p.2.1⟩)
    (λp=>(Q7 t).length-p.1) (0,hx++[.arr 1 3 [t.cs]],KJ) ⟨Nat.zero_le _,by simpa using hU.app _,hF.app (by simp[Flt,O.cl,Uy])⟩ ?_ ?_
   ·simp[go_sem,Mesh.cs,tsV,vsV,psV]
    exact⟨hU.cl2 (by omega),(hF.app (Flt.one (o:=.arr 1 3 [t.cs]) λn=>by intro el hel x hx;simp at hel;subst hel;exact of_eq_true (Uy t n) x hx)).WeakH' _⟩
   ·rintro⟨j,hx,KJ⟩ ⟨hj,hU,hF⟩
    simp only at hj hU hF ⊢
    by_cases hjl:j=(Q7 t).length
    ·subst hjl
     rw[qi,<- hps]at hU
     simp (disch:=omega) [go_sem,Mesh.cs,tsV,vsV,psV,Q3]
     exact⟨i+1,hx,KJ,⟨by omega,hU,hF⟩,by omega,by omega,by simp,⟨rfl,hU.cl2 (by omega)⟩,hF.WeakH' _⟩
    ·have hjt:j<(Q7 t).length:=by omega
     have hq:(Q7 t)[j]?=some (Q7 t)[j]:=q9 hjt
     have htk:((Q7 t).take (j+1)).map (λe=>(e.und,(i:Int)))=((Q7 t).take j).map (λe=>(e.und,(i:Int)))++[((Q7 t)[j].und,(i:Int))]:=by rw[Qc hq,qw];rfl
     generalize (Q7 t)[j]=e at hq htk
     obtain⟨_,hq'⟩:=q8.1 hq
     have hQs:Q++((Q7 t).take (j+1)).map (λe=>(e.und,(i:Int)))=(Q++((Q7 t).take j).map λe=>(e.und,(i:Int)))++[(e.und,(i:Int))]:=by rw[htk,<- qz]
     have hQl:(Q++((Q7 t).take j).map λe=>(e.und,(i:Int))).length<=12300:=by rw[j3,List.length_map,qv];omega
     generalize (Q++((Q7 t).take j).map λe=>(e.und,(i:Int)))=Q1 at *
     have hul:=Qfg Q1 e.und
     have hfe:Ql [1,1] (V.a [.i .i64 e.und.x,.i .i64 e.und.y]) (KJ.map (asG P2.enc evU))=_:=Xv W9 evU e.und KJ
     simp[go_sem,psV,hjt,hq,hq',pcs,Qg,Qd]
     refine Qo (hu e) ?_
     simp[go_sem,P2.enc,P2.cs,Qg,Qd]
     refine Qo (hu e) ?_
     cases hfn:Z8 e.und KJ with
     | none =>
       rw[hfn,Option.map_none]at hfe
       simp (disch:=omega) [go_sem,P2.enc,P2.cs,hfe,Qg,Qd,Q3]
       have hF2:Flt (hx++[.arr 1 2 [[.i .i64 e.x,.i .i64 e.y]],.arr 1 1 (ics [(i:Int)])]):=hF.app λo ho n=>by
        simp at ho
        rcases ho with rfl | rfl
        ·exact fe_cl e n
        ·exact Q3z _ _
       have hU2:=hU.new (v:=(i:Int)) hfn (l:=[.arr 1 2 [[.i .i64 e.x,.i .i64 e.y]],.arr 1 1 (ics [(i:Int)])]) (j0:=hx.length+1) (by omega) (by rw[Qd];rfl)
       exact⟨j+1,_,_,⟨by omega,by rw[<- List.map_take,hQs];exact hU2,hF2⟩,by omega,by simp,⟨.inr rfl,by simp⟩,Qdq m _,⟨by rw[qw];rfl,hU2.cl2 (by simp)⟩,hF2.WeakH' _⟩
     | some q =>
       obtain⟨p,jj,n⟩:=q
       rw[hfn,Option.map_some]at hfe
       obtain⟨hn,hjj⟩:=hU.val p e.und jj n (Zt hfn)
       have hjjl:=(q8.1 hjj).1
       have hgj:∀l:List O,(hx++l)[jj]?=some (.arr n 1 (ics (usL Q1 e.und))):=λl=>X9 hjj
       have hsj:∀(l:List O) (o:O),(hx++l).set jj o=hx.set jj o++l:=λl o=>Q0m l hjjl o
       have htn:List.take n (ics (usL Q1 e.und))=ics (usL Q1 e.und):=qe (by simp[ics,hn])
       have hnl:n<=(ics (usL Q1 e.und)).length:=by simp[ics,hn]
       simp (disch:=omega) [go_sem,P2.enc,P2.cs,hfe,evU,hgj,hsj,htn,hnl,Qg,Qd,Q3]
       have hF2:Flt (hx.set jj (.arr (n+1) 1 (ics (usL Q1 e.und)++[[.i .i64 (i:Int)]]))++[.arr 1 2 [[.i .i64 e.x,.i .i64 e.y]]]):=(hF.set λn'=>by
        have:ics (usL Q1 e.und)++[[V.i .i64 (i:Int)]]=ics (usL Q1 e.und++[(i:Int)]):=by simp[ics]
        rw[this];exact Q3z _ _).app (Flt.one (fe_cl e))
       have hU2:=(hU.old (v:=(i:Int)) hfn).app [.arr 1 2 [[.i .i64 e.x,.i .i64 e.y]]]
       refine⟨⟨by omega,by omega⟩,λo ho=>?_,j+1,_,_,⟨by omega,by rw[<- List.map_take,hQs];exact hU2,hF2⟩,by omega,by simp,⟨.inr rfl,by simp⟩,Qdq m _,⟨by rw[List.map_set];rfl,hU2.cl2 (by simp)⟩,hF2.WeakH' _⟩
       rw[List.drop_eq_nil_of_le (by simp)]at ho
       simp at ho
end
def crs (b c:V3):V3:=⟨b.y*c.z-b.z*c.y,b.z*c.x-b.x*c.z,b.x*c.y-b.y*c.x⟩
def Qoj (a b:V3):Int:=a.x*b.x+a.y*b.y+a.z*b.z
def Qbt (a b c:V3):Int:=Qoj a (crs b c)
def vAt (vs:List V3) (i:Int):V3:=(vs[i.toNat]?).getD ⟨0,0,0⟩
def Q9x (vs:List V3) (t:T3):Int:=Qbt (vAt vs t.a) (vAt vs t.b) (vAt vs t.c)
def Yx (vs:List V3) (ts:List T3):Int:=(ts.map (Q9x vs)).sum
def Mesh.vol6 (m:Mesh):Int:=if m.check=0 then Yx m.verts m.tris else 0
def VolC (P:Program) (f:FuncId):Prop:=∀m:Mesh,CallIs P f [m.enc] (.i .i64 m.vol6)
def DetC (P:Program) (f:FuncId):Prop:=∀a b c:V3,a.valid=true->b.valid=true->c.valid=true->CallIs P f [a.enc,b.enc,c.enc] (.i .i64 (Qbt a b c))
theorem I0 (vs:List V3):Yx vs []=0:=rfl
theorem Wr (vs:List V3) (t:T3) (ts:List T3):Yx vs (t::ts)=Q9x vs t+Yx vs ts:=by simp[Yx]
theorem Qke (vs:List V3) (a b:List T3):Yx vs (a++b)=Yx vs a+Yx vs b:=by
 induction a with
 | nil=>simp[I0]
 | cons t a ih=>rw[List.cons_append,Wr,Wr,ih];omega
theorem Qdp {x y A B:Int} (h1:-A<=x) (h2:x<=A) (h3:-B<=y) (h4:y<=B):-(A*B)<=x*y/\x*y<=A*B:=by
 have hA:0<=A:=by omega
 have hB:0<=B:=by omega
 have a1:=Int.mul_nonneg (a:=A-x) (b:=B-y) (by omega) (by omega)
 have a2:=Int.mul_nonneg (a:=A+x) (b:=B+y) (by omega) (by omega)
 have a3:=Int.mul_nonneg (a:=A-x) (b:=B+y) (by omega) (by omega)
 have a4:=Int.mul_nonneg (a:=A+x) (b:=B-y) (by omega) (by omega)
 simp only[Int.mul_add,Int.add_mul,Int.mul_sub,Int.sub_mul]at a1 a2 a3 a4
 omega
theorem Kw {x y:Int} (h1:-65536<=x) (h2:x<=65536) (h3:-65536<=y) (h4:y<=65536):-4294967296<=x*y/\x*y<=4294967296:=Qdp (A:=65536) (B:=65536) h1 h2 h3 h4
theorem crs_b {b c:V3} (hb:b.valid=true) (hc:c.valid=true):-8589934592<=(crs b c).x/\(crs b c).x<=8589934592/\-8589934592<=(crs b c).y/\(crs b c).y<=8589934592/\-8589934592<=(crs b c).z/\(crs b c).z<=8589934592:=by
 obtain⟨b1,b2,b3,b4,b5,b6⟩:=V3.valid_iff.1 hb
 obtain⟨c1,c2,c3,c4,c5,c6⟩:=V3.valid_iff.1 hc
 have m1:=Kw b3 b4 c5 c6
 have m2:=Kw b5 b6 c3 c4
 have m3:=Kw b5 b6 c1 c2
 have m4:=Kw b1 b2 c5 c6
 have m5:=Kw b1 b2 c3 c4
 have m6:=Kw b3 b4 c1 c2
 unfold crs
 refine⟨?_,?_,?_,?_,?_,?_⟩<;>simp only<;>omega
theorem det3_b {a b c:V3} (ha:a.valid=true) (hb:b.valid=true) (hc:c.valid=true):-1688849860263936<=Qbt a b c/\Qbt a b c<=1688849860263936:=by
 obtain⟨b1,b2,b3,b4,b5,b6⟩:=V3.valid_iff.1 ha
 obtain⟨c1,c2,c3,c4,c5,c6⟩:=crs_b hb hc
 have m1:=Qdp b1 b2 c1 c2
 have m2:=Qdp b3 b4 c3 c4
 have m3:=Qdp b5 b6 c5 c6
 unfold Qbt Qoj
 omega
theorem Q26 {vs:List V3} {i:Int} (h0:0<=i) (h:i<vs.length):vs[i.toNat]?=some (vAt vs i):=by
 unfold vAt;rw[q9 (by omega)];rfl
theorem Xx {vs:List V3} (hv:J7 vs=true) {i:Int} (h0:0<=i) (h:i<vs.length):(vAt vs i).valid=true:=Q9v hv (Q26 h0 h)
theorem Qkc {vs:List V3} (hv:J7 vs=true) {t:T3} (ht:t.ok vs.length=true):-1688849860263936<=Q9x vs t/\Q9x vs t<=1688849860263936:=by
 obtain⟨a1,a2,b1,b2,c1,c2⟩:=T3.ok_iff.1 ht
 exact det3_b (Xx hv a1 a2) (Xx hv b1 b2) (Xx hv c1 c2)
theorem Qkd {vs:List V3} (hv:J7 vs=true):∀{ts:List T3},W2 vs.length ts=true->-1688849860263936*(ts.length:Int)<=Yx vs ts/\Yx vs ts<=1688849860263936*(ts.length:Int)
 | [],_=>by simp[I0]
 | t::ts,h=>by
   have h':t.ok vs.length=true/\W2 vs.length ts=true:=by simpa[W2]using h
   have h1:=Qkc hv h'.1
   have h2:=Qkd hv h'.2
   rw[Wr,List.length_cons]
   omega
def Zj (ts:List T3) (sh:List Int):List T3:=sh.map λv=>tAt ts v.toNat
structure ShOk (n:Nat) (shs:List (List Int)):Prop where
 num:shs.length<=n
 len:∀sh∈shs,sh.length<=n
 mem:∀sh∈shs,∀v∈sh,0<=v/\v<n
 nodup:shs.flatten.Nodup
theorem Qd3 (L:List Int) (i k:Nat):(shK L i k).Nodup:=by
 have hsh:(shK L i k).Pairwise λa b=>a<b:=by
  unfold shK
  rw[jd]
  have h1:(List.range k).Pairwise (λa b:Nat=>a<b):=List.pairwise_lt_range
  exact(h1.filter _).imp λ{a b:Nat} (h:a<b)=>by show (a:Int)<(b:Int);omega
 exact hsh.imp λh=>by omega
theorem mem_shK2 {L:List Int} {i k:Nat} {v:Int}:v∈shK L i k↔∃j:Nat,v=(j:Int)/\j<k/\L[j]?=some (i:Int):=by
 unfold shK
 rw[qo]
 constructor
 ·rintro⟨j,hj,rfl⟩
  have hf:=qu.1 hj
  exact⟨j,rfl,qy.1 hf.1,by simpa using hf.2⟩
 ·rintro⟨j,rfl,h1,h2⟩
  exact⟨j,qu.2 ⟨qy.2 h1,by simpa using h2⟩,rfl⟩
theorem shsK_mem {L:List Int} {k:Nat} {sh:List Int}:sh∈Xq L k↔∃i:Nat,i<k/\L[i]?=some (i:Int)/\sh=shK L i L.length:=by
 unfold Xq
 rw[qo]
 constructor
 ·rintro⟨i,hi,rfl⟩
  have hf:=qu.1 hi
  exact⟨i,qy.1 hf.1,by simpa using hf.2,rfl⟩
 ·rintro⟨i,h1,h2,rfl⟩
  exact⟨i,qu.2 ⟨qy.2 h1,by simpa using h2⟩,rfl⟩
theorem Qd1 (L:List Int) (k:Nat):(Xq L k).flatten.Nodup:=by
 induction k with
 | zero=>simp[Xq]
 | succ k ih =>
   rw[Q5y]
   split
   ·rw[List.flatten_append,List.nodup_append]
    refine⟨ih,by simpa using Qd3 L k L.length,λa ha b hb=>?_⟩
    simp at hb
    obtain⟨sh,hs,has⟩:=List.mem_flatten.1 ha
    obtain⟨i,hi,_,rfl⟩:=shsK_mem.1 hs
    obtain⟨j,rfl,_,hj⟩:=mem_shK2.1 has
    rintro rfl
    obtain⟨j',hjj,_,hj'⟩:=mem_shK2.1 hb
    obtain rfl:j=j':=by omega
    rw[hj]at hj'
    have:=Option.some.inj hj'
    omega
   ·simpa using ih
theorem Qhn {m:Mesh} (hz:m.check=0):ShOk m.tris.length m.shells:=by
 obtain⟨L,hL⟩:=Q84 m.tris
 have hR:m.shells=Xq L m.tris.length:=by unfold Mesh.shells;rw[if_pos hz,Ir hL,hL.len]
 rw[hR]
 refine⟨?_,λsh hs=>?_,λsh hs v hv=>?_,Qd1 _ _⟩
 ·unfold Xq
  rw[List.length_map]
  have:=j8 (λ(i:Nat)=>decide (L[i]?=some (i:Int))) (List.range m.tris.length)
  rwa [List.length_range]at this
 ·obtain⟨i,_,_,rfl⟩:=shsK_mem.1 hs
  unfold shK
  rw[List.length_map]
  have:=j8 (λ(j:Nat)=>decide (L[j]?=some (i:Int))) (List.range L.length)
  rw[List.length_range,hL.len]at this
  rw[hL.len]
  omega
 ·obtain⟨i,_,_,rfl⟩:=shsK_mem.1 hs
  obtain⟨j,rfl,h1,_⟩:=mem_shK2.1 hv
  rw[hL.len]at h1
  omega
theorem tAt_ok {n:Nat} {ts:List T3} (h:W2 n ts=true) {i:Nat} (hi:i<ts.length):(tAt ts i).ok n=true:=Q2m h (Zo hi)
theorem Qdh {m:Mesh} (hz:m.check=0) {sh:List Int} (hl:sh.length<=m.tris.length) (hv:∀v∈sh,0<=v/\v<m.tris.length):(Mesh.mk m.verts (Zj m.tris sh)).check=0:=by
 obtain⟨z1,z2,z3,z4⟩:=Mesh.check_zero.1 hz
 refine Mesh.check_zero.2 ⟨z1,by simp[Zj];omega,z3,?_⟩
 simp only[W2,qj,Zj,qo]
 rintro t ⟨v,hvs,rfl⟩
 have:=hv v hvs
 exact tAt_ok z4 (by omega)
theorem Q5p (t:T3):(Q7 t).Nodup:=by
 have h0:Q7 t=(Jw t).filter λe=>decide (e.x≠e.y):=rfl
 rw[h0,List.nodup_iff_pairwise_ne,List.pairwise_filter]
 unfold Jw
 simp only[j9,List.mem_cons,List.not_mem_nil,or_false,decide_eq_true_eq,ne_eq,false_implies,implies_true,List.Pairwise.nil,and_true,P2.mk.injEq]
 refine⟨λx hx h1 h2=>?_,λx hx h1 h2=>?_⟩
 ·rcases hx with rfl | rfl
  ·simp only[P2.mk.injEq];simp only at h1 h2;omega
  ·simp only[P2.mk.injEq];simp only at h1 h2;omega
 ·subst hx
  simp only[P2.mk.injEq];simp only at h1 h2;omega
def Coh (ts:List T3):Prop:=∀(i j:Nat) (e:P2),i<ts.length->j<ts.length->e∈Q7 (tAt ts i)->e∈Q7 (tAt ts j)->i=j
theorem Bh {ts:List T3} {i:Nat} (h:i<ts.length):ts[i]=tAt ts i:=by
 have:=Zo h
 rw[q9 h]at this
 exact Option.some.inj this
theorem coh_iff {ts:List T3}:(Qa ts).Nodup↔Coh ts:=by
 have h0:(Qa ts).Nodup↔(∀t∈ts,(Q7 t).Nodup)/\ts.Pairwise λs t=>∀x∈Q7 s,∀y∈Q7 t,x≠y:=List.pairwise_flatMap
 rw[h0,j4]
 constructor
 ·rintro⟨_,h⟩ i j e hi hj h1 h2
  rcases Nat.lt_trichotomy i j with hh | hh | hh
  ·exact absurd rfl (h i j hi hj hh e (by rw[Bh hi];exact h1) e (by rw[Bh hj];exact h2))
  ·exact hh
  ·exact absurd rfl (h j i hj hi hh e (by rw[Bh hj];exact h2) e (by rw[Bh hi];exact h1))
 ·intro h
  refine⟨λt _=>Q5p t,λi j hi hj hij x hx y hy=>?_⟩
  rintro rfl
  rw[Bh hi]at hx
  rw[Bh hj]at hy
  have:=h i j x hi hj hx hy
  omega
theorem cohB_iff {ts:List T3}:Q0i ts=true↔Coh ts:=by unfold Q0i;rw[decide_eq_true_eq];exact coh_iff
theorem Qp1 {ts:List T3} {i j:Nat} (hi:i<ts.length) (hj:j<ts.length) {a b:P2} (ha:a∈Q7 (tAt ts i)) (hb:b∈Q7 (tAt ts j)) (h:a.und=b.und):adjI ts i j :=
 ⟨_,_,Zo hi,Zo hj,a,ha,b,hb,h⟩
theorem mem_all {ts:List T3} {e:P2}:e∈Qa ts↔∃i:Nat,i<ts.length/\e∈Q7 (tAt ts i):=by
 unfold Qa
 rw[jk]
 constructor
 ·rintro⟨t,ht,he⟩
  obtain⟨i,hi⟩:=qq ht
  have hl:=(q8.1 hi).1
  rw[Zo hl]at hi
  obtain rfl:=Option.some.inj hi
  exact⟨i,hl,he⟩
 ·rintro⟨i,hl,he⟩
  exact⟨_,qb (Zo hl),he⟩
def Clo (ts:List T3):Prop:=∀e∈Qa ts,e.rev∈Qa ts
theorem Qel {m:Mesh} (hz:m.check=0) (hc:Coh m.tris) (h:Clo m.tris):m.closed=true:=by
 unfold Mesh.closed
 simp only[Bool.and_eq_true,decide_eq_true_eq]
 refine⟨hz,?_⟩
 rw[List.eq_nil_iff_forall_not_mem]
 intro e he
 rw[mem_border]at he
 obtain⟨_,h1,h2⟩:=he
 unfold Mesh.use at h2
 rw[if_pos hz,if_pos hz]at h2
 have h3:=List.nodup_iff_count.1 (coh_iff.2 hc) e
 have h4:0<(Qa m.tris).count e.rev:=List.count_pos_iff.2 (h e h1)
 omega
def Mesh.coh (m:Mesh):Bool:=decide (m.check=0) && Q0i m.tris
def Q0t (P:Program) (f:FuncId):Prop:=∀m:Mesh,CallIs P f [m.enc] (.b m.coh)
section
variable {P:Program} (hm:P.follows .mixedOrders=true)
include hm
theorem E6 {f fc fh:FuncId} (hf:Q9 P f (L0h.c fc fh) L0h.r L0h.n) (hc:Jo P fc) (hh:CohC P fh):Q0t P f:=by
 intro m
 refine PureC.is (Q8 hm hf (qh rfl) ?_) rfl
 unfold L0h.c
 simp[go_sem,Mesh.enc,Mesh.cs]
 refine Q5 (hc m) ?_
 by_cases h:m.check=0
 ·have hl:=(Mesh.check_zero.1 h).2.1
  simp[go_sem,h]
  refine Q5 (hh m.tris (by omega)) ?_
  simp[go_sem,L0h.r,Mesh.coh,h]
 ·have h':(m.check == 0)=false:=by simpa using h
  simp[go_sem,h,h',L0h.r,Mesh.coh]
end
theorem Mesh.v_valid {m:Mesh} (h:J7 m.verts=true) {i:Int} (hi:i<m.verts.length):(m.v i).valid=true:=by
 unfold Mesh.v
 cases hp:m.verts[i.toNat]? with
 | none=>rfl
 | some p=>exact Q9v h hp
def V3.sub (a b:V3):V3:=⟨a.x-b.x,a.y-b.y,a.z-b.z⟩
def V3.crs (a b:V3):V3:=⟨a.y*b.z-a.z*b.y,a.z*b.x-a.x*b.z,a.x*b.y-a.y*b.x⟩
def Wi (a b c:V3):Bool:=a.valid && (b.valid && (c.valid && decide ((b.sub a).crs (c.sub a)=⟨0,0,0⟩)))
def Mesh.deg (m:Mesh) (t:T3):Bool:=Wi (m.v t.a) (m.v t.b) (m.v t.c)
def L2i.c (L0d L2a:FuncId):C :=(.seq (.reg [Au 2 (.box (.t 0)),Ab 4 false]) (.seq (.reg [Ag 10 2 2,Am 11 1,Au 12 (.call L0d [.t 10,.t 11]),Am 9 12,Ax1 13 0 9,Ax1 14 1 9,Ax1 15 2 9,Ax1 16 3 9,Au 5 (.alloc [(.i .i64 0),(.i .i64 0),(.i .i64 0)]),Au 6 (.alloc [(.i .i64 0),(.i .i64 0),(.i .i64 0)]),Au 7 (.alloc [(.i .i64 0),(.i .i64 0),(.i .i64 0)]),As 3 5 13,As 3 6 14,As 3 7 15,Am 8 16]) (.seq (.reg [Am 17 8,Am 18 17,Av 19 18 (.ld (some 3) (.t 5)),Av 20 18 (.ld (some 3) (.t 6)),Av 21 18 (.ld (some 3) (.t 7)),Av 22 18 (.call L2a [.t 19,.t 20,.t 21]),Ap 23 18 22,Am 4 23]) .ret)))
def L2i.r:List Rr:=[.tmp 4]
abbrev L2i.n:Nat:=24
def L2a.c (L2f L2e L2b:FuncId):C :=(.seq (.reg [Au 3 (.box (.t 0)),Au 4 (.box (.t 1)),Au 5 (.box (.t 2)),Ab 6 false]) (.seq (.drw [Ag 7 3 3,Au 8 (.call L2f [.t 7]),Am 9 8,Av 10 9 (.ld (some 3) (.t 4)),Av 11 9 (.call L2f [.t 10]),Ap 12 9 11,Am 13 12,Av 14 13 (.ld (some 3) (.t 5)),Av 15 13 (.call L2f [.t 14]),Ap 16 13 15,Am 17 16,Av 18 17 (.ld (some 3) (.t 4)),Av 19 17 (.ld (some 3) (.t 3)),Av 20 17 (.call L2e [.t 18,.t 19]),Av 21 17 (.ld (some 3) (.t 5)),Av 22 17 (.ld (some 3) (.t 3)),Av 23 17 (.call L2e [.t 21,.t 22]),Av 24 17 (.call L2b [.t 20,.t 23]),Av 25 17 (.build [(.i .i64 0),(.i .i64 0),(.i .i64 0)] []),
 Av 26 17 (.eqa [1,1,1] false (.t 24) (.t 25)),Ap 27 17 26,Am 6 27] [[],[],[],[],[],[],[],[],[],[],[],[],[],[],[13],[13],[],[],[],[],[],[]]) .ret))
def L2a.r:List Rr:=[.tmp 6]
abbrev L2a.n:Nat:=28
def L2e.c (L2f:FuncId):C :=(.seq (.reg [Au 2 (.box (.t 0)),Au 3 (.box (.t 1)),Au 4 (.alloc [(.i .i64 0),(.i .i64 0),(.i .i64 0)])]) (.seq (.seq (.reg [Ag 5 3 2,Au 6 (.call L2f [.t 5]),Au 7 (.un .not (.t 6)),Am 8 7,Aw 9 8 (.ld (some 3) (.t 3)),Aw 10 8 (.call L2f [.t 9]),Aw 11 8 (.un .not (.t 10)),Ao 12 8 11]) (.ite (.t 12) (.seq (.reg [Au 13 (.build [(.i .i64 0),(.i .i64 0),(.i .i64 0)] []),As 3 4 13]) .ret) .skip)) (.seq (.reg [Af 14 0 2,Al 15 14,Af 16 0 3,Al 17 16,Aj .sub 18 15 17,Af 19 1 2,Al 20 19,Af 21 1 3,Al 22 21,Aj .sub 23 20 22,Af 24 2 2,Al 25 24,Af 26 2 3,Al 27 26,Aj .sub 28 25 27,Au 29 (.build [(.i .i64 0),(.i .i64 0),(.i .i64 0)] [(0,1,(.t 18)),(1,1,(.t 23)),(2,1,(.t 28))]),
 As 3 4 29]) .ret)))
def L2e.r:List Rr:=[.cell 4 (some 3)]
abbrev L2e.n:Nat:=30
end Go.Abs
namespace Go.Abs
open Go.Sort
instance:Inhabited V3:=⟨⟨0,0,0⟩⟩
def Qp8 (P:Program) (f:FuncId):Prop:=∀a b:V3,a.valid=true->b.valid=true->CallIs P f [a.enc,b.enc] (a.sub b).enc
def Qgn (P:Program) (f:FuncId):Prop:=∀a b:V3,a.within 131072=true->b.within 131072=true->CallIs P f [a.enc,b.enc] (a.crs b).enc
def Q98 (P:Program) (f:FuncId):Prop:=∀a:V3,CallIs P f [a.enc] (.b (a.within 131072))
def Qqg (P:Program) (f:FuncId):Prop:=∀a b c:V3,CallIs P f [a.enc,b.enc,c.enc] (.b (Wi a b c))
section
variable {P:Program} (hm:P.follows .mixedOrders=true)
include hm
theorem Qcl {f fv:FuncId} (hf:Q9 P f (L2e.c fv) L2e.r L2e.n) (hv:Ew P fv):Qp8 P f:=by
 intro a b h1 h2
 have g1:=V3.valid_iff.1 h1
 have g2:=V3.valid_iff.1 h2
 refine PureC.is (Q8 hm hf (qh rfl) ?_) rfl
 unfold L2e.c
 simp[go_sem,V3.enc,vcs]
 refine Q5 (hv a) ?_
 simp[go_sem,h1]
 refine Q5 (hv b) ?_
 simp (disch:=omega) [go_sem,h2,Q3,L2e.r,V3.sub]
theorem Q4m {f fw:FuncId} (hf:Q9 P f (L2g.c fw) L2g.r L2g.n) (hw:U8 P fw):Q98 P f:=by
 intro a
 refine PureC.is (Q8 hm hf (qh rfl) ?_) rfl
 unfold L2g.c
 simp[go_sem,V3.enc,vcs]
 refine Q5 ((hw a 131072 (by omega) (by omega)).is rfl) ?_
 simp[go_sem,L2g.r]
theorem Q4n {f fv:FuncId} (hf:Q9 P f (L2b.c fv) L2b.r L2b.n) (hv:Q98 P fv):Qgn P f:=by
 intro a b h1 h2
 have g1:(-131072<=a.x/\a.x<=131072/\-131072<=a.y/\a.y<=131072/\-131072<=a.z/\a.z<=131072):=by simpa[V3.within,and_assoc]using h1
 have g2:(-131072<=b.x/\b.x<=131072/\-131072<=b.y/\b.y<=131072/\-131072<=b.z/\b.z<=131072):=by simpa[V3.within,and_assoc]using h2
 have m1:=Qdo (x:=a.y) (y:=b.z) (A:=131072) (B:=131072) (by omega) (by omega) (by omega) (by omega)
 have m2:=Qdo (x:=a.z) (y:=b.y) (A:=131072) (B:=131072) (by omega) (by omega) (by omega) (by omega)
 have m3:=Qdo (x:=a.z) (y:=b.x) (A:=131072) (B:=131072) (by omega) (by omega) (by omega) (by omega)
 have m4:=Qdo (x:=a.x) (y:=b.z) (A:=131072) (B:=131072) (by omega) (by omega) (by omega) (by omega)
 have m5:=Qdo (x:=a.x) (y:=b.y) (A:=131072) (B:=131072) (by omega) (by omega) (by omega) (by omega)
 have m6:=Qdo (x:=a.y) (y:=b.x) (A:=131072) (B:=131072) (by omega) (by omega) (by omega) (by omega)
 refine PureC.is (Q8 hm hf (qh rfl) ?_) rfl
 unfold L2b.c
 simp[go_sem,V3.enc,vcs]
 refine Q5 (hv a) ?_
 simp[go_sem,h1]
 refine Q5 (hv b) ?_
 simp (disch:=omega) [go_sem,h2,Q3,L2b.r,V3.crs]
omit hm in
theorem Q2q {a b:V3} (h1:a.valid=true) (h2:b.valid=true):(a.sub b).within 131072=true:=by
 have g1:=V3.valid_iff.1 h1
 have g2:=V3.valid_iff.1 h2
 simp only[V3.within,Bool.and_eq_true,decide_eq_true_eq]
 simp only[V3.sub]
 omega
omit hm in
theorem v3_zero (v:V3):decide (v=⟨0,0,0⟩)=(v.x == 0 && (v.y == 0 && v.z == 0)):=by
 cases v;rw[Bool.eq_iff_iff];simp[V3.mk.injEq]
theorem Bd {f fv fs fc:FuncId} (hf:Q9 P f (L2a.c fv fs fc) L2a.r L2a.n) (hv:Ew P fv) (hs:Qp8 P fs) (hc:Qgn P fc):Qqg P f:=by
 intro a b c
 refine PureC.is (Q8 hm hf (qh rfl) ?_) rfl
 unfold L2a.c
 simp[go_sem,V3.enc,vcs]
 refine Qo (hv a) ?_
 cases h1:a.valid
 ·simp[go_sem,L2a.r,Wi,h1]
 simp[go_sem]
 refine Qo (hv b) ?_
 cases h2:b.valid
 ·simp[go_sem,L2a.r,Wi,h1,h2]
 simp[go_sem]
 refine Qo (hv c) ?_
 cases h3:c.valid
 ·simp[go_sem,L2a.r,Wi,h1,h2,h3]
 simp[go_sem]
 refine Qo (hs b a h2 h1) ?_
 simp[go_sem]
 refine Qo (hs c a h3 h1) ?_
 simp[go_sem]
 refine Qo (hc _ _ (Q2q h2 h1) (Q2q h3 h1)) ?_
 simp[go_sem,V3.enc,vcs,L2a.r,Wi,h1,h2,h3,v3_zero]
end
end Go.Abs
namespace Go.Abs
open Go.Sort
def dd (l:List V3):List V3:=l.foldl (λacc v=>if v∈acc then acc else acc++[v]) []
def Mesh.degI (m:Mesh) (i:Int):Bool:=if 0<=i/\i<m.tris.length/\m.check=0 then match m.tris[i.toNat]? with
    | some t=>m.deg t
    | none=>false
 else false
def DegC (P:Program) (f:FuncId):Prop:=∀(m:Mesh) (i:Int),CallIs P f [m.enc,.i .i64 i] (.b (m.degI i))
section
variable {P:Program} (hm:P.follows .mixedOrders=true)
include hm
theorem Uw {f fc fv:FuncId} (hf:Q9 P f (L2i.c fc fv) L2i.r L2i.n) (hc:B9 P fc) (hv:Qqg P fv):DegC P f:=by
 intro m i
 refine PureC.is (Q8 hm hf (qh rfl) ?_) rfl
 unfold L2i.c
 simp[go_sem,Mesh.enc,Mesh.cs]
 refine Q5 (hc m i) ?_
 by_cases h:0<=i/\i<m.tris.length/\m.check=0
 ·obtain⟨t,ht⟩:∃t,m.tris[i.toNat]?=some t:=⟨_,q9 (show i.toNat<m.tris.length by omega)⟩
  have e1:m.corners i=.t [(m.v t.a).enc,(m.v t.b).enc,(m.v t.c).enc,.b true]:=by unfold Mesh.corners;rw[if_pos h,ht]
  have e2:m.degI i=m.deg t:=by unfold Mesh.degI;rw[if_pos h,ht]
  rw[e1,e2]
  simp[go_sem,V3.enc,vcs]
  refine Q5 (hv (m.v t.a) (m.v t.b) (m.v t.c)) ?_
  simp[go_sem,L2i.r,Mesh.deg]
 ·have e1:m.corners i=.t [zV3,zV3,zV3,.b false]:=by unfold Mesh.corners;rw[if_neg h]
  have e2:m.degI i=false:=by unfold Mesh.degI;rw[if_neg h]
  rw[e1,e2]
  simp[go_sem,zV3,L2i.r]
end
def V3.inR (v:V3):Bool:=inI v.x && inI v.y && inI v.z
def Qi:List T3:=[⟨0,2,3⟩,⟨0,3,1⟩,⟨4,5,7⟩,⟨4,7,6⟩,⟨0,1,5⟩,⟨0,5,4⟩,⟨2,6,7⟩,⟨2,7,3⟩,⟨0,4,6⟩,⟨0,6,2⟩,⟨1,3,7⟩,⟨1,7,5⟩]
def Qc2 (p s:V3):V :=
 if s.x<1∨s.y<1∨s.z<1 then Q3p Q3o 1
 else if p.valid=true/\(p.add s).valid=true then Q3p ⟨Qb p s,Qi⟩ 0
 else Q3p Q3o 8
def BoxC (P:Program) (f:FuncId):Prop:=∀p s:V3,p.inR=true->s.inR=true->CallIs P f [p.enc,s.enc] (Qc2 p s)
theorem Q9w (p:V3):J7 [p]=p.valid:=by simp[J7]
theorem Q4k {p s:V3} (h1:p.valid=true) (h2:(p.add s).valid=true):s.within 131072=true:=by
 have a1:=V3.valid_iff.1 h1
 have a2:=V3.valid_iff.1 h2
 simp only[V3.add]at a2
 rw[within_iff];omega
section
variable {P:Program} (hm:P.follows .mixedOrders=true)
include hm
theorem Q4t {f ff fn fp fc fl:FuncId} (hf:Q9 P f (L1m.c ff fn fp fc fl) L1m.r L1m.n)
  (hfit:Qf9 P ff) (hnear:Qpx P fn) (hplus:Qgl P fp) (hcor:Q0s P fc) (hcl:Qfc P fl 3):BoxC P f:=by
 intro p s hp hs
 by_cases h1:s.x<1∨s.y<1∨s.z<1
 ·have hb:Qc2 p s=Q3p Q3o 1:=by simp[Qc2,h1]
  rw[hb]
  refine CallIs.res (r:=.t [.a [.nil,.nil],.i .i64 1]) ?_ (Q69 1)
  refine PureC.is (Q8 hm hf (qh rfl) ?_) rfl
  unfold L1m.c
  have h2:min s.x (min s.y s.z)<1:=by omega
  simp[go_sem,V3.enc,V3.cs,Q08,h2,L1m.r]
 have h2:¬ min s.x (min s.y s.z)<1:=by omega
 by_cases hok:p.valid=true/\(p.add s).valid=true
 ·have hb:Qc2 p s=Q3p ⟨Qb p s,Qi⟩ 0:=by simp[Qc2,h1,hok]
  have hw:=Q4k hok.1 hok.2
  rw[hb]
  refine PureC.is (Q8 hm hf (qh rfl) ?_) rfl
  unfold L1m.c
  simp[go_sem,V3.enc,V3.cs,Q08,h2]
  refine Q5 (hfit [p] (by simp)) ?_
  simp[go_sem,Q9w,hok.1]
  refine Q5 (hnear s) ?_
  simp[go_sem,hw]
  refine Q5 (hplus p s) ?_
  rw[Qau hok.1 hw]
  simp[go_sem,V3.enc,V3.cs]
  refine Q5 (hfit [p.add s] (by simp)) ?_
  simp[go_sem,Q9w,hok.2]
  refine Q5 (hcor p s hok.1 hw) ?_
  simp[go_sem,V3.cs,Qb]
  refine Q71 (hcl _ (by simp[V.isD]) (by simp)) rfl ?_
  simp[go_sem,L1m.r,V3.cs,Q3p,Mesh.enc,Mesh.cs,vsV,tsV,Qi,T3.cs]
 ·have hb:Qc2 p s=Q3p Q3o 8:=by simp[Qc2,h1,hok]
  rw[hb]
  refine CallIs.res (r:=.t [.a [.nil,.nil],.i .i64 8]) ?_ (Q69 8)
  refine PureC.is (Q8 hm hf (qh rfl) ?_) rfl
  unfold L1m.c
  simp[go_sem,V3.enc,V3.cs,Q08,h2]
  refine Q5 (hfit [p] (by simp)) ?_
  cases hpv:p.valid
  ·simp[go_sem,Q9w,hpv,L1m.r]
  simp[go_sem,Q9w,hpv]
  refine Q5 (hnear s) ?_
  cases hw:s.within 131072
  ·simp[go_sem,L1m.r]
  simp[go_sem]
  refine Q5 (hplus p s) ?_
  rw[Qau hpv hw]
  simp[go_sem,V3.enc,V3.cs]
  refine Q5 (hfit [p.add s] (by simp)) ?_
  have hav:(p.add s).valid=false:=by rw[Bool.eq_false_iff];exact λh=>hok ⟨hpv,h⟩
  simp[go_sem,Q9w,hav,L1m.r]
end
def mixed {α:Type} (l:List α) (g:α->α) (k:Nat):List α:=(l.take k).map g++l.drop k
end Go.Abs
