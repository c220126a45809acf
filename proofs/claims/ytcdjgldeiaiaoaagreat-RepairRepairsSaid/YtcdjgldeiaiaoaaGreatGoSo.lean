/- Part of the library on which the proof stands: an abstract machine, its values and its soundness against the model; or what functions of the program do to such values. -/
import Derived.Test.YtcdjgldeiaiaoaaGreatGoSq
set_option linter.unusedVariables false
set_option linter.unusedSimpArgs false
namespace Go.Abs
def SpreadFC (P:Program) (f:FuncId):Prop:=∀(m:Mesh) (L:List Int),m.check=0->PreLab m.tris L ->
 CallIs P f [m.enc,isV L] (.t [isV (Xz m.tris L m.tris.length),.b (decide (Xz m.tris L m.tris.length≠L))])
theorem lw_congr {K:List P2} {g g':P2->Int} (h:∀e∈K,g e=g' e):lw K g=lw K g':=by
 unfold lw;exact List.map_congr_left λe he=>by rw[h e he]
theorem lw_map_set {K:List P2} (h:asc K) (g g':P2->Int) {i:Nat} {e:P2} (he:K[i]?=some e) (hg:∀a∈K,a≠e->g' a=g a) {n:Int} (hn:n=g' e) :
  ((lw K g).map uCs).set i [.i .i64 e.x,.i .i64 e.y,.i .i64 n]=(lw K g').map uCs:=by
 subst hn
 rw[<- lw_set h g g' he hg,List.map_set];rfl
def gK (K:List P2) (n:Int) (k:Nat) (e:P2):Int:=if K.idxOf e<k then n else 0
theorem take_ne {α:Type} [DecidableEq α] {K L:List α} {k:Nat} {a b:α} (hk:K.length=k) (hL:L[k]?=some b):decide (K++[a]≠L.take (k+1))=(decide (K≠L.take k) || decide (a≠b)):=by
 rw[Qd hL]
 have hlt:=(List.getElem?_eq_some_iff.1 hL).1
 have hl:K.length=(L.take k).length:=by simp;omega
 rw[Bool.eq_iff_iff]
 simp only[decide_eq_true_eq,Bool.or_eq_true,ne_eq]
 constructor
 ·intro h
  by_cases h1:K=L.take k
  ·right;rintro rfl;exact h (by rw[h1])
  ·exact .inl h1
 ·rintro (h | h) hh
  ·exact h (List.append_inj_left hh hl)
  ·have:=List.append_inj_right hh hl
   simp at this;exact h this
section
variable {P:Program} (hm:P.follows .mixedOrders=true)
include hm
set_option maxRecDepth 20000 in
set_option maxHeartbeats 8000000 in
theorem ref10_spread_ok {f fu fd fv fp fn:FuncId} (hf:Q9 P f (ref10_spread.c fu fd fv fp fn) ref10_spread.r ref10_spread.n) (hu:UndirC P fu) (hd:Ye P fd) (hv:UndC P fv) (hp:PlaceC P fp) (hn:NumberC P fn):SpreadFC P f:=by
 intro m L hz hL
 refine PureC.is (Q7 hm hf (Nat.le_of_ble_eq_true rfl) ?_) rfl
 unfold ref10_spread.c
 have hl:=(Mesh.check_zero.1 hz).2.1
 have hu1:=hu m hz
 rw[undL_lw]at hu1
 have hKa:asc (W3 ((Q8 m.tris).map P2.und)):=K9 _
 have hKm:∀i,i<m.tris.length->∀e∈Q2 (tAt m.tris i),e.und∈W3 ((Q8 m.tris).map P2.und):=by
  intro i hi e he
  rw[mem_ascOf,List.mem_map]
  have:m.tris[i]?=some (tAt m.tris i):=by unfold tAt;rw[List.getElem?_eq_getElem hi];rfl
  exact⟨e,List.mem_flatMap.2 ⟨_,List.mem_of_getElem? this,he⟩,rfl⟩
 have hKl:(W3 ((Q8 m.tris).map P2.und)).length<=12288:=by
  have:=@edgesL_len m
  unfold Mesh.edgesL at this
  rwa [if_pos hz]at this
 have hLl:=hL.len
 have hLb:∀i,i<m.tris.length->L[i]?=some (lAt L i):=λi hi=>by unfold lAt;rw[List.getElem?_eq_getElem (by omega)];rfl
 generalize W3 ((Q8 m.tris).map P2.und)=K at *
 have hKn:K.Nodup:=hKa.imp λh1 h2=>by subst h2;exact P2.lt_irrefl _ h1
 simp only[lw_len]at hu1
 simp[go_sem,Mesh.enc,Mesh.cs,isV]
 refine Ws hu1 rfl ?_
 simp only[List.map_cons,List.map_nil,sh_uCs]
 have hll:=λg=>lw_len K g
 simp[go_sem,hll]
 have hg0:lw K (λ_=>0)=lw K (gK K L.length 0):=lw_congr λe _=>by simp[gK]
 rw[hg0]
 refine Qe (α:=Nat) (λk=>k<=K.length)
  (λk=>⟨[(1,isV L),(2,.p 0 1 0 0),(6,.own 2 (K.length+1) 0 K.length),(22,.own 2 (K.length+1) 0 K.length),(23,.i .i64 K.length),(24,.i .i64 k)],[.arr 1 2 [m.cs],.dead,.arr (K.length+1) 3 ((lw K (gK K L.length k)).map uCs)]⟩)
  (λk=>K.length-k) 0 (Nat.zero_le _) ?_ ?_
 ·simp[go_sem,isV,Mesh.cs,vsV,tsV]
  exact Zr _ _
 ·intro k hk
  by_cases hkl:k=K.length
  ·subst hkl
   have hg1:lw K (gK K L.length K.length)=lw K (Z6 L.length (X5 m.tris L 0)):=lw_congr λe he=>by
    have:=List.idxOf_lt_length_iff.2 he
    simp[gK,this,X5,Z6]
   rw[hg1]
   simp[go_sem,isV,Mesh.cs,tsV]
   refine Qe (α:=Nat) (λk=>k<=m.tris.length)
    (λk=>⟨[(1,isV L),(2,.p 0 1 0 0),(6,.own 2 (K.length+1) 0 K.length),(35,tsV m.tris),(36,.i .i64 m.tris.length),(37,.i .i64 k)],[.arr 1 2 [m.cs],.dead,.arr (K.length+1) 3 ((lw K (Z6 L.length (X5 m.tris L k))).map uCs)]⟩)
    (λk=>m.tris.length-k) 0 (Nat.zero_le _) ?_ ?_
   ·simp[go_sem,isV,Mesh.cs,vsV,tsV]
    exact Zr _ _
   ·intro i hi
    by_cases hil:i=m.tris.length
    ·subst hil
     have hgo:Z6 L.length (X5 m.tris L m.tris.length)=gOf m.tris L:=rfl
     rw[hgo]
     simp[go_sem,isV,Mesh.cs,tsV]
     refine Qq [.t 13 1] (α:=Nat) (λk=>k<=m.tris.length)
      (λk=>⟨[(1,isV L),(6,.own 2 (K.length+1) 0 K.length),(13,.own 3 (k+1) 0 k),(14,.b (decide (Xz m.tris L k≠L.take k))),(70,tsV m.tris),(71,.i .i64 m.tris.length),(72,.i .i64 k)],[.dead,.dead,.arr (K.length+1) 3 ((lw K (gOf m.tris L)).map uCs),.arr (k+1) 1 (ics (Xz m.tris L k))]⟩)
      (λk=>m.tris.length-k) 0 (Nat.zero_le _) ?_ ?_
     ·simp[go_sem,isV,tsV,Xz,ics]
      exact Zr _ _
     ·intro k hk
      by_cases hkl:k=m.tris.length
      ·subst hkl
       have hlt2:L.take m.tris.length=L:=List.take_of_length_le (by omega)
       have hsl:=sprK_len m.tris L m.tris.length
       have htk:List.take m.tris.length (ics (Xz m.tris L m.tris.length))=ics (Xz m.tris L m.tris.length):=List.take_of_length_le (by simp[ics,hsl])
       rw[hlt2]
       generalize Xz m.tris L m.tris.length=S at *
       simp[go_sem,isV,tsV,ref10_spread.r,htk]
       rw[if_pos ⟨by simp[ics,hsl],ics_isD S⟩];rfl
      ·have hlt:k<m.tris.length:=by omega
       have hp3:m.tris[k]?=some (tAt m.tris k):=by unfold tAt;rw[List.getElem?_eq_getElem hlt];rfl
       have hLi:=hLb k hlt
       have hss:=sprK_succ m.tris L k
       have hsl:=sprK_len m.tris L k
       have hkm:=hKm k hlt
       generalize tAt m.tris k=t at *
       obtain⟨_,hp'⟩:=List.getElem?_eq_some_iff.1 hp3
       obtain⟨_,hLi'⟩:=List.getElem?_eq_some_iff.1 hLi
       generalize lAt L k=v at hLi hLi' hss
       have htn:=take_ne (a:=Kk (gOf m.tris L) (Q2 t) v) hsl hLi
       rw[<- hss]at htn
       have htkk:List.take k (ics (Xz m.tris L k))=ics (Xz m.tris L k):=List.take_of_length_le (by simp[ics,hsl])
       have hnum:∀e∈Q2 t,CallIs P fn [Yd (lw K (gOf m.tris L)),e.und.enc] (.i .i64 (gOf m.tris L e.und)):=λe he=>by
        have:=hn (lw K (gOf m.tris L)) e.und (lw_asc hKa _) (by rw[hll];omega)
        rwa [lw_num hKa _ (hkm e he)]at this
       have hic:ics (Xz m.tris L (k+1))=ics (Xz m.tris L k)++[[.i .i64 (Kk (gOf m.tris L) (Q2 t) v)]]:=by rw[hss];simp[ics]
       generalize gOf m.tris L=g at *
       generalize hag:decide (Xz m.tris L k≠List.take k L)=ag at *
       simp[go_sem,isV,tsV,hlt,hp3,hp',tcs,hLi,hLi',show k<L.length by omega]
       refine Q3 (hd t) ?_
       have hlen:(Q2 t).length<=3:=Qz t 3
       simp[go_sem,psV]
       generalize hS:Xz m.tris L k=S at *
       refine Qe (α:=Nat) (λj=>j<=(Q2 t).length)
        (λj=>⟨[(1,isV L),(6,.own 2 (K.length+1) 0 K.length),(13,.own 3 (k+1) 0 k),(14,.b ag),(15,.i .i64 k),(17,.i .i64 (Kk g ((Q2 t).take j) v)),(70,tsV m.tris),(71,.i .i64 m.tris.length),(72,.i .i64 k),(82,psV (Q2 t)),(83,.i .i64 (Q2 t).length),(84,.i .i64 j)],
         [.dead,.dead,.arr (K.length+1) 3 ((lw K g).map uCs),.arr (k+1) 1 (ics S)]⟩)
        (λj=>(Q2 t).length-j) 0 (Nat.zero_le _) ?_ ?_
       ·simp[go_sem,isV,tsV,psV,Kk]
        exact⟨Zr _ _,Zt _ _⟩
       ·intro j hj
        by_cases hjl:j=(Q2 t).length
        ·subst hjl
         rw[List.take_length]
         generalize Kk g (Q2 t) v=u at *
         cases ag
         ·simp (disch:=omega) [go_sem,isV,tsV,psV,Q0,hLi,hLi',show k<L.length by omega,htkk]
          refine⟨⟨by simp[ics,hsl],by omega,by omega⟩,k+1,by omega,by omega,⟨rfl,?_,by simp⟩,Zr _ _,⟨rfl,hic.symm⟩,Zt _ _⟩
          have h:=htn
          simp only[Bool.false_or,ne_eq,decide_not]at h
          rw[h]
          by_cases huv:u=v<;>simp[huv]
         ·simp (disch:=omega) [go_sem,isV,tsV,psV,Q0,hLi,hLi',show k<L.length by omega,htkk]
          exact⟨⟨by simp[ics,hsl],by omega,by omega⟩,k+1,by omega,by omega,⟨rfl,by simpa using htn,by simp⟩,Zr _ _,⟨rfl,hic.symm⟩,Zt _ _⟩
        ·have hjt:j<(Q2 t).length:=by omega
         have hq:(Q2 t)[j]?=some (Q2 t)[j]:=List.getElem?_eq_getElem hjt
         have hne:=hnum _ (List.getElem_mem hjt)
         have hms:Kk g ((Q2 t).take (j+1)) v=min (Kk g ((Q2 t).take j) v) (g (Q2 t)[j].und):=by rw[Qd hq,minE_snoc]
         generalize (Q2 t)[j]=e at hq hne hms
         obtain⟨_,hq'⟩:=List.getElem?_eq_some_iff.1 hq
         generalize Kk g ((Q2 t).take j) v=u at *
         generalize g e.und=ge at *
         simp[go_sem,isV,psV,hjt,hq,hq',pcs]
         refine Q3 (hv e) ?_
         simp[go_sem,psV]
         refine Jb (vs:=[Yd (lw K g),e.und.enc]) ?_ (hne []) rfl ?_
         ·exact Km rfl (by simp[hll]) (Wu _) (by simp[Zu,frz,Xm,P2.enc,pcs])
         simp (disch:=omega) [go_sem,isV,psV,Q0,B8]
         exact⟨j+1,by omega,by omega,⟨hms.symm,.inr rfl,by simp⟩,Zr _ _,Zt _ _⟩
    ·have hlt:i<m.tris.length:=by omega
     have hp3:m.tris[i]?=some (tAt m.tris i):=by unfold tAt;rw[List.getElem?_eq_getElem hlt];rfl
     have hLi:=hLb i hlt
     have hps:=pairsK_succ m.tris L i
     have hkm:=hKm i hlt
     generalize tAt m.tris i=t at *
     obtain⟨_,hp'⟩:=List.getElem?_eq_some_iff.1 hp3
     obtain⟨_,hLi'⟩:=List.getElem?_eq_some_iff.1 hLi
     generalize lAt L i=v at hLi hLi' hps
     generalize hQ:X5 m.tris L i=Q at *
     simp[go_sem,isV,Mesh.cs,tsV,hlt,hp3,hp',tcs]
     refine Q3 (hd t) ?_
     have hlen:(Q2 t).length<=3:=Qz t 3
     simp[go_sem,psV]
     refine Qe (α:=Nat) (λj=>j<=(Q2 t).length)
      (λj=>⟨[(1,isV L),(2,.p 0 1 0 0),(6,.own 2 (K.length+1) 0 K.length),(8,.i .i64 i),(35,tsV m.tris),(36,.i .i64 m.tris.length),(37,.i .i64 i),(43,psV (Q2 t)),(44,.i .i64 (Q2 t).length),(45,.i .i64 j)],
       [.arr 1 2 [m.cs],.dead,.arr (K.length+1) 3 ((lw K (Z6 L.length (Q++((Q2 t).take j).map λe=>(e.und,v)))).map uCs)]⟩)
      (λj=>(Q2 t).length-j) 0 (Nat.zero_le _) ?_ ?_
     ·simp[go_sem,isV,Mesh.cs,tsV,vsV,psV]
      exact Zr _ _
     ·intro j hj
      by_cases hjl:j=(Q2 t).length
      ·subst hjl
       rw[List.take_length,<- hps]
       simp (disch:=omega) [go_sem,isV,Mesh.cs,tsV,vsV,psV,Q0]
       exact⟨i+1,by omega,by omega,by simp,rfl,Zr _ _⟩
      ·have hjt:j<(Q2 t).length:=by omega
       have hq:(Q2 t)[j]?=some (Q2 t)[j]:=List.getElem?_eq_getElem hjt
       have hmem:=hkm _ (List.getElem_mem hjt)
       have htk:((Q2 t).take (j+1)).map (λe=>(e.und,v))=((Q2 t).take j).map (λe=>(e.und,v))++[((Q2 t)[j].und,v)]:=by rw[Qd hq,List.map_append];rfl
       generalize (Q2 t)[j]=e at hq hmem htk
       obtain⟨_,hq'⟩:=List.getElem?_eq_some_iff.1 hq
       obtain⟨p,hpk⟩:=List.getElem?_of_mem hmem
       have hsn:∀a,Z6 L.length (Q++((Q2 t).take (j+1)).map λe=>(e.und,v)) a=if a=e.und then min (Z6 L.length (Q++((Q2 t).take j).map λe=>(e.und,v)) a) v else Z6 L.length (Q++((Q2 t).take j).map λe=>(e.und,v)) a:=λa=>by
        rw[htk,<- List.append_assoc,leastV_snoc]
       have hset:=lw_map_set hKa (Z6 L.length (Q++((Q2 t).take j).map λe=>(e.und,v))) (Z6 L.length (Q++((Q2 t).take (j+1)).map λe=>(e.und,v))) hpk (λa ha hne=>by rw[hsn,if_neg hne]) (n:=min (Z6 L.length (Q++((Q2 t).take j).map λe=>(e.und,v)) e.und) v) (by rw[hsn,if_pos rfl])
       have hnx:∀W,W=(lw K (Z6 L.length (Q++((Q2 t).take (j+1)).map λe=>(e.und,v)))).map uCs->∃x',x'<=(Q2 t).length/\(Q2 t).length-x'<(Q2 t).length-j/\(j:Int)+1=x'/\W=(lw K (Z6 L.length (Q++((Q2 t).take x').map λe=>(e.und,v)))).map uCs:=λW hW=>⟨j+1,by omega,by omega,by simp,hW⟩
       have hwg:=lw_get (Z6 L.length (Q++((Q2 t).take j).map λe=>(e.und,v))) hpk
       have hwp:=lw_pl hKa (Z6 L.length (Q++((Q2 t).take j).map λe=>(e.und,v))) hpk
       generalize Z6 L.length (Q++((Q2 t).take (j+1)).map λe=>(e.und,v))=g' at *
       generalize Z6 L.length (Q++((Q2 t).take j).map λe=>(e.und,v))=g at *
       obtain⟨hwl,hwg'⟩:=List.getElem?_eq_some_iff.1 hwg
       have hpl:=(hp (lw K g) e.und (lw_asc hKa g) (by rw[hll];omega)) []
       rw[hwp]at hpl
       simp[go_sem,isV,psV,hjt,hq,hq',pcs]
       refine Q3 (hv e) ?_
       simp[go_sem,psV]
       refine Jb (vs:=[Yd (lw K g),e.und.enc]) ?_ hpl rfl ?_
       ·exact Km rfl (by simp[hll]) (Wu _) (by simp[Zu,frz,Xm,P2.enc,pcs])
       simp (disch:=omega) [go_sem,isV,psV,hwg,hwg',hll,Ia,hLi,hLi',Q0,B8,hset,show p<K.length by rw[hll]at hwl;exact hwl,show i<L.length by omega]
       obtain⟨x',q1,q2,q3,q4⟩:=hnx _ rfl
       rw[List.map_take]at q4
       refine⟨x',q1,q2,⟨.inr rfl,q3⟩,?_,q4,Zr _ _⟩
       intro x hx
       simp[Mesh.cs]at hx
       rcases hx with rfl | rfl<;>rfl
  ·have hlt:k<K.length:=by omega
   have hq:K[k]?=some K[k]:=List.getElem?_eq_getElem hlt
   generalize K[k]=e at hq
   have hwg:=lw_get (gK K L.length k) hq
   obtain⟨hwl,hwg'⟩:=List.getElem?_eq_some_iff.1 hwg
   have hix:K.idxOf e=k:=by
    obtain⟨q1,q2⟩:=List.getElem?_eq_some_iff.1 hq
    have:=hKn.idxOf_getElem k q1
    rwa [q2]at this
   have hset:=lw_map_set hKa (gK K L.length k) (gK K L.length (k+1)) hq (λa ha hne=>by
    have hne2:K.idxOf a≠k:=λhh=>by
     have h1:=List.idxOf_lt_length_iff.2 ha
     have h2:=List.getElem_idxOf h1
     have h3:K[K.idxOf a]?=some a:=by rw[List.getElem?_eq_getElem h1,h2]
     rw[hh,hq]at h3
     exact hne (Option.some.inj h3).symm
    unfold gK
    by_cases h:K.idxOf a<k
    ·rw[if_pos h,if_pos (by omega)]
    ·rw[if_neg h,if_neg (by omega)]) (n:=(L.length:Int)) (by simp[gK,hix])
   generalize gK K L.length k=g at *
   simp (disch:=omega) [go_sem,isV,Mesh.cs,hlt,hwg,hwg',hll,Ia,Q0,hset]
   exact⟨k+1,by omega,by omega,by simp,⟨rfl,rfl⟩,rfl,Zr _ _⟩
end
end Go.Abs
set_option linter.unusedVariables false
set_option linter.unusedSimpArgs false
namespace Go.Abs
def idL (n:Nat):List Int:=(List.range n).map λ(j:Nat)=>(j:Int)
theorem idL_succ (n:Nat):idL (n+1)=idL n++[(n:Int)]:=by unfold idL;rw[List.range_succ,List.map_append];rfl
theorem idL_len (n:Nat):(idL n).length=n:=by simp[idL]
theorem lsV_nil:Le .nil (lsV []):=.inl (.inl (Le0.nil 1))
theorem sum_le {ts:List T3} {L K:List Int} (h:PreLab ts L) (s:Spread ts L K):sumN K<=sumN L:=by
 by_cases hne:K=L
 ·subst hne;exact Nat.le_refl _
 ·exact Nat.le_of_lt (s.sum h hne)
theorem frz_own {h:List O} {id g sz n:Nat} {els:List (List V)} (ho:h[id]?=some (.arr g sz els)) (hn:els.length=n) (hd:∀el∈els,∀x∈el,x.isD=true):frz h (.own id g 0 n)=some (.l sz els):=by
 subst hn
 have ha:(els.all λx=>x.all V.isD)=true:=by rw[List.all_eq_true];exact λel hel=>List.all_eq_true.2 (hd el hel)
 simp[frz,Xm,ho,ha]
section
variable {P:Program} (hm:P.follows .mixedOrders=true)
include hm
set_option maxRecDepth 20000 in
set_option maxHeartbeats 8000000 in
theorem ref10_Shells_ok {f fc fs:FuncId} (hf:Q9 P f (ref10_Shells.c fc fs) ref10_Shells.r ref10_Shells.n) (hc:Z8 P fc) (hs:SpreadFC P fs):Xt P f:=by
 intro m
 by_cases hz:m.check=0
 case neg =>
  have he:m.shells=[]:=by simp[Mesh.shells,hz]
  rw[he]
  refine CallIs.res (r:=.nil) ?_ lsV_nil
  refine PureC.is (Q7 hm hf (Nat.le_of_ble_eq_true rfl) ?_) rfl
  unfold ref10_Shells.c
  simp[go_sem,Mesh.enc,Mesh.cs]
  refine Q3 (hc m) ?_
  simp[go_sem,hz,ref10_Shells.r]
 have hl:=(Mesh.check_zero.1 hz).2.1
 have hR:∀L,IsLab m.tris L->m.shells=Zl L L.length:=λL hL=>by unfold Mesh.shells;rw[if_pos hz,Yk hL]
 refine PureC.is (pure_ofF hm hf (Nat.le_of_ble_eq_true rfl) ?_) rfl
 unfold ref10_Shells.c
 have hpre:=pre_id m.tris
 have hidl:∀n,(List.range n).map (λ(j:Nat)=>(j:Int))=idL n:=λ_=>rfl
 rw[hidl]at hpre
 simp[go_sem,Mesh.enc,Mesh.cs,tsV]
 refine Q3 (hc m) ?_
 simp[go_sem,hz]
 refine Qq [.t 3 1] (α:=Nat) (λk=>k<=m.tris.length)
  (λk=>⟨[(1,.p 0 1 0 0),(3,.own 1 (k+1) 0 k),(15,.i .i64 m.tris.length),(16,.i .i64 k)],[.arr 1 2 [m.cs],.arr (k+1) 1 (ics (idL k))]⟩)
  (λk=>m.tris.length-k) 0 (Nat.zero_le _) ?_ ?_
 ·simp[go_sem,Mesh.cs,vsV,tsV,idL,ics]
 ·intro k hk
  by_cases hkl:k=m.tris.length
  ·subst hkl
   have hil:=idL_len m.tris.length
   simp[go_sem,Mesh.cs]
   generalize idL m.tris.length=I at *
   refine Qe (α:=Option (List Int × Bool)) (λx=>match x with | none=>True | some (L,ag)=>PreLab m.tris L/\(ag=false->IsLab m.tris L))
    (λx=>match x with
     | none=>⟨[(1,.p 0 1 0 0),(3,.own 1 (m.tris.length+1) 0 m.tris.length),(5,.b true)],[.arr 1 2 [m.cs],.arr (m.tris.length+1) 1 (ics I)]⟩
     | some (L,ag)=>⟨[(1,.p 0 1 0 0),(3,isV L),(5,.b ag)],[.arr 1 2 [m.cs],.dead]⟩)
    (λx=>match x with | none=>sumN I+2 | some (L,true)=>sumN L+1 | some (L,false)=>0) none trivial ?_ ?_
   ·simp[go_sem,Mesh.cs,vsV,tsV]
    exact Zt _ _
   ·rintro (_ | ⟨L,ag⟩) hx
    ·have hsp:=Bp hpre
     have hs1:=hs m I hz hpre
     have hps:=hpre.spread hsp
     have hsl:=sum_le hpre hsp
     have hfix:Xz m.tris I m.tris.length=I->IsLab m.tris I:=λh=>Spread.fix hpre (by rw[h]at hsp;exact hsp)
     generalize Xz m.tris I m.tris.length=K at *
     simp[go_sem,Mesh.cs]
     have hfz:frz [O.arr 1 2 [[vsV m.verts,tsV m.tris]],.arr (m.tris.length+1) 1 (ics I)] (.own 1 (m.tris.length+1) 0 m.tris.length)=some (isV I):=frz_own rfl (by simp[ics,hil]) (ics_isD I)
     refine Eu (vs:=[m.enc,isV I]) ?_ hs1 ?_
     ·unfold Zu
      simp only[List.mapM_cons,List.mapM_nil,hfz]
      rfl
     simp[go_sem]
     by_cases hKI:K=I
     ·refine⟨some (K,false),⟨hps,λ_=>by rw[hKI];exact hfix hKI⟩,?_,?_⟩
      ·simp only;omega
      ·simp[go_sem,hKI,killL,vsV,tsV,isV,Mesh.cs]
     ·refine⟨some (K,true),⟨hps,λh=>by cases h⟩,?_,?_⟩
      ·simp only;omega
      ·simp[go_sem,hKI,killL,vsV,tsV,isV,Mesh.cs]
    ·obtain⟨hL,hlab⟩:=hx
     cases ag
     ·have hLab:=hlab rfl
      rw[hR L hLab]
      have hLl:=hLab.len
      simp[go_sem,Mesh.cs,isV]
      refine Qq [.t 6 1] (α:=Nat × List O × List (List V)) (λp=>p.1<=L.length/\Held 3 p.2.1 (Zl L p.1) p.2.2/\Flt p.2.1/\(Zl L p.1).length<=p.1)
       (λp=>⟨[(3,isV L),(6,.own 2 ((Zl L p.1).length+1) 0 (Zl L p.1).length),(31,isV L),(32,.i .i64 L.length),(33,.i .i64 p.1)],
        .dead::.dead::.arr ((Zl L p.1).length+1) 1 p.2.2::p.2.1⟩)
       (λp=>L.length-p.1) (0,[],[]) ⟨Nat.zero_le _,Held.nil 3,by simp[Flt],by simp[Zl]⟩ ?_ ?_
      ·simp[go_sem,isV,Zl]
      ·rintro⟨k,hx,cells⟩ ⟨hk,hH,hF,hkl⟩
       simp only at hk hH hF hkl ⊢
       by_cases hkl:k=L.length
       ·subst hkl
        have hfz:=held_if (base:=[.dead,.dead,.arr ((Zl L L.length).length+1) 1 cells]) hH rfl
        simp only[List.cons_append,List.nil_append]at hfz
        generalize Zl L L.length=D at *
        simp[go_sem,isV,ref10_Shells.r,K2]
        rw[hfz];rfl
       ·have hlt:k<L.length:=by omega
        have hp:L[k]?=some L[k]:=List.getElem?_eq_getElem hlt
        have hst:=shsK_succ L k
        have hlow:=shK_low hLab k
        generalize hv:L[k]=v at hp
        obtain⟨_,hp'⟩:=List.getElem?_eq_some_iff.1 hp
        rw[hp]at hst
        by_cases hvk:v=k
        ·rw[if_pos (by rw[hvk])]at hst
         simp (disch:=omega) [go_sem,isV,hlt,hp,hp',hvk,Q0]
         refine Qq [.t 8 1] (α:=Nat) (λj=>k<=j/\j<=L.length)
          (λj=>⟨[(3,isV L),(6,.own 2 ((Zl L k).length+1) 0 (Zl L k).length),(7,.i .i64 k),(8,.own (hx.length+3) ((shK L k j).length+1) 0 (shK L k j).length),(9,.i .i64 j),(31,isV L),(32,.i .i64 L.length),(33,.i .i64 k)],
           .dead::.dead::.arr ((Zl L k).length+1) 1 cells::(hx++[.arr ((shK L k j).length+1) 1 (ics (shK L k j))])⟩)
          (λj=>L.length-j) k ⟨Nat.le_refl _,by omega⟩ ?_ ?_
         ·rw[hlow]
          simp[go_sem,isV,ics]
          exact⟨hH.cl (by omega),Z5 (λo ho=>hF o ho _) (by simp[go_sem])⟩
         ·rintro j ⟨hj1,hj2⟩
          by_cases hjl:j=L.length
          ·subst hjl
           generalize shK L k L.length=w at *
           generalize hls:Zl L k=ls at *
           have htc:List.take ls.length cells=cells:=List.take_of_length_le (by rw[hH.1];exact Nat.le_refl _)
           have e4:hx.length+3=3+hx.length:=by omega
           have hHs:Held 3 (hx++[.arr (w.length+1) 1 (ics w)]) (ls++[w]) (cells++[[.own (hx.length+3) (w.length+1) 0 w.length]]):=by
            rw[e4]
            exact(hH.app _).snoc (by rw[Qc];rfl)
           have hFs:Flt (hx++[.arr (w.length+1) 1 (ics w)]):=hF.app λo ho n=>by
            simp at ho
            subst ho
            exact Zt w n
           simp (disch:=omega) [go_sem,isV,Q0,Qa,Qc,htc]
           refine⟨⟨by have:=hH.1;omega,by omega,by omega⟩,k+1,hx++[.arr (w.length+1) 1 (ics w)],_,⟨by omega,by rw[hst];exact hHs,hFs,by rw[hst];simp only[List.length_append,List.length_cons,List.length_nil];omega⟩,by omega,by simp,⟨by rw[hst];simp,by simp⟩,⟨⟨by rw[hst];simp,rfl⟩,hHs.cl (by simp;omega)⟩,?_⟩
           have:=hFs.WeakH (l:=[O.arr 1 1 [[V.own (hx.length+3) (w.length+1) 0 w.length]]]) ((hx++[O.arr (w.length+1) 1 (ics w)]).length+1+1+1)
           rwa [List.append_assoc]at this
          ·have hjt:j<L.length:=by omega
           have hq:L[j]?=some L[j]:=List.getElem?_eq_getElem hjt
           have hss:=shK_succ L k j
           generalize L[j]=u at hq
           obtain⟨_,hq'⟩:=List.getElem?_eq_some_iff.1 hq
           rw[hq]at hss
           have hwl:(shK L k j).length<=j:=by
            unfold shK
            rw[List.length_map]
            have:=List.length_filter_le (λj=>decide (L[j]?=some (k:Int))) (List.range j)
            simpa using this
           have htw:List.take (shK L k j).length (ics (shK L k j))=ics (shK L k j):=List.take_of_length_le (by simp[ics])
           have hwi:(shK L k j).length<=(ics (shK L k j)).length:=by simp[ics]
           by_cases huk:u=k
           ·rw[if_pos (by rw[huk])]at hss
            have hics:ics (shK L k (j+1))=ics (shK L k j)++[[.i .i64 (j:Int)]]:=by rw[hss];simp[ics]
            have hsl:(shK L k (j+1)).length=(shK L k j).length+1:=by rw[hss];simp
            generalize hw:shK L k j=w at *
            simp (disch:=omega) [go_sem,isV,hjt,hq,hq',huk,Q0,Qa,Qc,htw,hwi]
            refine⟨⟨by omega,by omega⟩,j+1,⟨by omega,by omega⟩,by omega,⟨hsl.symm,by simp⟩,hH.cl (by omega),?_⟩
            rw[hics,hsl]
            exact Z5 (λo ho=>hF o ho _) ⟨.inr ⟨rfl,by rw[<- hics];exact Zt _ _⟩,trivial⟩
           ·rw[if_neg (by simpa using huk),List.append_nil]at hss
            generalize hw:shK L k j=w at *
            simp (disch:=omega) [go_sem,isV,hjt,hq,hq',huk,Q0,Qa,Qc]
            refine⟨j+1,⟨by omega,by omega⟩,by omega,⟨by rw[hss],by simp⟩,hH.cl (by omega),?_⟩
            rw[hss]
            exact Z5 (λo ho=>hF o ho _) ⟨.inr ⟨rfl,Zt _ _⟩,trivial⟩
        ·rw[if_neg (by simpa using hvk),List.append_nil]at hst
         have hvb:(v != (k:Int))=true:=by simpa using hvk
         simp (disch:=omega) [go_sem,isV,hlt,hp,hp',hvk,hvb,Q0]
         exact⟨k+1,hx,cells,⟨by omega,by rw[hst];exact hH,hF,by rw[hst];omega⟩,by omega,Nat.le_refl _,⟨by rw[hst],by simp⟩,⟨⟨by rw[hst],rfl⟩,hH.cl (by omega)⟩,hF.WeakH' _⟩
     ·have hsp:=Bp hL
      have hs1:=hs m L hz hL
      have hps:=hL.spread hsp
      have hsl:=λh=>hsp.sum hL h
      have hfix:Xz m.tris L m.tris.length=L->IsLab m.tris L:=λh=>Spread.fix hL (by rw[h]at hsp;exact hsp)
      generalize Xz m.tris L m.tris.length=K at *
      simp[go_sem,Mesh.cs]
      refine Q3 hs1 ?_
      simp[go_sem]
      by_cases hKI:K=L
      ·refine⟨some (K,false),⟨hps,λ_=>by rw[hKI];exact hfix hKI⟩,?_,?_⟩
       ·simp only;omega
       ·simp[go_sem,hKI,vsV,tsV,isV,Mesh.cs]
      ·refine⟨some (K,true),⟨hps,λh=>by cases h⟩,?_,?_⟩
       ·have:=hsl hKI;simp only;omega
       ·simp[go_sem,hKI,vsV,tsV,isV,Mesh.cs]
  ·have hlt:k<m.tris.length:=by omega
   have hil:=idL_len k
   have hsu:=idL_succ k
   have htk:List.take k (ics (idL k))=ics (idL k):=List.take_of_length_le (by simp[ics,hil])
   have hic:ics (idL (k+1))=ics (idL k)++[[.i .i64 (k:Int)]]:=by rw[hsu];simp[ics]
   generalize idL k=I at *
   simp (disch:=omega) [go_sem,Mesh.cs,hlt,Q0,htk]
   exact⟨⟨by simp[ics,hil],by omega,by omega⟩,k+1,by omega,by omega,⟨rfl,by simp⟩,⟨rfl,rfl⟩,⟨rfl,hic.symm⟩,Zt _ _⟩
end
end Go.Abs
