/- Part of the library on which the proof stands: an abstract machine, its values and its soundness against the model; or what functions of the program do to such values. -/
import Derived.Test.YtcdjgldeiaiaoaaGreatGoSn
set_option linter.unusedVariables false
set_option linter.unusedSimpArgs false
namespace Go.Abs
def idL (n:Nat):List Int:=(List.range n).map fun (j:Nat)=>(j:Int)
theorem idL_succ (n:Nat):idL (n + 1) = idL n ++ [(n:Int)]:=by unfold idL;rw [List.range_succ,List.map_append];rfl
theorem idL_len (n:Nat):(idL n).length = n:=by simp [idL]
theorem lsV_nil:Le .nil (lsV []):=.inl (.inl (Le0.nil 1))
theorem sum_le {ts:List T3} {L K:List Int} (h:PreLab ts L) (s:Spread ts L K):sumN K ≤ sumN L:=by
 by_cases hne:K = L
 ·subst hne;exact Nat.le_refl _
 ·exact Nat.le_of_lt (s.sum h hne)
theorem frz_own {h:List O} {id g sz n:Nat} {els:List (List V)} (ho:h[id]? = some (.arr g sz els)) (hn:els.length = n) (hd:∀ el ∈ els,∀ x ∈ el,x.isD = true):frz h (.own id g 0 n) = some (.l sz els):=by
 subst hn
 have ha:(els.all fun x=>x.all V.isD) = true:=by rw [List.all_eq_true];exact fun el hel=>List.all_eq_true.2 (hd el hel)
 simp [frz,frz0,ho,ha]
section
variable {P:Program} (hm:P.follows .mixedOrders = true)
include hm
set_option maxRecDepth 20000 in
set_option maxHeartbeats 8000000 in
theorem ref10_Shells_ok {f fc fs:FuncId} (hf:FnOk P f (ref10_Shells.c fc fs) ref10_Shells.r ref10_Shells.n) (hc:CheckC P fc) (hs:SpreadFC P fs):ShellsC P f:=by
 intro m
 by_cases hz:m.check = 0
 case neg =>
  have he:m.shells = []:=by simp [Mesh.shells,hz]
  rw [he]
  refine CallIs.res (r:=.nil) ?_ lsV_nil
  refine PureC.is (pure_of hm hf (Nat.le_of_ble_eq_true rfl) ?_) rfl
  unfold ref10_Shells.c
  simp [go_sem,Mesh.enc,Mesh.cs]
  refine ACall_is (hc m) ?_
  simp [go_sem,hz,ref10_Shells.r]
 have hl:=(Mesh.check_zero.1 hz).2.1
 have hR:∀ L,IsLab m.tris L→m.shells = shsK L L.length:=fun L hL=>by unfold Mesh.shells;rw [if_pos hz,labOf_eq hL]
 refine PureC.is (pure_ofF hm hf (Nat.le_of_ble_eq_true rfl) ?_) rfl
 unfold ref10_Shells.c
 have hpre:=pre_id m.tris
 have hidl:∀ n,(List.range n).map (fun (j:Nat)=>(j:Int)) = idL n:=fun _=>rfl
 rw [hidl] at hpre
 simp [go_sem,Mesh.enc,Mesh.cs,tsV]
 refine ACall_is (hc m) ?_
 simp [go_sem,hz]
 refine AS_loopG [.t 3 1] (α:=Nat) (fun k=>k ≤ m.tris.length)
  (fun k=>⟨[(1,.p 0 1 0 0),(3,.own 1 (k + 1) 0 k),(15,.i .i64 m.tris.length),(16,.i .i64 k)],[.arr 1 2 [m.cs],.arr (k + 1) 1 (ics (idL k))]⟩)
  (fun k=>m.tris.length - k) 0 (Nat.zero_le _) ?_ ?_
 ·simp [go_sem,Mesh.cs,vsV,tsV,idL,ics]
 ·intro k hk
  by_cases hkl:k = m.tris.length
  ·subst hkl
   have hil:=idL_len m.tris.length
   simp [go_sem,Mesh.cs]
   generalize idL m.tris.length = I at *
   refine AS_loop (α:=Option (List Int × Bool)) (fun x=>match x with | none=>True | some (L,ag)=>PreLab m.tris L∧(ag = false→IsLab m.tris L))
    (fun x=>match x with
     | none=>⟨[(1,.p 0 1 0 0),(3,.own 1 (m.tris.length + 1) 0 m.tris.length),(5,.b true)],[.arr 1 2 [m.cs],.arr (m.tris.length + 1) 1 (ics I)]⟩
     | some (L,ag)=>⟨[(1,.p 0 1 0 0),(3,isV L),(5,.b ag)],[.arr 1 2 [m.cs],.dead]⟩)
    (fun x=>match x with | none=>sumN I + 2 | some (L,true)=>sumN L + 1 | some (L,false)=>0) none trivial ?_ ?_
   ·simp [go_sem,Mesh.cs,vsV,tsV]
    exact ics_cl _ _
   ·rintro (_ | ⟨L,ag⟩) hx
    ·have hsp:=sprK_ok hpre
     have hs1:=hs m I hz hpre
     have hps:=hpre.spread hsp
     have hsl:=sum_le hpre hsp
     have hfix:sprK m.tris I m.tris.length = I→IsLab m.tris I:=fun h=>Spread.fix hpre (by rw [h] at hsp;exact hsp)
     generalize sprK m.tris I m.tris.length = K at *
     simp [go_sem,Mesh.cs]
     have hfz:frz [O.arr 1 2 [[vsV m.verts,tsV m.tris]],.arr (m.tris.length + 1) 1 (ics I)] (.own 1 (m.tris.length + 1) 0 m.tris.length) = some (isV I):=frz_own rfl (by simp [ics,hil]) (ics_isD I)
     refine ACall_frz (vs:=[m.enc,isV I]) ?_ hs1 ?_
     ·unfold frzAll
      simp only [List.mapM_cons,List.mapM_nil,hfz]
      rfl
     simp [go_sem]
     by_cases hKI:K = I
     ·refine⟨some (K,false),⟨hps,fun _=>by rw [hKI];exact hfix hKI⟩,?_,?_⟩
      ·simp only;omega
      ·simp [go_sem,hKI,killL,vsV,tsV,isV,Mesh.cs]
     ·refine⟨some (K,true),⟨hps,fun h=>by cases h⟩,?_,?_⟩
      ·simp only;omega
      ·simp [go_sem,hKI,killL,vsV,tsV,isV,Mesh.cs]
    ·obtain⟨hL,hlab⟩:=hx
     cases ag
     ·have hLab:=hlab rfl
      rw [hR L hLab]
      have hLl:=hLab.len
      simp [go_sem,Mesh.cs,isV]
      refine AS_loopG [.t 6 1] (α:=Nat × List O × List (List V)) (fun p=>p.1 ≤ L.length∧Held 3 p.2.1 (shsK L p.1) p.2.2∧Flt p.2.1∧(shsK L p.1).length ≤ p.1)
       (fun p=>⟨[(3,isV L),(6,.own 2 ((shsK L p.1).length + 1) 0 (shsK L p.1).length),(31,isV L),(32,.i .i64 L.length),(33,.i .i64 p.1)],
        .dead :: .dead :: .arr ((shsK L p.1).length + 1) 1 p.2.2 :: p.2.1⟩)
       (fun p=>L.length - p.1) (0,[],[]) ⟨Nat.zero_le _,Held.nil 3,by simp [Flt],by simp [shsK]⟩ ?_ ?_
      ·simp [go_sem,isV,shsK]
      ·rintro⟨k,hx,cells⟩ ⟨hk,hH,hF,hkl⟩
       simp only at hk hH hF hkl ⊢
       by_cases hkl:k = L.length
       ·subst hkl
        have hfz:=held_if (base:=[.dead,.dead,.arr ((shsK L L.length).length + 1) 1 cells]) hH rfl
        simp only [List.cons_append,List.nil_append] at hfz
        generalize shsK L L.length = D at *
        simp [go_sem,isV,ref10_Shells.r,DoneF_r]
        rw [hfz];rfl
       ·have hlt:k < L.length:=by omega
        have hp:L[k]? = some L[k]:=List.getElem?_eq_getElem hlt
        have hst:=shsK_succ L k
        have hlow:=shK_low hLab k
        generalize hv:L[k] = v at hp
        obtain⟨_,hp'⟩:=List.getElem?_eq_some_iff.1 hp
        rw [hp] at hst
        by_cases hvk:v = k
        ·rw [if_pos (by rw [hvk])] at hst
         simp (disch:=omega) [go_sem,isV,hlt,hp,hp',hvk,wrap64_small]
         refine AS_loopG [.t 8 1] (α:=Nat) (fun j=>k ≤ j∧j ≤ L.length)
          (fun j=>⟨[(3,isV L),(6,.own 2 ((shsK L k).length + 1) 0 (shsK L k).length),(7,.i .i64 k),(8,.own (hx.length + 3) ((shK L k j).length + 1) 0 (shK L k j).length),(9,.i .i64 j),(31,isV L),(32,.i .i64 L.length),(33,.i .i64 k)],
           .dead :: .dead :: .arr ((shsK L k).length + 1) 1 cells :: (hx ++ [.arr ((shK L k j).length + 1) 1 (ics (shK L k j))])⟩)
          (fun j=>L.length - j) k ⟨Nat.le_refl _,by omega⟩ ?_ ?_
         ·rw [hlow]
          simp [go_sem,isV,ics]
          exact⟨hH.cl (by omega),WeakH_app (fun o ho=>hF o ho _) (by simp [go_sem])⟩
         ·rintro j ⟨hj1,hj2⟩
          by_cases hjl:j = L.length
          ·subst hjl
           generalize shK L k L.length = w at *
           generalize hls:shsK L k = ls at *
           have htc:List.take ls.length cells = cells:=List.take_of_length_le (by rw [hH.1];exact Nat.le_refl _)
           have e4:hx.length + 3 = 3 + hx.length:=by omega
           have hHs:Held 3 (hx ++ [.arr (w.length + 1) 1 (ics w)]) (ls ++ [w]) (cells ++ [[.own (hx.length + 3) (w.length + 1) 0 w.length]]):=by
            rw [e4]
            exact (hH.app _).snoc (by rw [app_get_0];rfl)
           have hFs:Flt (hx ++ [.arr (w.length + 1) 1 (ics w)]):=hF.app fun o ho n=>by
            simp at ho
            subst ho
            exact ics_cl w n
           simp (disch:=omega) [go_sem,isV,wrap64_small,app_get_r,app_get_0,htc]
           refine⟨⟨by have:=hH.1;omega,by omega,by omega⟩,k + 1,hx ++ [.arr (w.length + 1) 1 (ics w)],_,⟨by omega,by rw [hst];exact hHs,hFs,by rw [hst];simp only [List.length_append,List.length_cons,List.length_nil];omega⟩,by omega,by simp,⟨by rw [hst];simp,by simp⟩,⟨⟨by rw [hst];simp,rfl⟩,hHs.cl (by simp;omega)⟩,?_⟩
           have:=hFs.WeakH (l:=[O.arr 1 1 [[V.own (hx.length + 3) (w.length + 1) 0 w.length]]]) ((hx ++ [O.arr (w.length + 1) 1 (ics w)]).length + 1 + 1 + 1)
           rwa [List.append_assoc] at this
          ·have hjt:j < L.length:=by omega
           have hq:L[j]? = some L[j]:=List.getElem?_eq_getElem hjt
           have hss:=shK_succ L k j
           generalize L[j] = u at hq
           obtain⟨_,hq'⟩:=List.getElem?_eq_some_iff.1 hq
           rw [hq] at hss
           have hwl:(shK L k j).length ≤ j:=by
            unfold shK
            rw [List.length_map]
            have:=List.length_filter_le (fun j=>decide (L[j]? = some (k:Int))) (List.range j)
            simpa using this
           have htw:List.take (shK L k j).length (ics (shK L k j)) = ics (shK L k j):=List.take_of_length_le (by simp [ics])
           have hwi:(shK L k j).length ≤ (ics (shK L k j)).length:=by simp [ics]
           by_cases huk:u = k
           ·rw [if_pos (by rw [huk])] at hss
            have hics:ics (shK L k (j + 1)) = ics (shK L k j) ++ [[.i .i64 (j:Int)]]:=by rw [hss];simp [ics]
            have hsl:(shK L k (j + 1)).length = (shK L k j).length + 1:=by rw [hss];simp
            generalize hw:shK L k j = w at *
            simp (disch:=omega) [go_sem,isV,hjt,hq,hq',huk,wrap64_small,app_get_r,app_get_0,htw,hwi]
            refine⟨⟨by omega,by omega⟩,j + 1,⟨by omega,by omega⟩,by omega,⟨hsl.symm,by simp⟩,hH.cl (by omega),?_⟩
            rw [hics,hsl]
            exact WeakH_app (fun o ho=>hF o ho _) ⟨.inr ⟨rfl,by rw [← hics];exact ics_cl _ _⟩,trivial⟩
           ·rw [if_neg (by simpa using huk),List.append_nil] at hss
            generalize hw:shK L k j = w at *
            simp (disch:=omega) [go_sem,isV,hjt,hq,hq',huk,wrap64_small,app_get_r,app_get_0]
            refine⟨j + 1,⟨by omega,by omega⟩,by omega,⟨by rw [hss],by simp⟩,hH.cl (by omega),?_⟩
            rw [hss]
            exact WeakH_app (fun o ho=>hF o ho _) ⟨.inr ⟨rfl,ics_cl _ _⟩,trivial⟩
        ·rw [if_neg (by simpa using hvk),List.append_nil] at hst
         have hvb:(v != (k:Int)) = true:=by simpa using hvk
         simp (disch:=omega) [go_sem,isV,hlt,hp,hp',hvk,hvb,wrap64_small]
         exact⟨k + 1,hx,cells,⟨by omega,by rw [hst];exact hH,hF,by rw [hst];omega⟩,by omega,Nat.le_refl _,⟨by rw [hst],by simp⟩,⟨⟨by rw [hst],rfl⟩,hH.cl (by omega)⟩,hF.WeakH' _⟩
     ·have hsp:=sprK_ok hL
      have hs1:=hs m L hz hL
      have hps:=hL.spread hsp
      have hsl:=fun h=>hsp.sum hL h
      have hfix:sprK m.tris L m.tris.length = L→IsLab m.tris L:=fun h=>Spread.fix hL (by rw [h] at hsp;exact hsp)
      generalize sprK m.tris L m.tris.length = K at *
      simp [go_sem,Mesh.cs]
      refine ACall_is hs1 ?_
      simp [go_sem]
      by_cases hKI:K = L
      ·refine⟨some (K,false),⟨hps,fun _=>by rw [hKI];exact hfix hKI⟩,?_,?_⟩
       ·simp only;omega
       ·simp [go_sem,hKI,vsV,tsV,isV,Mesh.cs]
      ·refine⟨some (K,true),⟨hps,fun h=>by cases h⟩,?_,?_⟩
       ·have:=hsl hKI;simp only;omega
       ·simp [go_sem,hKI,vsV,tsV,isV,Mesh.cs]
  ·have hlt:k < m.tris.length:=by omega
   have hil:=idL_len k
   have hsu:=idL_succ k
   have htk:List.take k (ics (idL k)) = ics (idL k):=List.take_of_length_le (by simp [ics,hil])
   have hic:ics (idL (k + 1)) = ics (idL k) ++ [[.i .i64 (k:Int)]]:=by rw [hsu];simp [ics]
   generalize idL k = I at *
   simp (disch:=omega) [go_sem,Mesh.cs,hlt,wrap64_small,htk]
   exact⟨⟨by simp [ics,hil],by omega,by omega⟩,k + 1,by omega,by omega,⟨rfl,by simp⟩,⟨rfl,rfl⟩,⟨rfl,hic.symm⟩,ics_cl _ _⟩
end
end Go.Abs
set_option linter.unusedVariables false
set_option linter.unusedSimpArgs false
namespace Go.Abs
theorem UM.cl2 {hx:List O} {KJ:List (P2 × (Nat × Nat))} {Q:List (P2 × Int)} (h:UM hx KJ Q) {N:Nat} (hN:hx.length + 2 ≤ N):∀ (a b:V) (x:P2) (y z:Nat),(x,y,z) ∈ KJ→asG P2.enc evU (x,y,z) = (a,b)→a.cl N = true∧b.cl N = true:=fun a b x y z hm he=>by
 have:=h.cl hN (asG P2.enc evU (x,y,z)) (List.mem_map.2 ⟨_,hm,rfl⟩)
 rw [he] at this
 exact this
theorem mcs_cl (m:Mesh) (N:Nat):∀ x ∈ m.cs,x.cl N = true:=by
 intro x hx
 simp [Mesh.cs] at hx
 rcases hx with rfl | rfl <;> rfl
theorem Flt.one {o:O} (h:∀ n,o.cl n):Flt [o]:=fun x hx n=>by simp at hx;subst hx;exact h n
theorem fe_cl (e:P2) (n:Nat):(O.arr 1 2 [[V.i .i64 e.x,V.i .i64 e.y]]).cl n:=by
 intro el hel x hx
 simp at hel;subst hel
 simp at hx;rcases hx with rfl | rfl <;> rfl
theorem nodup_len {α:Type} [BEq α] [LawfulBEq α]:∀ {A B:List α},A.Nodup→(∀ a ∈ A,a ∈ B)→A.length ≤ B.length
 | [],_,_,_=>Nat.zero_le _
 | a :: A,B,h,hs=>by
   have h1:=List.nodup_cons.1 h
   have h2:=nodup_len (A:=A) (B:=B.erase a) h1.2 fun b hb=>by
    rw [List.mem_erase_of_ne (by rintro rfl;exact h1.1 hb)]
    exact hs b (by simp [hb])
   rw [List.length_erase_of_mem (hs a (by simp))] at h2
   have:=List.length_pos_of_mem (hs a (by simp))
   simp only [List.length_cons]
   omega
theorem Part.len {ts:List T3} {D S:List Int} {i:Nat} (h:Part ts D S i):S.length ≤ ts.length:=by
 have h1:=(List.nodup_append.1 h.nodup).2.1
 have h2:=nodup_len (B:=(List.range ts.length).map fun (j:Nat)=>(j:Int)) h1 fun v hv=>by
  obtain⟨h0,hc⟩:=h.mem v hv
  exact List.mem_map.2 ⟨v.toNat,List.mem_range.2 hc.lt.2,by omega⟩
 simpa using h2
def BfK (ts:List T3) (D S:List Int) (k:Nat):Prop:=∀ (k':Nat) (v:Int),k' < k→S[k']? = some v→∀ j:Nat,adjI ts v.toNat j→(j:Int) ∈ D ++ S
structure BfI (ts:List T3) (D S:List Int) (i k:Nat) (v:Int) (E:List P2):Prop where
 part:Part ts D S i
 bk:BfK ts D S k
 at_:S[k]? = some v
 ed:∀ e ∈ E,∀ w ∈ usL (allP ts ts.length) e.und,w ∈ D ++ S
theorem mem_more {D S:List Int} {u w:Int} (h:w ∈ D ++ S):w ∈ D ++ (S ++ [u]):=by
 rcases List.mem_append.1 h with h | h <;> simp [h]
theorem BfI.add {ts:List T3} {D S:List Int} {i k:Nat} {v u:Int} {E:List P2} (h:BfI ts D S i k v E) (hu:0 ≤ u) (hadj:adjI ts v.toNat u.toNat) (hn:u ∉ D ++ S):BfI ts D (S ++ [u]) i k v E:=by
 have hk:=(List.getElem?_eq_some_iff.1 h.at_).1
 refine⟨h.part.add (List.mem_of_getElem? h.at_) hu hadj hn,fun k' w hk' hw j hj=>?_,by rw [List.getElem?_append_left hk];exact h.at_,fun e he w hw=>mem_more (h.ed e he w hw)⟩
 rw [List.getElem?_append_left (by omega)] at hw
 exact mem_more (h.bk k' w hk' hw j hj)
theorem BfI.more {ts:List T3} {D S:List Int} {i k:Nat} {v:Int} {E:List P2} (h:BfI ts D S i k v E) {e:P2} (ha:∀ w ∈ usL (allP ts ts.length) e.und,w ∈ D ++ S):BfI ts D S i k v (E ++ [e]) :=
 ⟨h.part,h.bk,h.at_,fun e' he w hw=>by
  rcases List.mem_append.1 he with h1 | h1
  ·exact h.ed e' h1 w hw
  ·simp at h1;subst h1;exact ha w hw⟩
theorem BfI.next {ts:List T3} {D S:List Int} {i k:Nat} {v:Int} (h:BfI ts D S i k v (edgesOf (tAt ts v.toNat))):BfK ts D S (k + 1):=fun k' w hk' hw j hj=>by
 by_cases hkk:k' = k
 ·subst hkk
  rw [h.at_] at hw
  obtain rfl:=Option.some.inj hw
  obtain⟨e,he,hm⟩:=(adj_us hj.lt.1).1 hj
  exact h.ed e he _ hm
 ·exact h.bk k' w (by omega) hw j hj
theorem old0 {ts:List T3} {L:List Int} (hL:IsLab ts L):Old ts L [] 0 :=
 ⟨by simp,fun v=>by
  constructor
  ·intro h;simp at h
  ·rintro⟨j,_,_,u,h3,h4⟩
   have:=(hL.con j u h3).1
   omega⟩
section
variable {P:Program} (hm:P.follows .mixedOrders = true)
include hm
set_option maxRecDepth 20000 in
set_option maxHeartbeats 8000000 in
theorem topo_Shells_ok {f fc fe fu fs:FuncId} (hf:FnOk P f (topo_Shells.c fc fe fu fs) topo_Shells.r topo_Shells.n) (hc:CheckC P fc) (he:EdgesC P fe) (hu:UndC P fu) (hs:SortIC P fs):ShellsC P f:=by
 intro m
 by_cases hz:m.check = 0
 case neg =>
  have he:m.shells = []:=by simp [Mesh.shells,hz]
  rw [he]
  refine CallIs.res (r:=.nil) ?_ lsV_nil
  refine PureC.is (pure_of hm hf (Nat.le_of_ble_eq_true rfl) ?_) rfl
  unfold topo_Shells.c
  simp [go_sem,Mesh.enc,Mesh.cs]
  refine ACall_is (hc m) ?_
  simp [go_sem,hz,topo_Shells.r]
 have hl:=(Mesh.check_zero.1 hz).2.1
 obtain⟨L,hL⟩:=lab_ex m.tris
 have hR:m.shells = shsK L L.length:=by unfold Mesh.shells;rw [if_pos hz,labOf_eq hL]
 rw [hR]
 have hLl:=hL.len
 refine PureC.is (pure_ofF hm hf (Nat.le_of_ble_eq_true rfl) ?_) rfl
 unfold topo_Shells.c
 simp [go_sem,Mesh.enc,Mesh.cs,tsV]
 refine ACall_is (hc m) ?_
 simp [go_sem,hz]
 refine AS_loop (α:=Nat × List O × List (P2 × (Nat × Nat))) (fun p=>p.1 ≤ m.tris.length∧UM p.2.1 p.2.2 (allP m.tris p.1)∧Flt p.2.1)
  (fun p=>⟨[(1,.p 0 1 0 0),(3,.mp 1),(22,tsV m.tris),(23,.i .i64 m.tris.length),(24,.i .i64 p.1)],.arr 1 2 [m.cs] :: .mp (p.2.2.map (asG P2.enc evU)) :: p.2.1⟩)
  (fun p=>m.tris.length - p.1) (0,[],[]) ⟨Nat.zero_le _,UM.nil,by simp [Flt]⟩ ?_ ?_
 ·simp [go_sem,Mesh.cs,vsV,tsV]
 ·rintro⟨i,hx,KJ⟩ ⟨hi,hU,hF⟩
  simp only at hi hU hF ⊢
  by_cases hil:i = m.tris.length
  ·subst hil
   simp [go_sem,Mesh.cs,tsV,mk_nil]
   have hmcs:m.cs = [vsV m.verts,.l 3 (m.tris.map T3.cs)]:=rfl
   obtain⟨pre,hpre⟩:∃ pre:List (List V)→Nat→List (List V)→List O,pre = fun M g C=>.arr 1 2 [m.cs] :: .mp (KJ.map (asG P2.enc evU)) :: (hx ++ [.arr 1 1 M,.arr g 1 C]):=⟨_,rfl⟩
   obtain⟨mi,hmi⟩:∃ mi,mi = hx.length + 2:=⟨_,rfl⟩
   obtain⟨oi,hoi⟩:∃ oi,oi = hx.length + 3:=⟨_,rfl⟩
   obtain⟨N,hN⟩:∃ N,N = hx.length + 4:=⟨_,rfl⟩
   have plen:∀ M g C,(pre M g C).length = N:=fun M g C=>by rw [hpre,hN];simp
   have f0:∀ M g C l,(pre M g C ++ l)[0]? = some (.arr 1 2 [m.cs]):=fun M g C l=>by rw [hpre];rfl
   have f1:∀ M g C l,(pre M g C ++ l)[1]? = some (.mp (KJ.map (asG P2.enc evU))):=fun M g C l=>by rw [hpre];rfl
   have fm:∀ M g C l,(pre M g C ++ l)[mi]? = some (.arr 1 1 M):=fun M g C l=>by rw [hpre,hmi];simp [app_get_0,app_get_r]
   have fo:∀ M g C l,(pre M g C ++ l)[oi]? = some (.arr g 1 C):=fun M g C l=>by rw [hpre,hoi];simp [app_get_0,app_get_r]
   have fu:∀ M g C l j o,hx[j]? = some o→(pre M g C ++ l)[j + 2]? = some o:=fun M g C l j o h=>by rw [hpre];simp only [List.cons_append,List.getElem?_cons_succ,List.append_assoc];exact app_get_l h
   have fk0:∀ M g C l,(pre M g C ++ l)[N]? = l[0]?:=fun M g C l=>by rw [← plen M g C];exact app_get_0 _ _
   have fk:∀ M g C l k,(pre M g C ++ l)[N + k]? = l[k]?:=fun M g C l k=>by rw [← plen M g C];exact app_get_r _ _ _
   have sm:∀ M M' g C l,(pre M g C ++ l).set mi (.arr 1 1 M') = pre M' g C ++ l:=fun M M' g C l=>by rw [hpre,hmi];simp [app_set_0,app_set_r]
   have so:∀ M g g' C C' l,(pre M g C ++ l).set oi (.arr g' 1 C') = pre M g' C' ++ l:=fun M g g' C C' l=>by rw [hpre,hoi];simp [app_set_0,app_set_r]
   have sk:∀ M g C l k o,(pre M g C ++ l).set (N + k) o = pre M g C ++ l.set k o:=fun M g C l k o=>by rw [← plen M g C];exact app_set_r _ _ _ _
   have pcl:∀ D g C n',N ≤ n'→(∀ el ∈ C,∀ x ∈ el,x.cl n' = true)→∀ o ∈ pre (mk m.tris.length D) g C,o.cl n':=by
    intro D g C n' hn hC o ho
    rw [hpre] at ho
    simp only [List.mem_cons,List.mem_append,List.not_mem_nil,or_false] at ho
    rcases ho with rfl | rfl | ho | rfl | rfl
    ·intro el hel x hx'
     simp at hel;subst hel;exact mcs_cl m n' x hx'
    ·exact hU.cl (by omega)
    ·exact hF o ho n'
    ·exact mk_cl _ _ _
    ·exact hC
   refine⟨⟨by omega,by omega⟩,?_⟩
   refine AS_loopG [.t 8 1] (α:=Nat × List Int × List (List V) × List O) (fun p=>p.1 ≤ m.tris.length∧Old m.tris L p.2.1 p.1∧Held N p.2.2.2 (shsK L p.1) p.2.2.1∧Flt p.2.2.2∧(shsK L p.1).length ≤ p.1)
    (fun p=>⟨[(1,.p 0 1 0 0),(3,.mp 1),(8,.own oi ((shsK L p.1).length + 1) 0 (shsK L p.1).length),(9,.own mi 1 0 m.tris.length),(54,.i .i64 m.tris.length),(55,.i .i64 p.1)],
     pre (mk m.tris.length p.2.1) ((shsK L p.1).length + 1) p.2.2.1 ++ p.2.2.2⟩)
    (fun p=>m.tris.length - p.1) (0,[],[],[]) ⟨Nat.zero_le _,old0 hL,Held.nil N,by simp [Flt],by simp [shsK]⟩ ?_ ?_
   ·simp [go_sem,hpre,hmi,hoi,shsK,hmcs]
    exact⟨rfl,hU.cl2 (by omega),WeakH_app (fun o ho=>hF o ho _) ⟨.inr ⟨rfl,mk_cl _ _ _⟩,.inr ⟨rfl,by simp [O.cl]⟩,trivial⟩⟩
   ·rintro⟨i,D,cells,hy⟩ ⟨hi,hD,hH,hFy,hsl⟩
    simp only at hi hD hH hFy hsl ⊢
    clear hpre
    by_cases hil:i = m.tris.length
    ·subst hil
     rw [hLl]
     have hfz:=held_if (base:=pre (mk m.tris.length D) ((shsK L m.tris.length).length + 1) cells) hH (plen _ _ _)
     generalize hls:shsK L m.tris.length = ls at *
     simp [go_sem,topo_Shells.r,DoneF_r,fo]
     rw [hfz];rfl
    ·have hlt:i < m.tris.length:=by omega
     have hmg:=mk_get (n:=m.tris.length) (d:=D) (v:=(i:Int)) (by omega) (by omega)
     rw [Int.toNat_natCast] at hmg
     obtain⟨_,hmg'⟩:=List.getElem?_eq_some_iff.1 hmg
     have hst:=shsK_succ L i
     generalize hls:shsK L i = ls at *
     by_cases hd:(i:Int) ∈ D
     ·obtain⟨hD2,hne⟩:=hD.skip hL hd
      rw [if_neg hne,List.append_nil] at hst
      rw [decide_eq_true hd] at hmg hmg'
      simp (disch:=omega) [go_sem,hlt,fm,hmg,hmg',wrap64_small]
      refine⟨i + 1,D,cells,hy,⟨by omega,hD2,by rw [hst];exact hH,hFy,by rw [hst];omega⟩,by omega,?_⟩
      rw [hst]
      simp [go_sem,plen]
      exact⟨⟨by omega,by omega,by omega,by omega⟩,WeakH_app (pcl _ _ _ _ (by simp) (hH.cl (by simp))) (hFy.WeakH' _)⟩
     ·have hLi:=hD.own hL hlt hd
      rw [if_pos hLi] at hst
      rw [decide_eq_false hd] at hmg hmg'
      have hP0:=Part.one hD hlt hd
      have hms:=fun d=>mk_set (n:=m.tris.length) (d:=d) (v:=(i:Int)) (by omega)
      simp only [Int.toNat_natCast] at hms
      simp (disch:=omega) [go_sem,hlt,fm,sm,hmg,hmg',hms,plen,wrap64_small]
      have hwk:∀ (D' S':List Int) (a:Nat) (l:List O) (n':Nat),N + hy.length ≤ n'→WeakH n' (pre (mk m.tris.length D') (ls.length + 1) cells ++ (hy ++ (O.arr a 1 (ics S') :: l))) (pre (mk m.tris.length D') (ls.length + 1) cells ++ (hy ++ [O.arr a 1 (ics S')])) :=
       fun D' S' a l n' hn=>WeakH_app (pcl _ _ _ _ (by omega) (hH.cl (by omega))) (WeakH_app (fun o ho=>hFy o ho _) ⟨.inr ⟨rfl,ics_cl _ _⟩,by cases l <;> trivial⟩)
      have hcell:=hH.1
      refine AS_loop (α:=Nat × List Int) (fun p=>p.1 ≤ p.2.length∧Part m.tris D p.2 i∧BfK m.tris D p.2 p.1)
       (fun p=>⟨[(1,.p 0 1 0 0),(3,.mp 1),(8,.own oi (ls.length + 1) 0 ls.length),(9,.own mi 1 0 m.tris.length),(11,.own (N + hy.length) p.2.length 0 p.2.length),(12,.i .i64 p.1),(54,.i .i64 m.tris.length),(55,.i .i64 i)],
        pre (mk m.tris.length (D ++ p.2)) (ls.length + 1) cells ++ (hy ++ [.arr p.2.length 1 (ics p.2)])⟩)
       (fun p=>m.tris.length - p.1) (0,[(i:Int)]) ⟨by simp,hP0,fun _ _ h=>by omega⟩ ?_ ?_
      ·simp [go_sem,ics,plen]
       exact⟨⟨by omega,by omega,by omega,by omega⟩,hwk _ [(i:Int)] 1 [] _ (by omega)⟩
      ·rintro⟨k,S⟩ ⟨hk,hP,hB⟩
       simp only at hk hP hB ⊢
       have hSl:=hP.len
       have gS:∀ M g C g' els l,(pre M g C ++ (hy ++ (O.arr g' 1 els :: l)))[N + hy.length]? = some (.arr g' 1 els):=fun M g C g' els l=>by rw [fk,app_get_0];rfl
       have gT:∀ M g C o x l,(pre M g C ++ (hy ++ (o :: x :: l)))[N + (hy.length + 1)]? = some x:=fun M g C o x l=>by rw [fk,app_get_r];rfl
       have sS:∀ M g C o o' l,(pre M g C ++ (hy ++ (o :: l))).set (N + hy.length) o' = pre M g C ++ (hy ++ (o' :: l)):=fun M g C o o' l=>by rw [sk,app_set_0];rfl
       by_cases hkl:k = S.length
       ·subst hkl
        have hall:=hP.all hL hD hlt hLi fun v hv j hj=>by
         obtain⟨k',hk'⟩:=List.getElem?_of_mem hv
         exact hB k' v (List.getElem?_eq_some_iff.1 hk').1 hk' j hj
        have hso:=sort_shK (List.nodup_append.1 hP.nodup).2.1 hall
        have hon:=hD.next hL hP.nodup hall
        rw [hLl] at hst
        generalize shK L i m.tris.length = W at *
        have hWl:W.length = S.length:=by rw [← hso];simp [sortZ]
        have hcall:=hs (pre (mk m.tris.length (D ++ S)) (ls.length + 1) cells ++ (hy ++ [O.arr S.length 1 (ics S)])) (N + hy.length) S.length S (by omega) (gS _ _ _ _ _ _)
        rw [sS,hso] at hcall
        have htc:List.take ls.length cells = cells:=List.take_of_length_le (by omega)
        have hHs:Held N (hy ++ [O.arr S.length 1 (ics W)]) (ls ++ [W]) (cells ++ [[.own (N + hy.length) S.length 0 S.length]]):=by
         have:=(hH.app [O.arr S.length 1 (ics W)]).snoc (j:=hy.length) (l:=W) (g:=S.length) (by rw [app_get_0];rfl)
         rwa [hWl] at this
        have hFs:Flt (hy ++ [O.arr S.length 1 (ics W)]):=hFy.app (Flt.one fun n=>ics_cl W n)
        simp (disch:=omega) [go_sem,gS]
        refine ACall_to hcall ?_
        change Nx P _ _ _ _ _ (pre (mk m.tris.length (D ++ S)) (ls.length + 1) cells ++ (hy ++ [O.arr S.length 1 (ics W)]))
        simp (disch:=omega) [go_sem,fo,so,htc,gT,plen,wrap64_small]
        refine⟨⟨by omega,by omega,by omega⟩,i + 1,D ++ S,_,hy ++ [O.arr S.length 1 (ics W)],⟨by omega,hon,by rw [hst];exact hHs,hFs,by rw [hst];simp;omega⟩,by omega,?_⟩
        rw [hst]
        simp [go_sem,plen]
        exact⟨⟨by omega,by omega,by omega,by omega⟩,WeakH_app (pcl _ _ _ _ (by omega) (hHs.cl (by simp))) (WeakH_app (fun o ho=>hFy o ho _) ⟨.inr ⟨rfl,ics_cl _ _⟩,trivial⟩)⟩
       ·have hkS:k < S.length:=by omega
        have hv:S[k]? = some S[k]:=List.getElem?_eq_getElem hkS
        generalize S[k] = v at hv
        obtain⟨hv0,hvc⟩:=hP.mem v (List.mem_of_getElem? hv)
        have hvl:=hvc.lt.2
        have hic:(ics S)[k]? = some [V.i .i64 v]:=by simp [ics,hv]
        obtain⟨hicl,hic'⟩:=List.getElem?_eq_some_iff.1 hic
        have ht:=tAt_get hvl
        generalize htt:tAt m.tris v.toNat = t at ht
        obtain⟨_,ht'⟩:=List.getElem?_eq_some_iff.1 ht
        have hvl2:v < m.tris.length:=by omega
        simp (disch:=omega) [go_sem,f0,hmcs,hkS,gS,hic,hic',hicl,ht,ht',hvl,hvl2,hv0,tcs,wrap64_small]
        refine DCall_is (he t) ?_
        have hlen:(edgesOf t).length ≤ 3:=edgesK_le t 3
        have hnx:∀ S',BfI m.tris D S' i k v (edgesOf t)→BfK m.tris D S' (k + 1):=fun S' h=>by rw [← htt] at h;exact h.next
        have htm:m.tris[v.toNat]? = some t:=ht
        have hel:∀ e ∈ edgesOf t,e ∈ edgesOf t:=fun e h=>h
        generalize hEE:edgesOf t = E at hlen hnx hel
        simp [go_sem,psV]
        refine AS_loop (α:=Nat × List Int) (fun p=>p.1 ≤ E.length∧BfI m.tris D p.2 i k v (E.take p.1))
         (fun p=>⟨[(1,.p 0 1 0 0),(3,.mp 1),(8,.own oi (ls.length + 1) 0 ls.length),(9,.own mi 1 0 m.tris.length),(11,.own (N + hy.length) p.2.length 0 p.2.length),(12,.i .i64 k),(54,.i .i64 m.tris.length),(55,.i .i64 i),(81,psV E),(82,.i .i64 E.length),(83,.i .i64 p.1)],
          pre (mk m.tris.length (D ++ p.2)) (ls.length + 1) cells ++ (hy ++ [.arr p.2.length 1 (ics p.2)])⟩)
         (fun p=>E.length - p.1) (0,S) ⟨Nat.zero_le _,hP,hB,hv,by simp⟩ ?_ ?_
        ·simp [go_sem,psV,plen]
         exact⟨⟨by omega,by omega,by omega,by omega⟩,hwk _ S _ [] _ (by omega)⟩
        ·clear hP hB hv hic hicl hic' hkl hkS hk hSl
         rintro⟨q,S⟩ ⟨hq,hI⟩
         simp only at hq hI ⊢
         have hSl:=hI.part.len
         have hkS:=(List.getElem?_eq_some_iff.1 hI.at_).1
         by_cases hql:q = E.length
         ·subst hql
          rw [List.take_length] at hI
          have hB:=hnx S hI
          simp (disch:=omega) [go_sem,psV,wrap64_small,plen]
          exact⟨k + 1,S,⟨by omega,hI.part,hB⟩,by omega,⟨by omega,by omega,by omega,by omega,rfl,by simp⟩,hwk _ S _ [] _ (by omega)⟩
         ·have hqE:q < E.length:=by omega
          have hee:E[q]? = some E[q]:=List.getElem?_eq_getElem hqE
          generalize E[q] = e at hee
          have heE:e ∈ E:=List.mem_of_getElem? hee
          have htk:=take_succ_get hee
          obtain⟨_,hee'⟩:=List.getElem?_eq_some_iff.1 hee
          have hfe:findE [1,1] (V.a [.i .i64 e.und.x,.i .i64 e.und.y]) (KJ.map (asG P2.enc evU)) = _:=findE_G key_P2 evU e.und KJ
          simp (disch:=omega) [go_sem,psV,hqE,hee,hee',pcs,gT,app_get_0,app_get_r]
          refine ACall_is (hu e) ?_
          cases hfn:fndG e.und KJ with
          | none =>
            rw [hfn,Option.map_none] at hfe
            have hus:=hU.none _ hfn
            simp (disch:=omega) [go_sem,P2.enc,P2.cs,f1,hfe,wrap64_small]
            refine AS_loop (α:=Unit) (fun _=>True)
             (fun _=>⟨[(1,.p 0 1 0 0),(3,.mp 1),(8,.own oi (ls.length + 1) 0 ls.length),(9,.own mi 1 0 m.tris.length),(11,.own (N + hy.length) S.length 0 S.length),(12,.i .i64 k),(54,.i .i64 m.tris.length),(55,.i .i64 i),(81,psV E),(82,.i .i64 E.length),(83,.i .i64 q),(91,.i .i64 0),(92,.i .i64 0)],
              pre (mk m.tris.length (D ++ S)) (ls.length + 1) cells ++ (hy ++ [.arr S.length 1 (ics S)])⟩)
             (fun _=>0) () trivial ?_ ?_
            ·simp [go_sem,psV,plen]
             exact⟨⟨by omega,by omega,by omega,by omega⟩,hwk _ S _ _ _ (by omega)⟩
            ·intro _ _
             simp (disch:=omega) [go_sem,psV,plen,wrap64_small]
             exact⟨q + 1,S,⟨by omega,by rw [htk];exact hI.more (by rw [hus];simp)⟩,by omega,⟨by omega,by omega,by omega,by omega,rfl,by simp⟩,hwk _ S _ [] _ (by omega)⟩
          | some w =>
            obtain⟨p,jj,n⟩:=w
            rw [hfn,Option.map_some] at hfe
            obtain⟨hn,hjj⟩:=hU.val p e.und jj n (fndG_some hfn)
            have hjjl:=(List.getElem?_eq_some_iff.1 hjj).1
            have gU:=fun M g C l=>fu M g C l jj _ hjj
            have hmU:∀ w ∈ usL (allP m.tris m.tris.length) e.und,∃ j:Nat,j < m.tris.length∧w = (j:Int)∧adjI m.tris v.toNat j:=fun w hw=>by
             obtain⟨j,h1,h2,a,ha,hab⟩:=mem_allP.1 (mem_usL.1 hw)
             exact⟨j,h1,h2,t,_,htm,tAt_get h1,e,by rw [hEE];exact heE,a,ha,hab.symm⟩
            have hmore:=fun S' (h:BfI m.tris D S' i k v (E.take q))=>h.more (e:=e)
            have hUl:=usL_len (allP m.tris m.tris.length) e.und
            have hAl:=allP_len m.tris m.tris.length
            generalize usL (allP m.tris m.tris.length) e.und = U at hn hjj gU hmU hmore hUl
            subst hn
            simp (disch:=omega) [go_sem,P2.enc,P2.cs,f1,hfe,evU,gU,wrap64_small]
            refine AS_loop (α:=Nat × List Int) (fun p=>p.1 ≤ U.length∧BfI m.tris D p.2 i k v (E.take q)∧∀ w ∈ U.take p.1,w ∈ D ++ p.2)
             (fun p=>⟨[(1,.p 0 1 0 0),(3,.mp 1),(8,.own oi (ls.length + 1) 0 ls.length),(9,.own mi 1 0 m.tris.length),(11,.own (N + hy.length) p.2.length 0 p.2.length),(12,.i .i64 k),(54,.i .i64 m.tris.length),(55,.i .i64 i),(81,psV E),(82,.i .i64 E.length),(83,.i .i64 q),(90,.own (jj + 2) U.length 0 U.length),(91,.i .i64 U.length),(92,.i .i64 p.1)],
              pre (mk m.tris.length (D ++ p.2)) (ls.length + 1) cells ++ (hy ++ [.arr p.2.length 1 (ics p.2)])⟩)
             (fun p=>U.length - p.1) (0,S) ⟨Nat.zero_le _,hI,by simp⟩ ?_ ?_
            ·simp [go_sem,psV,plen]
             exact⟨⟨by omega,by omega,by omega,by omega,by omega⟩,hwk _ S _ _ _ (by omega)⟩
            ·clear hI hSl hkS
             rintro⟨r,S⟩ ⟨hr,hI,hmr⟩
             simp only at hr hI hmr ⊢
             have hSl:=hI.part.len
             by_cases hrl:r = U.length
             ·subst hrl
              rw [List.take_length] at hmr
              simp (disch:=omega) [go_sem,psV,plen,wrap64_small]
              exact⟨q + 1,S,⟨by omega,by rw [htk];exact hmore S hI hmr⟩,by omega,⟨by omega,by omega,by omega,by omega,rfl,by simp⟩,hwk _ S _ [] _ (by omega)⟩
             ·have hrU:r < U.length:=by omega
              have hur:U[r]? = some U[r]:=List.getElem?_eq_getElem hrU
              obtain⟨j,hjl,hju,hadj⟩:=hmU _ (List.mem_of_getElem? hur)
              rw [hju] at hur
              have htr:=take_succ_get hur
              have hicU:(ics U)[r]? = some [V.i .i64 (j:Int)]:=by simp [ics,hur]
              obtain⟨hiclU,hicU'⟩:=List.getElem?_eq_some_iff.1 hicU
              have hmg:=mk_get (n:=m.tris.length) (d:=D ++ S) (v:=(j:Int)) (by omega) (by omega)
              rw [Int.toNat_natCast] at hmg
              obtain⟨hmgl,hmg'⟩:=List.getElem?_eq_some_iff.1 hmg
              have hms:=mk_set (n:=m.tris.length) (d:=D ++ S) (v:=(j:Int)) (by omega)
              rw [Int.toNat_natCast] at hms
              by_cases hjm:(j:Int) ∈ D ++ S
              ·rw [decide_eq_true hjm] at hmg hmg'
               have hmr2:∀ w ∈ U.take (r + 1),w ∈ D ++ S:=fun w hw=>by
                rw [htr] at hw
                rcases List.mem_append.1 hw with h | h
                ·exact hmr w h
                ·simp at h;subst h;exact hjm
               generalize hDS:D ++ S = DS at *
               simp (disch:=omega) [go_sem,psV,gU,hrU,hur,hicU,hicU',hiclU,fm,hmg,hmg',plen,wrap64_small]
               exact⟨hjl,r + 1,S,⟨by omega,hI,fun w hw=>List.mem_append.1 (by rw [hDS];exact hmr2 w hw)⟩,by omega,⟨by omega,by omega,by omega,by omega,rfl,by omega,by simp⟩,by rw [hDS];exact hwk DS S _ [] _ (by omega)⟩
              ·rw [decide_eq_false hjm] at hmg hmg'
               have hI2:=hI.add (u:=(j:Int)) (by omega) (by rw [Int.toNat_natCast];exact hadj) hjm
               have hmr2:∀ w ∈ U.take (r + 1),w ∈ D ++ (S ++ [(j:Int)]):=fun w hw=>by
                rw [htr] at hw
                rcases List.mem_append.1 hw with h | h
                ·exact mem_more (hmr w h)
                ·simp at h;subst h;simp
               have htS:List.take S.length (ics S) = ics S:=List.take_of_length_le (by simp [ics])
               have hiS:S.length ≤ (ics S).length:=by simp [ics]
               have hDS2:D ++ (S ++ [(j:Int)]) = D ++ S ++ [(j:Int)]:=(List.append_assoc _ _ _).symm
               have hicsS:ics (S ++ [(j:Int)]) = ics S ++ [[.i .i64 (j:Int)]]:=by simp [ics]
               generalize hDS:D ++ S = DS at *
               simp (disch:=omega) [go_sem,psV,gU,hrU,hur,hicU,hicU',hiclU,fm,sm,gS,sS,gT,htS,hiS,hmg,hmg',hms,plen,wrap64_small]
               refine⟨hjl,⟨by omega,by omega⟩,r + 1,S ++ [(j:Int)],⟨by omega,hI2,fun w hw=>List.mem_append.1 (hmr2 w hw)⟩,by omega,⟨by omega,by omega,by omega,by omega,by simp,by omega,by simp⟩,?_⟩
               rw [hDS2,hicsS,List.length_append,List.length_singleton]
               have:=hwk (DS ++ [(j:Int)]) (S ++ [(j:Int)]) (S.length + 1) [] (N + (hy.length + 1)) (by omega)
               rwa [hicsS] at this
  ·have hlt:i < m.tris.length:=by omega
   have hp:=tAt_get hlt
   have hps:=allP_succ m.tris i
   have hal:=allP_len m.tris i
   generalize tAt m.tris i = t at hp hps
   obtain⟨_,hp'⟩:=List.getElem?_eq_some_iff.1 hp
   generalize hQ:allP m.tris i = Q at *
   simp [go_sem,Mesh.cs,tsV,hlt,hp,hp',tcs,app_get_0,app_get_r]
   refine ACall_is (he t) ?_
   have hlen:(edgesOf t).length ≤ 3:=edgesK_le t 3
   simp [go_sem,psV]
   refine AS_loop (α:=Nat × List O × List (P2 × (Nat × Nat))) (fun p=>p.1 ≤ (edgesOf t).length∧UM p.2.1 p.2.2 (Q ++ ((edgesOf t).take p.1).map fun e=>(e.und,(i:Int)))∧Flt p.2.1)
    (fun p=>⟨[(1,.p 0 1 0 0),(3,.mp 1),(4,.i .i64 i),(22,tsV m.tris),(23,.i .i64 m.tris.length),(24,.i .i64 i),(30,psV (edgesOf t)),(31,.i .i64 (edgesOf t).length),(32,.i .i64 p.1)],.arr 1 2 [m.cs] :: .mp (p.2.2.map (asG P2.enc evU)) :: p.2.1⟩)
    (fun p=>(edgesOf t).length - p.1) (0,hx ++ [.arr 1 3 [t.cs]],KJ) ⟨Nat.zero_le _,by simpa using hU.app _,hF.app (by simp [Flt,O.cl,t3c_cl])⟩ ?_ ?_
   ·simp [go_sem,Mesh.cs,tsV,vsV,psV]
    exact⟨hU.cl2 (by omega),(hF.app (Flt.one (o:=.arr 1 3 [t.cs]) fun n=>by intro el hel x hx;simp at hel;subst hel;exact of_eq_true (t3c_cl t n) x hx)).WeakH' _⟩
   ·rintro⟨j,hx,KJ⟩ ⟨hj,hU,hF⟩
    simp only at hj hU hF ⊢
    by_cases hjl:j = (edgesOf t).length
    ·subst hjl
     rw [List.take_length,← hps] at hU
     simp (disch:=omega) [go_sem,Mesh.cs,tsV,vsV,psV,wrap64_small]
     exact⟨i + 1,hx,KJ,⟨by omega,hU,hF⟩,by omega,by omega,by simp,⟨rfl,hU.cl2 (by omega)⟩,hF.WeakH' _⟩
    ·have hjt:j < (edgesOf t).length:=by omega
     have hq:(edgesOf t)[j]? = some (edgesOf t)[j]:=List.getElem?_eq_getElem hjt
     have htk:((edgesOf t).take (j + 1)).map (fun e=>(e.und,(i:Int))) = ((edgesOf t).take j).map (fun e=>(e.und,(i:Int))) ++ [((edgesOf t)[j].und,(i:Int))]:=by rw [take_succ_get hq,List.map_append];rfl
     generalize (edgesOf t)[j] = e at hq htk
     obtain⟨_,hq'⟩:=List.getElem?_eq_some_iff.1 hq
     have hQs:Q ++ ((edgesOf t).take (j + 1)).map (fun e=>(e.und,(i:Int))) = (Q ++ ((edgesOf t).take j).map fun e=>(e.und,(i:Int))) ++ [(e.und,(i:Int))]:=by rw [htk,← List.append_assoc]
     have hQl:(Q ++ ((edgesOf t).take j).map fun e=>(e.und,(i:Int))).length ≤ 12300:=by rw [List.length_append,List.length_map,List.length_take];omega
     generalize (Q ++ ((edgesOf t).take j).map fun e=>(e.und,(i:Int))) = Q1 at *
     have hul:=usL_len Q1 e.und
     have hfe:findE [1,1] (V.a [.i .i64 e.und.x,.i .i64 e.und.y]) (KJ.map (asG P2.enc evU)) = _:=findE_G key_P2 evU e.und KJ
     simp [go_sem,psV,hjt,hq,hq',pcs,app_get_0,app_get_r]
     refine DCall_is (hu e) ?_
     simp [go_sem,P2.enc,P2.cs,app_get_0,app_get_r]
     refine DCall_is (hu e) ?_
     cases hfn:fndG e.und KJ with
     | none =>
       rw [hfn,Option.map_none] at hfe
       simp (disch:=omega) [go_sem,P2.enc,P2.cs,hfe,app_get_0,app_get_r,wrap64_small]
       have hF2:Flt (hx ++ [.arr 1 2 [[.i .i64 e.x,.i .i64 e.y]],.arr 1 1 (ics [(i:Int)])]):=hF.app fun o ho n=>by
        simp at ho
        rcases ho with rfl | rfl
        ·exact fe_cl e n
        ·exact ics_cl _ _
       have hU2:=hU.new (v:=(i:Int)) hfn (l:=[.arr 1 2 [[.i .i64 e.x,.i .i64 e.y]],.arr 1 1 (ics [(i:Int)])]) (j0:=hx.length + 1) (by omega) (by rw [app_get_r];rfl)
       exact⟨j + 1,_,_,⟨by omega,by rw [← List.map_take,hQs];exact hU2,hF2⟩,by omega,by simp,⟨.inr rfl,by simp⟩,mcs_cl m _,⟨by rw [List.map_append];rfl,hU2.cl2 (by simp)⟩,hF2.WeakH' _⟩
     | some q =>
       obtain⟨p,jj,n⟩:=q
       rw [hfn,Option.map_some] at hfe
       obtain⟨hn,hjj⟩:=hU.val p e.und jj n (fndG_some hfn)
       have hjjl:=(List.getElem?_eq_some_iff.1 hjj).1
       have hgj:∀ l:List O,(hx ++ l)[jj]? = some (.arr n 1 (ics (usL Q1 e.und))):=fun l=>app_get_l hjj
       have hsj:∀ (l:List O) (o:O),(hx ++ l).set jj o = hx.set jj o ++ l:=fun l o=>app_set_l l hjjl o
       have htn:List.take n (ics (usL Q1 e.und)) = ics (usL Q1 e.und):=List.take_of_length_le (by simp [ics,hn])
       have hnl:n ≤ (ics (usL Q1 e.und)).length:=by simp [ics,hn]
       simp (disch:=omega) [go_sem,P2.enc,P2.cs,hfe,evU,hgj,hsj,htn,hnl,app_get_0,app_get_r,wrap64_small]
       have hF2:Flt (hx.set jj (.arr (n + 1) 1 (ics (usL Q1 e.und) ++ [[.i .i64 (i:Int)]])) ++ [.arr 1 2 [[.i .i64 e.x,.i .i64 e.y]]]):=(hF.set fun n'=>by
        have:ics (usL Q1 e.und) ++ [[V.i .i64 (i:Int)]] = ics (usL Q1 e.und ++ [(i:Int)]):=by simp [ics]
        rw [this];exact ics_cl _ _).app (Flt.one (fe_cl e))
       have hU2:=(hU.old (v:=(i:Int)) hfn).app [.arr 1 2 [[.i .i64 e.x,.i .i64 e.y]]]
       refine⟨⟨by omega,by omega⟩,fun o ho=>?_,j + 1,_,_,⟨by omega,by rw [← List.map_take,hQs];exact hU2,hF2⟩,by omega,by simp,⟨.inr rfl,by simp⟩,mcs_cl m _,⟨by rw [List.map_set];rfl,hU2.cl2 (by simp)⟩,hF2.WeakH' _⟩
       rw [List.drop_eq_nil_of_le (by simp)] at ho
       simp at ho
end
end Go.Abs
