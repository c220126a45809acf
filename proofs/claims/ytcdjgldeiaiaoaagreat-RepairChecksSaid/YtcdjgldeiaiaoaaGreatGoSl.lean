/- Part of the library on which the proof stands: an abstract machine, its values and its soundness against the model; or what functions of the program do to such values. -/
import Derived.Test.YtcdjgldeiaiaoaaGreatGoSet
import Derived.Test.YtcdjgldeiaiaoaaGreatGoTpE
set_option linter.unusedVariables false
set_option linter.unusedSimpArgs false
namespace Go.Abs
def fromK (l:List P2) (k:Nat):List (Int × Int):=(l.take k).foldl (fun M e=>putG e.y e.x M) []
theorem fromK_succ {l:List P2} {k:Nat} {e:P2} (h:l[k]? = some e):fromK l (k + 1) = putG e.y e.x (fromK l k):=by unfold fromK;rw [take_succ_get h,List.foldl_append];rfl
theorem ynd_inj {l:List P2} (hy:(l.map P2.y).Nodup) {a b:P2} (ha:a ∈ l) (hb:b ∈ l) (h:a.y = b.y):a = b:=by
 obtain⟨i,hi,rfl⟩:=List.mem_iff_getElem.1 ha
 obtain⟨j,hj,rfl⟩:=List.mem_iff_getElem.1 hb
 have e1:(l.map P2.y).idxOf l[i].y = i:=by
  have:=hy.idxOf_getElem i (by simpa using hi)
  simpa using this
 have e2:(l.map P2.y).idxOf l[j].y = j:=by
  have:=hy.idxOf_getElem j (by simpa using hj)
  simpa using this
 rw [h] at e1
 have:i = j:=by omega
 subst this;rfl
theorem fromK_get {l:List P2} (hy:(l.map P2.y).Nodup):∀ (k:Nat),k ≤ l.length→∀ e ∈ l.take k,(fndG e.y (fromK l k)).map Prod.snd = some e.x
 | 0,_,e,he=>by simp at he
 | k + 1,hk,e,he=>by
   have hp:l[k]? = some l[k]:=List.getElem?_eq_getElem (by omega)
   rw [take_succ_get hp] at he
   rw [fromK_succ hp,fndG_put]
   by_cases h:e.y = l[k].y
   ·rw [if_pos h]
    have hel:e ∈ l:=by
     rcases List.mem_append.1 he with h1 | h1
     ·exact List.mem_of_mem_take h1
     ·simp at h1;subst h1;exact List.getElem_mem _
    rw [ynd_inj hy hel (List.getElem_mem _) h]
   ·rw [if_neg h]
    rcases List.mem_append.1 he with h1 | h1
    ·exact fromK_get hy k (by omega) e h1
    ·simp at h1;subst h1;exact absurd rfl h
theorem from_nxt {m:Mesh} (hz:m.check = 0) (h:m.simple m.border = true) {v:Int} (hv:v ∈ m.border.map P2.x):∃ i:Nat,fndG v (fromK m.border m.border.length) = some (i,nxt m.border v):=by
 rw [border_xy hz h] at hv
 obtain⟨e,he,rfl⟩:=List.mem_map.1 hv
 have hy:=border_ynd hz h
 have h1:=fromK_get hy m.border.length (Nat.le_refl _) e (by rw [List.take_length];exact he)
 rw [nxt_of hy he]
 cases hf:fndG e.y (fromK m.border m.border.length) with
 | none=>rw [hf] at h1;simp at h1
 | some p =>
   rw [hf] at h1
   simp only [Option.map_some,Option.some.injEq] at h1
   exact⟨p.1,by rw [← h1]⟩
theorem asI_cl2 (L:List (Int × Int)) (n:Nat):∀ (a b:V) (x y:Int),(x,y) ∈ L→asG (V.i .i64) (V.i .i64) (x,y) = (a,b)→a.cl n = true∧b.cl n = true:=by
 rintro a b x y _ h
 simp only [asG,Prod.mk.injEq] at h
 obtain⟨rfl,rfl⟩:=h
 exact⟨rfl,rfl⟩
theorem find_use {m:Mesh} {e:P2} (h:e ∈ m.border):∃ i:Nat,fnd e (tallyM m) = some (i,m.use e):=by
 obtain⟨hz,he,_⟩:=mem_border.1 h
 obtain⟨i,hi⟩:=tallyM_of hz he
 exact⟨i,fnd_of_get (tallyM_nodup m) hi⟩
section
variable {P:Program} (hm:P.follows .mixedOrders = true)
include hm
set_option maxRecDepth 20000 in
set_option maxHeartbeats 8000000 in
theorem topo_Loops_ok {f fc fn fb fr:FuncId} (hf:FnOk P f (topo_Loops.c fc fn fb fr) topo_Loops.r topo_Loops.n) (hc:CheckC P fc) (hn:CountedC P fn) (hb:BoundaryC P fb) (hr:RevC P fr):LoopsC P f:=by
 intro m
 by_cases hz:m.check = 0
 case neg =>
  have he:m.loops = ([],m.check):=by simp [Mesh.loops,hz]
  rw [he]
  refine CallIs.res (r:=.t [.nil,.i .i64 m.check]) ?_ (lsV_no _)
  refine PureC.is (pure_of hm hf (Nat.le_of_ble_eq_true rfl) ?_) rfl
  unfold topo_Loops.c
  simp [go_sem,Mesh.enc,Mesh.cs]
  refine ACall_is (hc m) ?_
  simp [go_sem,hz,topo_Loops.r]
 have hbl:=border_len m
 have hLl:=tallyM_len m
 have hmain:PureC P f [m.enc] (· = if m.simple m.border = true then V.t [lsV (loopsOf m.border),.i .i64 0] else .t [.nil,.i .i64 13]):=by
  refine pure_ofF hm hf (Nat.le_of_ble_eq_true rfl) ?_
  have hrange:∀ e ∈ m.border,0 ≤ e.x∧e.x < m.verts.length:=fun e he=>⟨(border_range he).1,(border_range he).2.1⟩
  have hnm:∀ v,m.simple m.border = true→v ∈ m.border.map P2.x→nxt m.border v ∈ m.border.map P2.x:=fun v hsi=>nxt_mem hz hsi
  have hfx:∀ v,m.simple m.border = true→v ∈ m.border.map P2.x→∃ i:Nat,fndG v (fromK m.border m.border.length) = some (i,nxt m.border v):=fun v hsi=>from_nxt hz hsi
  have hfu:∀ e ∈ m.border,∃ i:Nat,fnd e (tallyM m) = some (i,m.use e):=fun e he=>find_use he
  have hvu:∀ e,val e (tallyM m) = m.use e:=val_tallyM m
  unfold topo_Loops.c
  simp [go_sem,Mesh.enc,Mesh.cs]
  refine ACall_is (hc m) ?_
  simp [go_sem,hz]
  refine ACall_new (hn m) rfl ?_
  simp only [List.map_cons,List.map_nil,sh_asV]
  simp [go_sem]
  refine ACall_is (hb m) ?_
  generalize m.border = l at *
  generalize hT:tallyM m = T at *
  simp [go_sem,psV]
  refine AS_loop (α:=Nat) (fun k=>k ≤ l.length∧∀ i,i < k→okAt m l i = true)
   (fun k=>⟨[(5,.mp 2),(6,psV l),(7,.mp 3),(26,psV l),(27,.i .i64 l.length),(28,.i .i64 k)],[.dead,.dead,.mp (T.map asV),.mp ((fromK l k).map (asG (V.i .i64) (V.i .i64)))]⟩)
   (fun k=>l.length - k) 0 ⟨Nat.zero_le _,by simp⟩ ?_ ?_
  ·simp [go_sem,psV,fromK]
   exact asV_cl _ 4
  ·rintro k ⟨hk,hok⟩
   by_cases hkl:k = l.length
   ·subst hkl
    have hsi:m.simple l = true:=List.all_eq_true.2 fun i hi=>hok i (List.mem_range.1 hi)
    rw [if_pos hsi]
    replace hnm:=fun v=>hnm v hsi
    replace hfx:=fun v=>hfx v hsi
    unfold loopsOf
    simp [go_sem,psV]
    have hxr:∀ v,v ∈ l.map P2.x→nxt l v ∈ l.map P2.x:=hnm
    refine AS_loopG [.t 10 1] (α:=Nat × List O × List (List V)) (fun p=>p.1 ≤ l.length∧Held 6 p.2.1 (loopsK (nxt l) l p.1).2 p.2.2∧Flt p.2.1∧(loopsK (nxt l) l p.1).2.length ≤ p.1)
     (fun p=>⟨[(7,.mp 3),(10,.own 5 ((loopsK (nxt l) l p.1).2.length + 1) 0 (loopsK (nxt l) l p.1).2.length),(11,.mp 4),(66,psV l),(67,.i .i64 l.length),(68,.i .i64 p.1)],
      .dead :: .dead :: .dead :: .mp ((fromK l l.length).map (asG (V.i .i64) (V.i .i64))) :: .mp ((loopsK (nxt l) l p.1).1.map (kt (V.i .i64))) :: .arr ((loopsK (nxt l) l p.1).2.length + 1) 1 p.2.2 :: p.2.1⟩)
     (fun p=>l.length - p.1) (0,[],[]) ⟨Nat.zero_le _,Held.nil 6,by simp [Flt],by simp [loopsK]⟩ ?_ ?_
    ·simp [go_sem,psV,loopsK]
     exact asI_cl2 _ _
    ·rintro⟨k,hx,cells⟩ ⟨hk,hH,hF,hkl⟩
     simp only at hk hH hF hkl ⊢
     by_cases hkl:k = l.length
     ·subst hkl
      have hfz:=held_if (base:=[.dead,.dead,.dead,.mp ((fromK l l.length).map (asG (V.i .i64) (V.i .i64))),.mp ((loopsK (nxt l) l l.length).1.map (kt (V.i .i64))),.arr ((loopsK (nxt l) l l.length).2.length + 1) 1 cells]) hH rfl
      simp only [List.cons_append,List.nil_append] at hfz
      generalize loopsK (nxt l) l l.length = D at *
      simp [go_sem,psV,topo_Loops.r,DoneF_r]
      rw [hfz];rfl
     ·have hlt:k < l.length:=by omega
      have hp:l[k]? = some l[k]:=List.getElem?_eq_getElem hlt
      have hmem:l[k] ∈ l:=List.getElem_mem _
      have hst:=loopsK_succ (nxt l) hp
      generalize l[k] = e at hp hst hmem
      obtain⟨_,hp'⟩:=List.getElem?_eq_some_iff.1 hp
      generalize loopsK (nxt l) l k = D at *
      obtain⟨done,ls⟩:=D
      simp only at *
      unfold loopStep at hst
      simp only at hst
      have f1:findE [1] (V.i .i64 e.x) (done.map (kt (V.i .i64))) = _:=findE_set key_i64 e.x done
      by_cases hd:e.x ∈ done
      ·rw [if_pos hd] at hst f1
       simp (disch:=omega) [go_sem,psV,hlt,hp,hp',pcs,f1,wrap64_small,app_get_r,app_get_0]
       exact⟨k + 1,hx,cells,⟨by omega,by rw [hst];exact hH,hF,by rw [hst];simp only;omega⟩,by omega,by omega,⟨by rw [hst],by simp⟩,asI_cl2 _ _,⟨by rw [hst],fun a _=>⟨rfl,rfl⟩⟩,⟨⟨by rw [hst],rfl⟩,hH.cl (by omega)⟩,hF.WeakH _⟩
      ·rw [if_neg hd] at hst f1
       simp (disch:=omega) [go_sem,psV,hlt,hp,hp',pcs,f1,wrap64_small,app_get_r,app_get_0]
       have hxA:e.x ∈ l.map P2.x:=List.mem_map.2 ⟨e,hmem,rfl⟩
       have htd:=todo_le (l.map P2.x) done
       rw [List.length_map] at htd
       generalize hR:walkW (nxt l) done (l.length + 1) [] e.x = R at hst
       refine AS_loopG [.t 14 1] (α:=Nat × List Int × Int) (fun q=>q.2.2 ∈ l.map P2.x∧todo (l.map P2.x) (done ++ q.2.1) < q.1∧walkW (nxt l) done q.1 q.2.1 q.2.2 = R∧q.2.1.length + q.1 ≤ l.length + 1)
        (fun q=>⟨[(7,.mp 3),(10,.own 5 (ls.length + 1) 0 ls.length),(11,.mp 4),(14,.own (hx.length + 7) (q.2.1.length + 1) 0 q.2.1.length),(15,.i .i64 q.2.2),(66,psV l),(67,.i .i64 l.length),(68,.i .i64 k)],
         .dead :: .dead :: .dead :: .mp ((fromK l l.length).map (asG (V.i .i64) (V.i .i64))) :: .mp ((done ++ q.2.1).map (kt (V.i .i64))) :: .arr (ls.length + 1) 1 cells :: (hx ++ [.dead,.arr (q.2.1.length + 1) 1 (ics q.2.1)])⟩)
        (fun q=>q.1) (l.length + 1,[],e.x) ⟨hxA,by simp only [List.append_nil];omega,hR,by simp⟩ ?_ ?_
       ·simp [go_sem,psV,ics]
        exact⟨asI_cl2 _ _,fun a _=>⟨rfl,rfl⟩,hH.cl (by omega),WeakH_app (fun o ho=>hF o ho _) (by simp [go_sem])⟩
       ·rintro⟨fu,w,v⟩ ⟨q1,q2,q3,q4⟩
        simp only at q1 q2 q3 q4 ⊢
        have f2:findE [1] (V.i .i64 v) ((done ++ w).map (kt (V.i .i64))) = _:=findE_set key_i64 v (done ++ w)
        cases fu with
        | zero=>omega
        | succ fu =>
          unfold walkW at q3
          by_cases hvd:v ∈ done ++ w
          ·rw [if_pos hvd] at q3 f2
           subst q3
           have htc:List.take ls.length cells = cells:=List.take_of_length_le (by rw [hH.1];exact Nat.le_refl _)
           have e4:hx.length + 7 = 6 + (hx.length + 1):=by omega
           have hHs:Held 6 (hx ++ [.dead,.arr (w.length + 1) 1 (ics w)]) (ls ++ [w]) (cells ++ [[.own (hx.length + 7) (w.length + 1) 0 w.length]]):=by
            rw [e4]
            exact (hH.app _).snoc (by rw [app_get_r];rfl)
           have hFs:Flt (hx ++ [.dead,.arr (w.length + 1) 1 (ics w)]):=hF.app fun o ho n=>by
            simp at ho
            rcases ho with rfl | rfl
            ·trivial
            ·exact ics_cl w n
           generalize hdw:done ++ w = dw at *
           simp (disch:=omega) [go_sem,psV,f2,wrap64_small,app_get_r,app_get_0,htc]
           refine⟨⟨by have:=hH.1;omega,by omega,by omega⟩,k + 1,hx ++ [.dead,.arr (w.length + 1) 1 (ics w)],_,⟨by omega,by rw [hst];exact hHs,hFs,by rw [hst];simp only [List.length_append,List.length_cons,List.length_nil];omega⟩,by omega,by simp,⟨by rw [hst];simp,by simp⟩,asI_cl2 _ _,⟨by rw [hst],fun a _=>⟨rfl,rfl⟩⟩,⟨⟨by rw [hst];simp,rfl⟩,hHs.cl (by simp;omega)⟩,?_⟩
           have:=hFs.WeakH (l:=[O.arr 1 1 [[V.own (hx.length + 7) (w.length + 1) 0 w.length]]]) ((hx ++ [O.dead,O.arr (w.length + 1) 1 (ics w)]).length + 1 + 1 + 1 + 1 + 1 + 1)
           rwa [List.append_assoc] at this
          ·rw [if_neg hvd] at q3 f2
           have htl:=todo_lt q1 hvd
           obtain⟨i4,hi4⟩:=hfx v q1
           have f4:findE [1] (V.i .i64 v) ((fromK l l.length).map (asG (V.i .i64) (V.i .i64))) = _:=findE_G key_i64 (V.i .i64) v (fromK l l.length)
           rw [hi4,Option.map_some] at f4
           have hnv:=hnm v q1
           rw [List.mem_map] at hnv
           have htw:List.take w.length (ics w) = ics w:=List.take_of_length_le (by simp [ics])
           have hdw2:done ++ (w ++ [v]) = done ++ w ++ [v]:=(List.append_assoc _ _ _).symm
           have hics:ics (w ++ [v]) = ics w ++ [[.i .i64 v]]:=by simp [ics]
           have hwl:(w ++ [v]).length = w.length + 1:=by simp
           have hwi:w.length ≤ (ics w).length:=by simp [ics]
           generalize hdw:done ++ w = dw at *
           simp (disch:=omega) [go_sem,psV,f2,f4,wrap64_small,app_get_r,app_get_0,htw,hwi]
           refine⟨⟨by omega,by omega⟩,fu,w ++ [v],nxt l v,⟨hnv,by rw [hdw2];omega,q3,by simp;omega⟩,by omega,⟨hwl.symm,rfl⟩,asI_cl2 _ _,⟨?_,?_⟩,hH.cl (by omega),?_⟩
           ·rw [← hdw];simp [kt]
           ·rintro a b (⟨_,_,h⟩ | ⟨_,_,h⟩) <;> (simp only [kt,Prod.mk.injEq] at h;obtain⟨rfl,rfl⟩:=h;exact⟨rfl,rfl⟩)
           ·rw [hics,hwl]
            exact WeakH_app (fun o ho=>hF o ho _) ⟨.inl rfl,.inr ⟨rfl,by rw [← hics];exact ics_cl _ _⟩,trivial⟩
   ·have hlt:k < l.length:=by omega
    have hp:l[k]? = some l[k]:=List.getElem?_eq_getElem hlt
    have hmem:l[k] ∈ l:=List.getElem_mem _
    have hfs:=fromK_succ hp
    generalize l[k] = e at hp hmem hfs
    obtain⟨_,hp'⟩:=List.getElem?_eq_some_iff.1 hp
    have hoe:okAt m l k = (decide (m.use e = 1) && (decide (m.use e.rev = 0) && !(decide (0 < k) && decide (((l[k - 1]?).getD ⟨0,0⟩).x = e.x)))):=by unfold okAt;rw [hp]
    have hfalse:okAt m l k = false→m.simple l = false:=simple_false hlt
    have hnext:okAt m l k = true→∀ i,i < k + 1→okAt m l i = true:=fun h i hi=>by
     by_cases hik:i = k
     ·subst hik;exact h
     ·exact hok i (by omega)
    obtain⟨i1,hi1⟩:=hfu e hmem
    have f1:findE [1,1] (V.a [V.i .i64 e.x,V.i .i64 e.y]) (T.map asV) = _:=findE_asV e T
    rw [hi1] at f1
    simp only [Option.map_some] at f1
    have f2:findE [1,1] (V.a [V.i .i64 e.y,V.i .i64 e.x]) (T.map asV) = _:=findE_asV e.rev T
    have hv2:=hvu e.rev
    unfold val at hv2
    have f3:findE [1] (V.i .i64 e.y) ((fromK l k).map (asG (V.i .i64) (V.i .i64))) = _:=findE_G key_i64 (V.i .i64) e.y (fromK l k)
    simp (disch:=omega) [go_sem,psV,hlt,hp,hp',pcs,f1]
    by_cases c1:m.use e = 1
    ·simp (disch:=omega) [go_sem,c1]
     refine DCall_is (hr e) ?_
     simp only [P2.enc,P2.rev,pcs]
     cases hfn:fnd e.rev T with
     | none =>
       rw [hfn] at f2 hv2
       simp only [Option.map_none] at f2
       simp only at hv2
       have c2:m.use e.rev = 0:=hv2.symm
       cases k with
       | zero =>
         have hT2:okAt m l 0 = true:=by rw [hoe];simp [c1,c2]
         cases hfg:fndG e.y (fromK l 0) with
         | none =>
           rw [hfg,Option.map_none] at f3
           simp (disch:=omega) [go_sem,psV,f2,wrap64_small,f3,c2]
           refine⟨1,⟨by omega,hnext hT2⟩,by omega,by simp,asV_cl _ _,?_,?_⟩
           ·rw [hfs,putG,hfg];simp [asG]
           ·exact asI_cl2 _ _
         | some p =>
           obtain⟨q,n3⟩:=p
           rw [hfg,Option.map_some] at f3
           simp (disch:=omega) [go_sem,psV,f2,wrap64_small,f3,c2]
           refine⟨1,⟨by omega,hnext hT2⟩,by omega,by simp,asV_cl _ _,?_,?_⟩
           ·rw [hfs,putG,hfg];simp [asG,List.map_set]
           ·exact asI_cl2 _ _
       | succ j =>
         have hq:l[j]? = some l[j]:=List.getElem?_eq_getElem (by omega)
         rw [Nat.add_sub_cancel,hq] at hoe
         simp only [Option.getD_some] at hoe
         generalize l[j] = d at hq hoe
         obtain⟨_,hq'⟩:=List.getElem?_eq_some_iff.1 hq
         by_cases c3:d.x = e.x
         ·have hF:okAt m l (j + 1) = false:=by rw [hoe];simp [c1,c2,c3]
          simp (disch:=omega) [go_sem,c2,c3,f2,psV,wrap64_small,hq,hq',pcs,show j < l.length by omega,hfalse hF,topo_Loops.r,DoneF_r,show (0:Int) < (j:Int) + 1 by omega]
         ·have hT2:okAt m l (j + 1) = true:=by rw [hoe];simp [c1,c2,c3]
          cases hfg:fndG e.y (fromK l (j + 1)) with
          | none =>
            rw [hfg,Option.map_none] at f3
            simp (disch:=omega) [go_sem,psV,f2,wrap64_small,f3,c2,c3,hq,hq',pcs,show j < l.length by omega,show (0:Int) < (j:Int) + 1 by omega]
            refine⟨j + 1 + 1,⟨by omega,hnext hT2⟩,by omega,by simp,asV_cl _ _,?_,?_⟩
            ·rw [hfs,putG,hfg];simp [asG]
            ·exact asI_cl2 _ _
          | some p =>
            obtain⟨q,n3⟩:=p
            rw [hfg,Option.map_some] at f3
            simp (disch:=omega) [go_sem,psV,f2,wrap64_small,f3,c2,c3,hq,hq',pcs,show j < l.length by omega,show (0:Int) < (j:Int) + 1 by omega]
            refine⟨j + 1 + 1,⟨by omega,hnext hT2⟩,by omega,by simp,asV_cl _ _,?_,?_⟩
            ·rw [hfs,putG,hfg];simp [asG,List.map_set]
            ·exact asI_cl2 _ _
     | some p =>
       obtain⟨jj,n2⟩:=p
       rw [hfn] at f2 hv2
       simp only [Option.map_some] at f2
       simp only at hv2
       by_cases c2:n2 = 0
       ·subst c2
        have c2:m.use e.rev = 0:=hv2.symm
        cases k with
        | zero =>
          have hT2:okAt m l 0 = true:=by rw [hoe];simp [c1,c2]
          cases hfg:fndG e.y (fromK l 0) with
          | none =>
            rw [hfg,Option.map_none] at f3
            simp (disch:=omega) [go_sem,psV,f2,wrap64_small,f3,c2]
            refine⟨1,⟨by omega,hnext hT2⟩,by omega,by simp,asV_cl _ _,?_,?_⟩
            ·rw [hfs,putG,hfg];simp [asG]
            ·exact asI_cl2 _ _
          | some p =>
            obtain⟨q,n3⟩:=p
            rw [hfg,Option.map_some] at f3
            simp (disch:=omega) [go_sem,psV,f2,wrap64_small,f3,c2]
            refine⟨1,⟨by omega,hnext hT2⟩,by omega,by simp,asV_cl _ _,?_,?_⟩
            ·rw [hfs,putG,hfg];simp [asG,List.map_set]
            ·exact asI_cl2 _ _
        | succ j =>
          have hq:l[j]? = some l[j]:=List.getElem?_eq_getElem (by omega)
          rw [Nat.add_sub_cancel,hq] at hoe
          simp only [Option.getD_some] at hoe
          generalize l[j] = d at hq hoe
          obtain⟨_,hq'⟩:=List.getElem?_eq_some_iff.1 hq
          by_cases c3:d.x = e.x
          ·have hF:okAt m l (j + 1) = false:=by rw [hoe];simp [c1,c2,c3]
           simp (disch:=omega) [go_sem,c2,c3,f2,psV,wrap64_small,hq,hq',pcs,show j < l.length by omega,hfalse hF,topo_Loops.r,DoneF_r,show (0:Int) < (j:Int) + 1 by omega]
          ·have hT2:okAt m l (j + 1) = true:=by rw [hoe];simp [c1,c2,c3]
           cases hfg:fndG e.y (fromK l (j + 1)) with
           | none =>
             rw [hfg,Option.map_none] at f3
             simp (disch:=omega) [go_sem,psV,f2,wrap64_small,f3,c2,c3,hq,hq',pcs,show j < l.length by omega,show (0:Int) < (j:Int) + 1 by omega]
             refine⟨j + 1 + 1,⟨by omega,hnext hT2⟩,by omega,by simp,asV_cl _ _,?_,?_⟩
             ·rw [hfs,putG,hfg];simp [asG]
             ·exact asI_cl2 _ _
           | some p =>
             obtain⟨q,n3⟩:=p
             rw [hfg,Option.map_some] at f3
             simp (disch:=omega) [go_sem,psV,f2,wrap64_small,f3,c2,c3,hq,hq',pcs,show j < l.length by omega,show (0:Int) < (j:Int) + 1 by omega]
             refine⟨j + 1 + 1,⟨by omega,hnext hT2⟩,by omega,by simp,asV_cl _ _,?_,?_⟩
             ·rw [hfs,putG,hfg];simp [asG,List.map_set]
             ·exact asI_cl2 _ _
       ·have hF:okAt m l k = false:=by rw [hoe];simp [c1,← hv2,c2]
        have c2':(n2 != 0) = true:=by simpa using c2
        simp (disch:=omega) [go_sem,c2,c2',f2,hfalse hF,topo_Loops.r,DoneF_r]
    ·have hF:okAt m l k = false:=by rw [hoe];simp [c1]
     have c1':(m.use e != 1) = true:=by simpa using c1
     simp (disch:=omega) [go_sem,c1,c1',hfalse hF,topo_Loops.r,DoneF_r]
     done
 cases hsi:m.simple m.border
 ·have he:m.loops = ([],13):=by simp [Mesh.loops,hz,hsi]
  rw [he]
  rw [hsi] at hmain
  exact CallIs.res (PureC.is hmain rfl) (lsV_no _)
 ·have he:m.loops = (loopsOf m.border,0):=by simp [Mesh.loops,hz,hsi]
  rw [he]
  rw [hsi] at hmain
  exact PureC.is hmain rfl
end
end Go.Abs
set_option linter.unusedVariables false
set_option linter.unusedSimpArgs false
namespace Go.Abs
def Cyc (nx:Int→Int) (w:List Int):Prop:=w ≠ []∧∀ (i:Nat) (v u:Int),w[i]? = some v→w[(i + 1) % w.length]? = some u→nx v = u
structure Perm1 (nx:Int→Int) (A:List Int):Prop where
 mem:∀ v ∈ A,nx v ∈ A
 inj:∀ v ∈ A,∀ u ∈ A,nx v = nx u→v = u
def PathTo (nx:Int→Int) (v0:Int) (w:List Int) (v:Int):Prop :=
 (w = []∧v = v0) ∨ (w[0]? = some v0∧(∀ (i:Nat) (a b:Int),w[i]? = some a→w[i + 1]? = some b→nx a = b)∧∃ z,w[w.length - 1]? = some z∧nx z = v)
theorem PathTo.snoc {nx:Int→Int} {v0 v:Int} {w:List Int} (h:PathTo nx v0 w v):PathTo nx v0 (w ++ [v]) (nx v):=by
 right
 rcases h with⟨rfl,rfl⟩ | ⟨h1,h2,z,h3,h4⟩
 ·refine⟨rfl,fun i a b ha hb=>?_,v,rfl,rfl⟩
  simp at hb
 ·have hne:0 < w.length:=(List.getElem?_eq_some_iff.1 h1).1
  refine⟨by rw [List.getElem?_append_left hne];exact h1,fun i a b ha hb=>?_,v,by simp,rfl⟩
  by_cases hi:i + 1 < w.length
  ·rw [List.getElem?_append_left (by omega)] at ha
   rw [List.getElem?_append_left hi] at hb
   exact h2 i a b ha hb
  ·have hlt:=(List.getElem?_eq_some_iff.1 hb).1
   simp at hlt
   have hi2:i = w.length - 1:=by omega
   rw [List.getElem?_append_left (by omega),hi2,h3] at ha
   rw [List.getElem?_append_right (by omega),show i + 1 - w.length = 0 by omega] at hb
   simp at ha hb
   subst ha;subst hb;exact h4
structure Walk (nx:Int→Int) (A done w:List Int):Prop where
 cyc:Cyc nx w
 nodup:(done ++ w).Nodup
 sub:∀ v ∈ w,v ∈ A
 clo:∀ v ∈ A,(v ∈ done ++ w ↔ nx v ∈ done ++ w)
theorem nodup_idx {l:List Int} (hn:l.Nodup) {i j:Nat} {a:Int} (hi:l[i]? = some a) (hj:l[j]? = some a):i = j:=by
 obtain⟨h1,h2⟩:=List.getElem?_eq_some_iff.1 hi
 obtain⟨h3,h4⟩:=List.getElem?_eq_some_iff.1 hj
 have e1:=hn.idxOf_getElem i h1
 have e2:=hn.idxOf_getElem j h3
 rw [h2] at e1;rw [h4] at e2
 omega
theorem walkW_ok {nx:Int→Int} {A done:List Int} (hP:Perm1 nx A) (hclo:∀ v ∈ A,(v ∈ done ↔ nx v ∈ done)) {v0:Int} (h0:v0 ∉ done) :
  ∀ (fu:Nat) (w:List Int) (v:Int),v ∈ A→PathTo nx v0 w v→(done ++ w).Nodup→(∀ u ∈ w,u ∈ A)→todo A (done ++ w) < fu→Walk nx A done (walkW nx done fu w v)
 | 0,w,v,_,_,_,_,h=>by omega
 | fu + 1,w,v,hv,hp,hn,hs,ht=>by
   unfold walkW
   by_cases hvd:v ∈ done ++ w
   ·rw [if_pos hvd]
    rcases hp with⟨rfl,rfl⟩ | ⟨h1,h2,z,h3,h4⟩
    ·rw [List.append_nil] at hvd;exact absurd hvd h0
    have hnd:=List.nodup_append.1 hn
    have hwn:w.Nodup:=hnd.2.1
    have hz:z ∈ w:=List.mem_of_getElem? h3
    have hzA:=hs z hz
    have hzd:z ∉ done:=fun h=>hnd.2.2 z h z hz rfl
    have hvn:v ∉ done:=fun h=>hzd ((hclo z hzA).2 (by rw [h4];exact h))
    have hvw:v ∈ w:=by
     rcases List.mem_append.1 hvd with h | h
     ·exact absurd h hvn
     ·exact h
    have hv0:v = v0:=by
     obtain⟨j,hj⟩:=List.getElem?_of_mem hvw
     have hjl:=(List.getElem?_eq_some_iff.1 hj).1
     cases j with
     | zero=>rw [h1] at hj;exact (Option.some.inj hj).symm
     | succ j =>
       have hq:w[j]? = some w[j]:=List.getElem?_eq_getElem (by omega)
       have:=h2 j _ _ hq hj
       have he:=hP.inj w[j] (hs w[j] (List.getElem_mem (by omega))) z hzA (by rw [this,h4])
       rw [he] at hq
       have:=nodup_idx hwn hq h3
       omega
    have hne:0 < w.length:=(List.getElem?_eq_some_iff.1 h1).1
    have hcyc:Cyc nx w:=by
     refine⟨by rintro rfl;simp at hne,fun i a b ha hb=>?_⟩
     have hi:=(List.getElem?_eq_some_iff.1 ha).1
     by_cases hl:i + 1 < w.length
     ·rw [Nat.mod_eq_of_lt hl] at hb
      exact h2 i a b ha hb
     ·have hi2:i = w.length - 1:=by omega
      rw [show i + 1 = w.length by omega,Nat.mod_self,h1] at hb
      rw [hi2,h3] at ha
      obtain rfl:=Option.some.inj ha
      obtain rfl:=Option.some.inj hb
      rw [h4,hv0]
    refine⟨hcyc,hn,hs,fun u hu=>?_⟩
    rw [List.mem_append,List.mem_append]
    constructor
    ·rintro (h | h)
     ·exact .inl ((hclo u hu).1 h)
     ·right
      obtain⟨i,hi⟩:=List.getElem?_of_mem h
      have hil:=(List.getElem?_eq_some_iff.1 hi).1
      have hm:(i + 1) % w.length < w.length:=Nat.mod_lt _ hne
      rw [hcyc.2 i u _ hi (List.getElem?_eq_getElem hm)]
      exact List.getElem_mem _
    ·rintro (h | h)
     ·exact .inl ((hclo u hu).2 h)
     ·right
      obtain⟨j,hj⟩:=List.getElem?_of_mem h
      cases j with
      | zero =>
        rw [h1] at hj
        have:nx u = nx z:=by rw [h4,hv0];exact (Option.some.inj hj).symm
        rw [hP.inj u hu z hzA this];exact hz
      | succ j =>
        have hjl:=(List.getElem?_eq_some_iff.1 hj).1
        have hq:w[j]? = some w[j]:=List.getElem?_eq_getElem (by omega)
        have:=h2 j _ _ hq hj
        rw [hP.inj u hu w[j] (hs w[j] (List.getElem_mem (by omega))) this.symm]
        exact List.getElem_mem _
   ·rw [if_neg hvd]
    refine walkW_ok hP hclo h0 fu (w ++ [v]) (nx v) (hP.mem v hv) hp.snoc ?_ (fun u hu=>?_) ?_
    ·rw [← List.append_assoc,List.nodup_append]
     exact⟨hn,by simp,fun a ha b hb=>by simp at hb;subst hb;rintro rfl;exact hvd ha⟩
    ·rcases List.mem_append.1 hu with h | h
     ·exact hs u h
     ·simp at h;subst h;exact hv
    ·rw [← List.append_assoc]
     have:=todo_lt hv hvd
     omega
structure LoopsOk (nx:Int→Int) (A:List Int) (s:List Int × List (List Int)):Prop where
 flat:s.2.flatten = s.1
 nodup:s.1.Nodup
 sub:∀ v ∈ s.1,v ∈ A
 clo:∀ v ∈ A,(v ∈ s.1 ↔ nx v ∈ s.1)
 cyc:∀ w ∈ s.2,Cyc nx w
theorem loopStep_ok {nx:Int→Int} {l:List P2} (hP:Perm1 nx (l.map P2.x)) {s:List Int × List (List Int)} (h:LoopsOk nx (l.map P2.x) s) {e:P2} (he:e ∈ l):LoopsOk nx (l.map P2.x) (loopStep nx l.length s e)∧e.x ∈ (loopStep nx l.length s e).1∧∀ v ∈ s.1,v ∈ (loopStep nx l.length s e).1:=by
 unfold loopStep
 by_cases hd:e.x ∈ s.1
 ·rw [if_pos hd];exact⟨h,hd,fun v hv=>hv⟩
 ·rw [if_neg hd]
  have hxA:e.x ∈ l.map P2.x:=List.mem_map.2 ⟨e,he,rfl⟩
  have htd:=todo_le (l.map P2.x) s.1
  rw [List.length_map] at htd
  have hw:=walkW_ok hP h.clo hd (l.length + 1) [] e.x hxA (.inl ⟨rfl,rfl⟩) (by rw [List.append_nil];exact h.nodup) (by simp) (by rw [List.append_nil];omega)
  have hx:e.x ∈ walkW nx s.1 (l.length + 1) [] e.x:=by
   have key:∀ (fu:Nat) (w:List Int) (v u:Int),u ∈ w→u ∈ walkW nx s.1 fu w v:=by
    intro fu
    induction fu with
    | zero=>intro w v u hu;exact hu
    | succ fu ih =>
      intro w v u hu
      unfold walkW
      split
      ·exact hu
      ·exact ih _ _ _ (by simp [hu])
   unfold walkW
   rw [List.append_nil,if_neg hd]
   exact key _ _ _ _ (by simp)
  refine⟨⟨by simp [h.flat],hw.nodup,fun v hv=>?_,hw.clo,fun w hw'=>?_⟩,by simp [hx],fun v hv=>by simp [hv]⟩
  ·rcases List.mem_append.1 hv with h1 | h1
   ·exact h.sub v h1
   ·exact hw.sub v h1
  ·rcases List.mem_append.1 hw' with h1 | h1
   ·exact h.cyc w h1
   ·simp at h1;subst h1;exact hw.cyc
theorem loopsK_ok {nx:Int→Int} {l:List P2} (hP:Perm1 nx (l.map P2.x)):∀ k,k ≤ l.length→LoopsOk nx (l.map P2.x) (loopsK nx l k)∧∀ e ∈ l.take k,e.x ∈ (loopsK nx l k).1
 | 0,_=>⟨⟨rfl,by simp [loopsK],by simp [loopsK],by simp [loopsK],by simp [loopsK]⟩,by simp⟩
 | k + 1,hk=>by
   have hp:l[k]? = some l[k]:=List.getElem?_eq_getElem (by omega)
   obtain⟨h1,h2⟩:=loopsK_ok hP k (by omega)
   obtain⟨q1,q2,q3⟩:=loopStep_ok hP h1 (List.getElem_mem (l:=l) (n:=k) (by omega))
   rw [loopsK_succ nx hp]
   refine⟨q1,fun e he=>?_⟩
   rw [take_succ_get hp] at he
   rcases List.mem_append.1 he with h | h
   ·exact q3 _ (h2 e h)
   ·simp at h;subst h;exact q2
theorem nxt_perm {m:Mesh} (hz:m.check = 0) (h:m.simple m.border = true):Perm1 (nxt m.border) (m.border.map P2.x) where
 mem v hv:=nxt_mem hz h hv
 inj v hv u hu he:=by
  rw [border_xy hz h] at hv hu
  obtain⟨a,ha,rfl⟩:=List.mem_map.1 hv
  obtain⟨b,hb,rfl⟩:=List.mem_map.1 hu
  have hy:=border_ynd hz h
  rw [nxt_of hy ha,nxt_of hy hb] at he
  have hx:=simple_xnd h (border_asc m)
  obtain⟨i,hi,rfl⟩:=List.mem_iff_getElem.1 ha
  obtain⟨j,hj,rfl⟩:=List.mem_iff_getElem.1 hb
  have e1:=hx.idxOf_getElem i (by simpa using hi)
  have e2:=hx.idxOf_getElem j (by simpa using hj)
  simp only [List.getElem_map] at e1 e2
  rw [he] at e1
  have:i = j:=by omega
  subst this;rfl
structure LoopsAre (m:Mesh) (ls:List (List Int)):Prop where
 cyc:∀ w ∈ ls,Cyc (nxt m.border) w
 nodup:ls.flatten.Nodup
 mem:∀ v,v ∈ ls.flatten ↔ v ∈ m.border.map P2.x
theorem loops_are {m:Mesh} (hz:m.check = 0) (h:m.simple m.border = true):LoopsAre m (loopsOf m.border):=by
 obtain⟨h1,h2⟩:=loopsK_ok (nxt_perm hz h) m.border.length (Nat.le_refl _)
 rw [List.take_length] at h2
 refine⟨h1.cyc,by unfold loopsOf;rw [h1.flat];exact h1.nodup,fun v=>?_⟩
 unfold loopsOf
 rw [h1.flat]
 constructor
 ·exact h1.sub v
 ·intro hv
  obtain⟨e,he,rfl⟩:=List.mem_map.1 hv
  exact h2 e he
end Go.Abs
set_option linter.unusedVariables false
set_option linter.unusedSimpArgs false
namespace Go.Abs
theorem edgesL_len {m:Mesh}:m.edgesL.length ≤ 12288:=by
 by_cases hz:m.check = 0
 ·have hn:m.edgesL.Nodup:=by
   unfold Mesh.edgesL;rw [if_pos hz]
   exact (ascOf_asc _).imp fun h1 h2=>by subst h2;exact P2.lt_irrefl _ h1
  have h1:=nodupP_len (k:=(alluses m.tris).map P2.und) hn (fun a ha=>by unfold Mesh.edgesL at ha;rw [if_pos hz] at ha;exact mem_ascOf.1 ha)
  have hE:=alluses_len m.tris m.tris.length
  rw [List.take_length] at hE
  rw [List.length_map] at h1
  have:=(Mesh.check_zero.1 hz).2.1
  omega
 ·simp [Mesh.edgesL,hz]
end Go.Abs
set_option linter.unusedVariables false
set_option linter.unusedSimpArgs false
namespace Go.Abs
def adjT (s t:T3):Prop:=∃ a ∈ edgesOf s,∃ b ∈ edgesOf t,a.und = b.und
def adjI (ts:List T3) (i j:Nat):Prop:=∃ s t,ts[i]? = some s∧ts[j]? = some t∧adjT s t
theorem adjI.symm {ts:List T3} {i j:Nat} (h:adjI ts i j):adjI ts j i:=by
 obtain⟨s,t,h1,h2,a,ha,b,hb,h3⟩:=h
 exact⟨t,s,h2,h1,b,hb,a,ha,h3.symm⟩
inductive Conn (ts:List T3):Nat→Nat→Prop where
 | refl {i:Nat}:i < ts.length→Conn ts i i
 | tail {i j k:Nat}:Conn ts i j→adjI ts j k→Conn ts i k
theorem adjI.lt {ts:List T3} {i j:Nat} (h:adjI ts i j):i < ts.length∧j < ts.length:=by
 obtain⟨s,t,h1,h2,_⟩:=h
 exact⟨(List.getElem?_eq_some_iff.1 h1).1,(List.getElem?_eq_some_iff.1 h2).1⟩
theorem Conn.lt {ts:List T3} {i j:Nat} (h:Conn ts i j):i < ts.length∧j < ts.length:=by
 induction h with
 | refl h=>exact⟨h,h⟩
 | tail _ h2 ih=>exact⟨ih.1,h2.lt.2⟩
theorem Conn.head {ts:List T3} {i j k:Nat} (h:adjI ts i j) (h2:Conn ts j k):Conn ts i k:=by
 induction h2 with
 | refl _=>exact .tail (.refl h.lt.1) h
 | tail _ h3 ih=>exact .tail ih h3
theorem Conn.symm {ts:List T3} {i j:Nat} (h:Conn ts i j):Conn ts j i:=by
 induction h with
 | refl h=>exact .refl h
 | tail _ h2 ih=>exact .head h2.symm ih
theorem Conn.trans {ts:List T3} {i j k:Nat} (h:Conn ts i j) (h2:Conn ts j k):Conn ts i k:=by
 induction h2 with
 | refl _=>exact h
 | tail _ h3 ih=>exact .tail ih h3
structure IsLab (ts:List T3) (L:List Int):Prop where
 len:L.length = ts.length
 con:∀ (i:Nat) (v:Int),L[i]? = some v→0 ≤ v∧v ≤ i∧Conn ts i v.toNat
 adj:∀ i j,adjI ts i j→L[i]? = L[j]?
theorem IsLab.conn {ts:List T3} {L:List Int} (h:IsLab ts L) {i j:Nat} (hc:Conn ts i j):L[i]? = L[j]?:=by
 induction hc with
 | refl _=>rfl
 | tail _ h2 ih=>rw [ih];exact h.adj _ _ h2
theorem IsLab.le {ts:List T3} {L K:List Int} (h:IsLab ts L) (k:IsLab ts K) {i:Nat} {v u:Int} (h1:L[i]? = some v) (h2:K[i]? = some u):u ≤ v:=by
 obtain⟨a1,a2,a3⟩:=h.con i v h1
 have h3:=k.conn a3
 rw [h2] at h3
 have:=(k.con v.toNat u h3.symm).2.1
 omega
theorem IsLab.eq {ts:List T3} {L K:List Int} (h:IsLab ts L) (k:IsLab ts K):L = K:=by
 apply List.ext_getElem?
 intro i
 by_cases hi:i < ts.length
 ·have h1:L[i]? = some (L[i]'(by rw [h.len];exact hi)):=List.getElem?_eq_getElem _
  have h2:K[i]? = some (K[i]'(by rw [k.len];exact hi)):=List.getElem?_eq_getElem _
  have a:=h.le k h1 h2
  have b:=k.le h h2 h1
  rw [h1,h2];congr 1;omega
 ·rw [List.getElem?_eq_none (by rw [h.len];omega),List.getElem?_eq_none (by rw [k.len];omega)]
open Classical in
noncomputable def labOf (ts:List T3):List Int:=if h:∃ L,IsLab ts L then Classical.choose h else []
theorem labOf_eq {ts:List T3} {L:List Int} (h:IsLab ts L):labOf ts = L:=by
 unfold labOf
 rw [dif_pos ⟨L,h⟩]
 exact (Classical.choose_spec (⟨L,h⟩:∃ L,IsLab ts L)).eq h
def shK (L:List Int) (i k:Nat):List Int:=((List.range k).filter fun j=>decide (L[j]? = some (i:Int))).map fun (j:Nat)=>(j:Int)
def shsK (L:List Int) (k:Nat):List (List Int):=((List.range k).filter fun (i:Nat)=>decide (L[i]? = some (i:Int))).map fun i=>shK L i L.length
noncomputable def Mesh.shells (m:Mesh):List (List Int):=if m.check = 0 then shsK (labOf m.tris) (labOf m.tris).length else []
def ShellsC (P:Program) (f:FuncId):Prop:=∀ m:Mesh,CallIs P f [m.enc] (lsV m.shells)
theorem shK_succ (L:List Int) (i k:Nat):shK L i (k + 1) = shK L i k ++ if L[k]? = some (i:Int) then [(k:Int)] else []:=by
 unfold shK
 rw [List.range_succ,List.filter_append,List.map_append]
 by_cases h:L[k]? = some (i:Int) <;> simp [h]
theorem shsK_succ (L:List Int) (k:Nat):shsK L (k + 1) = shsK L k ++ if L[k]? = some (k:Int) then [shK L k L.length] else []:=by
 unfold shsK
 rw [List.range_succ,List.filter_append,List.map_append]
 by_cases h:L[k]? = some (k:Int) <;> simp [h]
theorem shK_low {ts:List T3} {L:List Int} (h:IsLab ts L) (i:Nat):shK L i i = []:=by
 unfold shK
 rw [List.map_eq_nil_iff,List.filter_eq_nil_iff]
 intro j hj
 have hj:=List.mem_range.1 hj
 simp only [decide_eq_true_eq]
 intro hh
 have:=(h.con j i hh).2.1
 omega
structure PreLab (ts:List T3) (L:List Int):Prop where
 len:L.length = ts.length
 con:∀ (i:Nat) (v:Int),L[i]? = some v→0 ≤ v∧v ≤ i∧Conn ts i v.toNat
def near (ts:List T3) (i j:Nat):Prop:=j = i ∨ adjI ts i j
structure Spread (ts:List T3) (L K:List Int):Prop where
 len:K.length = ts.length
 att:∀ (i:Nat) (v:Int),K[i]? = some v→∃ j,near ts i j∧L[j]? = some v
 low:∀ (i j:Nat) (v u:Int),K[i]? = some v→near ts i j→L[j]? = some u→v ≤ u
theorem PreLab.spread {ts:List T3} {L K:List Int} (h:PreLab ts L) (s:Spread ts L K):PreLab ts K where
 len:=s.len
 con i v hv:=by
  obtain⟨j,hj,hjv⟩:=s.att i v hv
  obtain⟨c1,c2,c3⟩:=h.con j v hjv
  have hi:i < L.length:=by rw [h.len,← s.len];exact (List.getElem?_eq_some_iff.1 hv).1
  have hle:=s.low i i v L[i] hv (.inl rfl) (List.getElem?_eq_getElem hi)
  have hci:=(h.con i L[i] (List.getElem?_eq_getElem hi)).2.1
  refine⟨c1,by omega,?_⟩
  rcases hj with rfl | hj
  ·exact c3
  ·exact .head hj c3
theorem Spread.fix {ts:List T3} {L:List Int} (h:PreLab ts L) (s:Spread ts L L):IsLab ts L where
 len:=h.len
 con:=h.con
 adj i j hij:=by
  have h1:L[i]? = some (L[i]'(by rw [h.len];exact hij.lt.1)):=List.getElem?_eq_getElem _
  have h2:L[j]? = some (L[j]'(by rw [h.len];exact hij.lt.2)):=List.getElem?_eq_getElem _
  have a:=s.low i j _ _ h1 (.inr hij) h2
  have b:=s.low j i _ _ h2 (.inr hij.symm) h1
  rw [h1,h2];congr 1;omega
def sumN (L:List Int):Nat:=(L.map Int.toNat).sum
theorem sumN_lt:∀ {L K:List Int},K.length = L.length→(∀ (i:Nat) (v u:Int),K[i]? = some v→L[i]? = some u→v ≤ u∧0 ≤ v)→K ≠ L→sumN K < sumN L
 | [],[],_,_,h=>absurd rfl h
 | [],_ :: _,h,_,_=>by simp at h
 | _ :: _,[],h,_,_=>by simp at h
 | l :: L,k :: K,hl,hle,hne=>by
   have h0:=hle 0 k l rfl rfl
   have ht:∀ (i:Nat) (v u:Int),K[i]? = some v→L[i]? = some u→v ≤ u∧0 ≤ v:=fun i v u h1 h2=>hle (i + 1) v u (by simpa using h1) (by simpa using h2)
   simp only [List.length_cons,Nat.add_right_cancel_iff] at hl
   simp only [sumN,List.map_cons,List.sum_cons]
   by_cases hkl:K = L
   ·subst hkl
    have:k ≠ l:=fun h=>hne (by rw [h])
    omega
   ·have:=sumN_lt hl ht hkl
    unfold sumN at this
    omega
theorem Spread.sum {ts:List T3} {L K:List Int} (h:PreLab ts L) (s:Spread ts L K) (hne:K ≠ L):sumN K < sumN L :=
 sumN_lt (by rw [s.len,h.len]) (fun i v u h1 h2=>⟨s.low i i v u h1 (.inl rfl) h2,((h.spread s).con i v h1).1⟩) hne
theorem pre_id (ts:List T3):PreLab ts ((List.range ts.length).map fun (j:Nat)=>(j:Int)) where
 len:=by simp
 con i v hv:=by
  rw [List.getElem?_map,Option.map_eq_some_iff] at hv
  obtain⟨j,hj,rfl⟩:=hv
  obtain⟨h1,h2⟩:=List.getElem?_eq_some_iff.1 hj
  simp at h1 h2
  subst h2
  exact⟨by omega,by omega,by rw [Int.toNat_natCast];exact .refl h1⟩
end Go.Abs
