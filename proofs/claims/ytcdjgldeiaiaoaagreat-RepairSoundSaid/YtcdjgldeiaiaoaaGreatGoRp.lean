/- Part of the library on which the proof stands: an abstract machine, its values and its soundness against the model; or what functions of the program do to such values. -/
import Derived.Test.YtcdjgldeiaiaoaaGreatGoWeB
import Derived.Test.YtcdjgldeiaiaoaaGreatGoTr
import Derived.Test.YtcdjgldeiaiaoaaGreatGoTo
import Derived.Test.YtcdjgldeiaiaoaaGreatGoToB
import Derived.Test.YtcdjgldeiaiaoaaGreatGoDet
import Derived.Test.YtcdjgldeiaiaoaaGreatGoSecE
set_option linter.unusedVariables false
set_option linter.unusedSimpArgs false
namespace Go.Abs
open Go.Sort
def dd (l:List V3):List V3:=l.foldl (fun acc v=>if v ∈ acc then acc else acc ++ [v]) []
theorem dd_snoc (l:List V3) (v:V3):dd (l ++ [v]) = if v ∈ dd l then dd l else dd l ++ [v]:=by unfold dd;rw [List.foldl_append];rfl
theorem dd_ok (l:List V3):(dd l).Nodup∧(∀ v,v ∈ dd l ↔ v ∈ l)∧(dd l).length ≤ l.length:=by
 refine rev_ind (p:=fun l=>(dd l).Nodup∧(∀ v,v ∈ dd l ↔ v ∈ l)∧(dd l).length ≤ l.length) ?_ ?_ l
 ·simp [dd]
 ·intro E x ih
  rw [dd_snoc]
  split
  ·rename_i h
   refine⟨ih.1,fun v=>?_,by simp;omega⟩
   rw [ih.2.1,List.mem_append,List.mem_singleton]
   constructor
   ·exact .inl
   ·rintro (h1 | rfl)
    ·exact h1
    ·exact (ih.2.1 v).1 h
  ·rename_i h
   refine⟨?_,fun v=>by rw [List.mem_append,ih.2.1,List.mem_append],by simp;omega⟩
   rw [List.nodup_append]
   exact⟨ih.1,by simp,fun a ha b hb=>by simp at hb;subst hb;rintro rfl;exact h ha⟩
def UsedC (P:Program) (f:FuncId):Prop:=∀ m:Mesh,m.check = 0→CallIs P f [m.enc] (vsV m.wverts)
theorem usedL_succ {m:Mesh} {l:List T3} {k:Nat} {t:T3} (h:l[k]? = some t):m.usedL (l.take (k + 1)) = m.usedL (l.take k) ++ m.cor t:=by simp [Mesh.usedL,List.take_add_one,h]
theorem usedL_len (m:Mesh) (l:List T3):(m.usedL l).length = 3 * l.length:=by
 unfold Mesh.usedL
 induction l with
 | nil=>rfl
 | cons t l ih=>simp only [List.flatMap_cons,List.length_append,ih,List.length_cons];simp [Mesh.cor];omega
def weldR (m:Mesh):Mesh × Int × Int:=if m.check = 0 then (m.weldM,(m.verts.length:Int) - m.wverts.length,0) else (noMesh,0,m.check)
def weldV (r:Mesh × Int × Int):V:=.t [r.1.enc,.i .i64 r.2.1,.i .i64 r.2.2]
theorem weldV_no (n e:Int):Le (.t [.a [.nil,.nil],.i .i64 n,.i .i64 e]) (weldV (noMesh,n,e)) :=
 .inr ⟨_,_,rfl,rfl,.inr ⟨_,_,rfl,rfl,Le0.nil 3,Le0.nil 3,trivial⟩,Le1.refl _,Le1.refl _,trivial⟩
def wlK (W:List V3) (k:Nat):List (V3 × Int):=(List.range k).map fun (i:Nat)=>((W[i]?).getD ⟨0,0,0⟩,(i:Int))
theorem wlK_succ (W:List V3) (k:Nat):wlK W (k + 1) = wlK W k ++ [((W[k]?).getD ⟨0,0,0⟩,(k:Int))]:=by simp [wlK,List.range_succ]
theorem wlK_get {W:List V3} {k i:Nat} (h:i < k):(wlK W k)[i]? = some ((W[i]?).getD ⟨0,0,0⟩,(i:Int)):=by simp [wlK,h]
theorem wlK_keys {W:List V3} {k:Nat} (h:k ≤ W.length):(wlK W k).map Prod.fst = W.take k:=by
 apply List.ext_getElem?
 intro i
 rw [List.getElem?_map,List.getElem?_take]
 by_cases hi:i < k
 ·rw [wlK_get hi,if_pos hi,List.getElem?_eq_getElem (show i < W.length by omega)];rfl
 ·rw [if_neg hi,List.getElem?_eq_none (by simp [wlK];omega)];rfl
theorem wlK_cl (W:List V3) (k n:Nat):∀ (a b:V) (x:V3) (y:Int),(x,y) ∈ wlK W k→asG V3.enc (V.i .i64) (x,y) = (a,b)→a.cl n = true∧b.cl n = true:=by
 rintro a b x y _ h
 simp only [asG,Prod.mk.injEq] at h
 obtain⟨rfl,rfl⟩:=h
 exact⟨v3enc_cl x n,rfl⟩
def WeldC (P:Program) (f:FuncId):Prop:=∀ m:Mesh,CallIs P f [m.enc] (weldV (weldR m))
def jth (t:T3) (j:Nat):Int:=if j = 0 then t.a else if j = 1 then t.b else t.c
theorem cor_take_succ (m:Mesh) (t:T3) {j:Nat} (h:j < 3):(m.cor t).take (j + 1) = (m.cor t).take j ++ [m.v (jth t j)]:=by
 have:j = 0 ∨ j = 1 ∨ j = 2:=by omega
 rcases this with rfl | rfl | rfl <;> rfl
theorem mv_get {m:Mesh} {i:Int} (h0:0 ≤ i) (hi:i < m.verts.length):m.verts[i.toNat]? = some (m.v i):=by
 have hlt:i.toNat < m.verts.length:=by omega
 rw [List.getElem?_eq_getElem hlt,m.v_get hi hlt]
section
variable {P:Program} (hm:P.follows .mixedOrders = true)
include hm
set_option maxHeartbeats 4000000 in
theorem weld_used_ok {f fs fo:FuncId} (hf:FnOk P f (weld_used.c fs fo) weld_used.r weld_used.n) (hs:SortC P fs 3) (ho:CmpVC P fo) (hcal:callable P fo = true):UsedC P f:=by
 intro m hz
 obtain⟨z1,z2,z3,z4⟩:=Mesh.check_zero.1 hz
 refine PureC.is (pure_of hm hf (Nat.le_of_ble_eq_true rfl) ?_) rfl
 unfold weld_used.c
 simp [go_sem,Mesh.enc,Mesh.cs,tsV]
 refine AS_loopG [.t 4 3] (α:=Nat) (fun k=>k ≤ m.tris.length)
  (fun k=>⟨[(1,.p 0 1 0 0),(3,.mp 1),(4,.own 2 ((dd (m.usedL (m.tris.take k))).length + 1) 0 (dd (m.usedL (m.tris.take k))).length),(12,tsV m.tris),(13,.i .i64 m.tris.length),(14,.i .i64 k)],
   [.arr 1 2 [m.cs],.mp ((dd (m.usedL (m.tris.take k))).map (kt V3.enc)),.arr ((dd (m.usedL (m.tris.take k))).length + 1) 3 ((dd (m.usedL (m.tris.take k))).map V3.cs)]⟩)
  (fun k=>m.tris.length - k) 0 (Nat.zero_le _) ?_ ?_
 ·simp [go_sem,Mesh.cs,vsV,tsV,Mesh.usedL,dd]
 ·intro k hk
  by_cases hkl:k = m.tris.length
  ·subst hkl
   rw [List.take_length]
   obtain⟨u1,u2,u3⟩:=dd_ok (m.usedL m.tris)
   rw [usedL_len] at u3
   obtain⟨ys,hperm,hup,hcall⟩:=hs V3.ints (fun _=>rfl) cmpV swoV fo hcal (fun a b=>ho a b) (dd (m.usedL m.tris)) (by omega)
   have hys:ys = m.wverts:=by
    rw [ascG_of_perm V3.ltO hperm u1 (hup.imp (by intro a b h;rw [ltV] at h;simpa using h))]
    refine ascG_ext V3.ltO (ascG_asc V3.ltO _) (ascG_asc V3.ltO _) fun v=>?_
    rw [mem_ascG,u2]
    exact (mem_ascG (lt:=V3.lt)).symm
   have hl2:m.wverts.length = (dd (m.usedL m.tris)).length:=by rw [← hys];exact hperm.length_eq
   have hy2:ys.map (fun x=>x.ints.map (V.i .i64)) = m.wverts.map V3.cs:=by rw [hys];rfl
   generalize dd (m.usedL m.tris) = U at *
   simp [go_sem,Mesh.cs,tsV]
   refine ACall_to (hcall _ 2 _ rfl) ?_
   rw [hy2]
   have ht:List.take U.length (m.wverts.map V3.cs) = m.wverts.map V3.cs:=List.take_of_length_le (by simp [hl2])
   simp [go_sem,weld_used.r,vsV,vcs_isD,hl2,ht]
  ·have hlt:k < m.tris.length:=by omega
   have hp:m.tris[k]? = some m.tris[k]:=List.getElem?_eq_getElem hlt
   have htm:m.tris[k] ∈ m.tris:=List.getElem_mem _
   generalize m.tris[k] = t at hp htm
   obtain⟨_,hp'⟩:=List.getElem?_eq_some_iff.1 hp
   have htk:=tok hz htm
   have hsucc:=usedL_succ (m:=m) hp
   simp [go_sem,Mesh.cs,tsV,hlt,hp,hp',tcs]
   have hul:=usedL_len m (m.tris.take k)
   have hkl2:(m.tris.take k).length ≤ k:=by simp;omega
   generalize hA:m.usedL (m.tris.take k) = A at *
   refine AS_loop (α:=Nat) (fun j=>j ≤ 3)
    (fun j=>⟨[(1,.p 0 1 0 0),(3,.mp 1),(4,.own 2 ((dd (A ++ (m.cor t).take j)).length + 1) 0 (dd (A ++ (m.cor t).take j)).length),(12,tsV m.tris),(13,.i .i64 m.tris.length),(14,.i .i64 k),(24,t.enc),(25,.i .i64 j)],
     [.arr 1 2 [m.cs],.mp ((dd (A ++ (m.cor t).take j)).map (kt V3.enc)),.arr ((dd (A ++ (m.cor t).take j)).length + 1) 3 ((dd (A ++ (m.cor t).take j)).map V3.cs)]⟩)
    (fun j=>3 - j) 0 (by omega) ?_ ?_
   ·simp [go_sem,Mesh.cs,vsV,tsV,T3.enc,tcs]
    exact fun a _=>⟨v3enc_cl a 3,rfl⟩
   ·intro j hj
    by_cases hj3:j = 3
    ·subst hj3
     have h3:(m.cor t).take 3 = m.cor t:=rfl
     rw [h3,← hsucc]
     simp (disch:=omega) [go_sem,Mesh.cs,tsV,vsV,wrap64_small]
     exact⟨k + 1,by omega,by omega,⟨rfl,rfl⟩,⟨rfl,fun a _=>⟨v3enc_cl a 3,rfl⟩⟩,rfl,rfl⟩
    ·have hj3':j < 3:=by omega
     have hdd:=dd_snoc (A ++ (m.cor t).take j) (m.v (jth t j))
     rw [List.append_assoc,← cor_take_succ m t hj3'] at hdd
     obtain⟨u1,u2,u3⟩:=dd_ok (A ++ (m.cor t).take j)
     have hdl:(A ++ (m.cor t).take j).length ≤ 3 * k + 3:=by simp [Mesh.cor];omega
     generalize dd (A ++ (m.cor t).take j) = U at *
     have hg:=mv_get (m:=m) (i:=jth t j) (by unfold jth;split <;> (try split) <;> omega) (by unfold jth;split <;> (try split) <;> omega)
     have hr:0 ≤ jth t j∧jth t j < m.verts.length:=by unfold jth;split <;> (try split) <;> omega
     generalize hi:jth t j = i at *
     obtain⟨hi0,hi1⟩:=hr
     generalize hv:m.v i = v at *
     have hfe:findE [1,1,1] (V.a [.i .i64 v.x,.i .i64 v.y,.i .i64 v.z]) (U.map (kt V3.enc)) = _:=findE_set key_V3 v U
     obtain⟨hgl,hg'⟩:=List.getElem?_eq_some_iff.1 hg
     have:j = 0 ∨ j = 1 ∨ j = 2:=by omega
     by_cases hmem:v ∈ U
     ·rw [if_pos hmem] at hfe hdd
      rcases this with rfl | rfl | rfl
      ·have hi':t.a = i:=hi
       simp (disch:=omega) [go_sem,Mesh.cs,vsV,tsV,T3.enc,tcs,hfe,hi',hg,hg',hgl,hi0,vcs,wrap64_small]
       have hdd:dd (A ++ List.take 1 (m.cor t)) = U:=hdd
       exact⟨1,by omega,by omega,⟨by rw [hdd],rfl⟩,⟨by rw [hdd],fun a _=>⟨v3enc_cl a 3,rfl⟩⟩,by rw [hdd],by rw [hdd]⟩
      ·have hi':t.b = i:=hi
       simp (disch:=omega) [go_sem,Mesh.cs,vsV,tsV,T3.enc,tcs,hfe,hi',hg,hg',hgl,hi0,vcs,wrap64_small]
       have hdd:dd (A ++ List.take 2 (m.cor t)) = U:=hdd
       exact⟨2,by omega,by omega,⟨by rw [hdd],rfl⟩,⟨by rw [hdd],fun a _=>⟨v3enc_cl a 3,rfl⟩⟩,by rw [hdd],by rw [hdd]⟩
      ·have hi':t.c = i:=hi
       simp (disch:=omega) [go_sem,Mesh.cs,vsV,tsV,T3.enc,tcs,hfe,hi',hg,hg',hgl,hi0,vcs,wrap64_small]
       have hdd:dd (A ++ List.take 3 (m.cor t)) = U:=hdd
       exact⟨3,by omega,by omega,⟨by rw [hdd],rfl⟩,⟨by rw [hdd],fun a _=>⟨v3enc_cl a 3,rfl⟩⟩,by rw [hdd],by rw [hdd]⟩
     ·rw [if_neg hmem] at hfe hdd
      rcases this with rfl | rfl | rfl
      ·have hi':t.a = i:=hi
       simp (disch:=omega) [go_sem,Mesh.cs,vsV,tsV,T3.enc,tcs,hfe,hi',hg,hg',hgl,hi0,vcs,wrap64_small]
       have hdd:dd (A ++ List.take 1 (m.cor t)) = U ++ [v]:=hdd
       exact⟨⟨by omega,by omega⟩,1,by omega,by omega,⟨by rw [hdd];simp,rfl⟩,⟨by rw [hdd,List.map_append];rfl,fun a _=>⟨v3enc_cl a 3,rfl⟩⟩,by rw [hdd];simp,by rw [hdd,List.map_append];rfl⟩
      ·have hi':t.b = i:=hi
       simp (disch:=omega) [go_sem,Mesh.cs,vsV,tsV,T3.enc,tcs,hfe,hi',hg,hg',hgl,hi0,vcs,wrap64_small]
       have hdd:dd (A ++ List.take 2 (m.cor t)) = U ++ [v]:=hdd
       exact⟨⟨by omega,by omega⟩,2,by omega,by omega,⟨by rw [hdd];simp,rfl⟩,⟨by rw [hdd,List.map_append];rfl,fun a _=>⟨v3enc_cl a 3,rfl⟩⟩,by rw [hdd];simp,by rw [hdd,List.map_append];rfl⟩
      ·have hi':t.c = i:=hi
       simp (disch:=omega) [go_sem,Mesh.cs,vsV,tsV,T3.enc,tcs,hfe,hi',hg,hg',hgl,hi0,vcs,wrap64_small]
       have hdd:dd (A ++ List.take 3 (m.cor t)) = U ++ [v]:=hdd
       exact⟨⟨by omega,by omega⟩,3,by omega,by omega,⟨by rw [hdd];simp,rfl⟩,⟨by rw [hdd,List.map_append];rfl,fun a _=>⟨v3enc_cl a 3,rfl⟩⟩,by rw [hdd];simp,by rw [hdd,List.map_append];rfl⟩
omit hm in
theorem wl_get {m:Mesh} {v:V3} (h:v ∈ m.wverts):fndG v (wlK m.wverts m.wverts.length) = some ((idxV m.wverts v).toNat,idxV m.wverts v):=by
 have hr:=idxV_range h
 have hg:=idxV_get h
 have hn:((wlK m.wverts m.wverts.length).map Prod.fst).Nodup:=by
  rw [wlK_keys (Nat.le_refl _),List.take_length]
  exact ascG_nodup V3.ltO (wverts_asc m)
 refine fndG_of_get hn ?_
 rw [wlK_get (by omega),hg,Int.toNat_of_nonneg hr.1];rfl
set_option maxRecDepth 20000 in
set_option maxHeartbeats 4000000 in
theorem weld_Weld_ok {f fc fu:FuncId} (hf:FnOk P f (weld_Weld.c fc fu) weld_Weld.r weld_Weld.n) (hc:CheckC P fc) (hu:UsedC P fu):WeldC P f:=by
 intro m
 by_cases hz:m.check = 0
 case neg =>
  have he:weldR m = (noMesh,0,m.check):=by simp [weldR,hz]
  rw [he]
  refine CallIs.res (r:=.t [.a [.nil,.nil],.i .i64 0,.i .i64 m.check]) ?_ (weldV_no 0 m.check)
  refine PureC.is (pure_of hm hf (Nat.le_of_ble_eq_true rfl) ?_) rfl
  unfold weld_Weld.c
  simp [go_sem,Mesh.enc,Mesh.cs,vsV,tsV]
  refine ACall_is (hc m) ?_
  simp [go_sem,hz,weld_Weld.r]
 have he:weldR m = (m.weldM,(m.verts.length:Int) - m.wverts.length,0):=by simp [weldR,hz]
 rw [he]
 obtain⟨z1,z2,z3,z4⟩:=Mesh.check_zero.1 hz
 have hwl:=wverts_len hz
 refine PureC.is (pure_of hm hf (Nat.le_of_ble_eq_true rfl) ?_) rfl
 unfold weld_Weld.c
 simp [go_sem,Mesh.enc,Mesh.cs,vsV,tsV]
 refine ACall_is (hc m) ?_
 simp [go_sem,hz]
 refine ACall_is (hu m hz) ?_
 simp [go_sem,vsV]
 refine AS_loop (α:=Nat) (fun k=>k ≤ m.wverts.length)
  (fun k=>⟨[(1,.p 0 1 0 0),(2,.p 1 1 0 0),(6,.p 2 1 0 0),(7,.mp 3),(26,vsV m.wverts),(27,.i .i64 m.wverts.length),(28,.i .i64 k)],
   [.arr 1 2 [m.cs],.arr 1 2 [[.nil,.nil]],.arr 1 2 [[vsV m.wverts,.nil]],.mp ((wlK m.wverts k).map (asG V3.enc (V.i .i64)))]⟩)
  (fun k=>m.wverts.length - k) 0 (Nat.zero_le _) ?_ ?_
 ·simp [go_sem,Mesh.cs,vsV,tsV]
  exact⟨rfl,wlK_cl _ _ _⟩
 ·intro k hk
  by_cases hkl:k = m.wverts.length
  ·subst hkl
   simp [go_sem,Mesh.cs,vsV,tsV]
   refine AS_loopG [.c 2 0 1 3] (α:=Nat) (fun k=>k ≤ m.tris.length)
    (fun k=>⟨[(1,.p 0 1 0 0),(2,.p 1 1 0 0),(6,.p 2 1 0 0),(7,.mp 3),(38,tsV m.tris),(39,.i .i64 m.tris.length),(40,.i .i64 k)],
     [.arr 1 2 [m.cs],.arr 1 2 [[.nil,.nil]],.arr 1 2 [[vsV m.wverts,.own 4 (k + 1) 0 k]],.mp ((wlK m.wverts m.wverts.length).map (asG V3.enc (V.i .i64))),.arr (k + 1) 3 (((m.tris.take k).map (wtri m m.wverts)).map T3.cs)]⟩)
    (fun k=>m.tris.length - k) 0 (Nat.zero_le _) ?_ ?_
   ·simp [go_sem,Mesh.cs,vsV,tsV]
    exact wlK_cl _ _ _
   ·intro k hk
    by_cases hkl:k = m.tris.length
    ·subst hkl
     simp (disch:=omega) [go_sem,Mesh.cs,vsV,tsV,wrap64_small,weld_Weld.r]
     simp [weldV,Mesh.weldM,Mesh.enc,Mesh.cs,vsV,tsV]
    ·have hlt:k < m.tris.length:=by omega
     have hp:m.tris[k]? = some m.tris[k]:=List.getElem?_eq_getElem hlt
     have htm:m.tris[k] ∈ m.tris:=List.getElem_mem _
     generalize m.tris[k] = t at hp htm
     obtain⟨_,hp'⟩:=List.getElem?_eq_some_iff.1 hp
     obtain⟨i0,i1,j0,j1,l0,l1⟩:=tok hz htm
     obtain⟨c1,c2,c3⟩:=cor_mem htm
     have g1:=mv_get i0 i1
     have g2:=mv_get j0 j1
     have g3:=mv_get l0 l1
     obtain⟨q1,r1⟩:=List.getElem?_eq_some_iff.1 g1
     obtain⟨q2,r2⟩:=List.getElem?_eq_some_iff.1 g2
     obtain⟨q3,r3⟩:=List.getElem?_eq_some_iff.1 g3
     have f1:findE [1,1,1] (V.a [.i .i64 (m.v t.a).x,.i .i64 (m.v t.a).y,.i .i64 (m.v t.a).z]) ((wlK m.wverts m.wverts.length).map (asG V3.enc (V.i .i64))) = _:=findE_G key_V3 (V.i .i64) (m.v t.a) _
     have f2:findE [1,1,1] (V.a [.i .i64 (m.v t.b).x,.i .i64 (m.v t.b).y,.i .i64 (m.v t.b).z]) ((wlK m.wverts m.wverts.length).map (asG V3.enc (V.i .i64))) = _:=findE_G key_V3 (V.i .i64) (m.v t.b) _
     have f3:findE [1,1,1] (V.a [.i .i64 (m.v t.c).x,.i .i64 (m.v t.c).y,.i .i64 (m.v t.c).z]) ((wlK m.wverts m.wverts.length).map (asG V3.enc (V.i .i64))) = _:=findE_G key_V3 (V.i .i64) (m.v t.c) _
     rw [wl_get c1] at f1
     rw [wl_get c2] at f2
     rw [wl_get c3] at f3
     simp only [Option.map_some] at f1 f2 f3
     have hMc:=wlK_cl m.wverts m.wverts.length 5
     have hwt:wtri m m.wverts t = ⟨idxV m.wverts (m.v t.a),idxV m.wverts (m.v t.b),idxV m.wverts (m.v t.c)⟩:=rfl
     generalize m.v t.a = va at *
     generalize m.v t.b = vb at *
     generalize m.v t.c = vc at *
     have hsu:((m.tris.take (k + 1)).map (wtri m m.wverts)).map T3.cs = ((m.tris.take k).map (wtri m m.wverts)).map T3.cs ++ [(wtri m m.wverts t).cs]:=by rw [List.take_add_one,hp];simp
     have htk:List.take k (((m.tris.take k).map (wtri m m.wverts)).map T3.cs) = ((m.tris.take k).map (wtri m m.wverts)).map T3.cs:=List.take_of_length_le (by simp;omega)
     have hkk:k ≤ (m.tris.take k).length:=by simp;omega
     simp (disch:=omega) [go_sem,Mesh.cs,vsV,tsV,hlt,hp,hp',tcs,vcs,i0,j0,l0,q1,q2,q3,g1,g2,g3,r1,r2,r3,f1,f2,f3,wrap64_small]
     refine⟨⟨by omega,by omega⟩,k + 1,by omega,by omega,rfl,rfl,hMc,⟨rfl,?_⟩,?_⟩
     ·rw [List.take_take,Nat.min_self,List.take_add_one,List.getElem?_map,hp]
      simp [hwt,tcs]
     ·intro el hel x hx
      obtain⟨s,_,rfl⟩:=List.mem_map.1 (List.mem_of_mem_take hel)
      exact of_eq_true (t3c_cl _ 5) x hx
  ·have hlt:k < m.wverts.length:=by omega
   have hp:m.wverts[k]? = some m.wverts[k]:=List.getElem?_eq_getElem hlt
   generalize m.wverts[k] = v at hp
   obtain⟨_,hp'⟩:=List.getElem?_eq_some_iff.1 hp
   have hfe:findE [1,1,1] (V.a [.i .i64 v.x,.i .i64 v.y,.i .i64 v.z]) _ = _:=findE_G key_V3 (V.i .i64) v (wlK m.wverts k)
   have hno:fndG v (wlK m.wverts k) = none:=by
    rw [fndG_none,wlK_keys (by omega)]
    intro hm'
    obtain⟨i,hi⟩:=List.getElem?_of_mem hm'
    rw [List.getElem?_take] at hi
    split at hi
    ·rename_i hik
     have hnd:=ascG_nodup V3.ltO (wverts_asc m)
     have h1:=idxV_of_get hnd hi
     have h2:=idxV_of_get hnd hp
     omega
    ·simp at hi
   rw [hno,Option.map_none] at hfe
   simp (disch:=omega) [go_sem,Mesh.cs,vsV,tsV,hlt,hp,hp',vcs,hfe,wrap64_small]
   have hsu:=wlK_succ m.wverts k
   rw [hp] at hsu
   exact⟨k + 1,by omega,by omega,rfl,by rw [hsu,List.map_append];rfl,wlK_cl _ _ _⟩
end
end Go.Abs
set_option linter.unusedVariables false
set_option linter.unusedSimpArgs false
namespace Go.Abs
def Mesh.degI (m:Mesh) (i:Int):Bool:=if 0 ≤ i∧i < m.tris.length∧m.check = 0 then match m.tris[i.toNat]? with
    | some t=>m.deg t
    | none=>false
 else false
def DegC (P:Program) (f:FuncId):Prop:=∀ (m:Mesh) (i:Int),CallIs P f [m.enc,.i .i64 i] (.b (m.degI i))
def cleanR (m:Mesh):Mesh × Int × Int × Int:=if m.check = 0 then (m.cleanM,((cleanL m.deg m.tris).deg:Nat),((cleanL m.deg m.tris).twin:Nat),0) else (noMesh,0,0,m.check)
def cleanV (r:Mesh × Int × Int × Int):V:=.t [r.1.enc,.i .i64 r.2.1,.i .i64 r.2.2.1,.i .i64 r.2.2.2]
def CleanC (P:Program) (f:FuncId):Prop:=∀ m:Mesh,CallIs P f [m.enc] (cleanV (cleanR m))
theorem cleanV_no (e:Int):Le (.t [.a [.nil,.nil],.i .i64 0,.i .i64 0,.i .i64 e]) (cleanV (noMesh,0,0,e)) :=
 .inr ⟨_,_,rfl,rfl,.inr ⟨_,_,rfl,rfl,Le0.nil 3,Le0.nil 3,trivial⟩,Le1.refl _,Le1.refl _,Le1.refl _,trivial⟩
theorem mem_turned {l:List T3} {t:T3}:(t.turned ∈ l.map T3.turned) ↔ l.any (T3.twins t) = true:=by
 rw [List.mem_map,List.any_eq_true]
 constructor
 ·rintro⟨a,h1,h2⟩;exact⟨a,h1,turned_iff.1 h2.symm⟩
 ·rintro⟨a,h1,h2⟩;exact⟨a,h1,(turned_iff.2 h2).symm⟩
section
variable {P:Program} (hm:P.follows .mixedOrders = true)
include hm
theorem weld_Degenerate_ok {f fc fv:FuncId} (hf:FnOk P f (weld_Degenerate.c fc fv) weld_Degenerate.r weld_Degenerate.n) (hc:CornersC P fc) (hv:CollC P fv):DegC P f:=by
 intro m i
 refine PureC.is (pure_of hm hf (Nat.le_of_ble_eq_true rfl) ?_) rfl
 unfold weld_Degenerate.c
 simp [go_sem,Mesh.enc,Mesh.cs]
 refine ACall_is (hc m i) ?_
 by_cases h:0 ≤ i∧i < m.tris.length∧m.check = 0
 ·obtain⟨t,ht⟩:∃ t,m.tris[i.toNat]? = some t:=⟨_,List.getElem?_eq_getElem (show i.toNat < m.tris.length by omega)⟩
  have e1:m.corners i = .t [(m.v t.a).enc,(m.v t.b).enc,(m.v t.c).enc,.b true]:=by unfold Mesh.corners;rw [if_pos h,ht]
  have e2:m.degI i = m.deg t:=by unfold Mesh.degI;rw [if_pos h,ht]
  rw [e1,e2]
  simp [go_sem,V3.enc,vcs]
  refine ACall_is (hv (m.v t.a) (m.v t.b) (m.v t.c)) ?_
  simp [go_sem,weld_Degenerate.r,Mesh.deg]
 ·have e1:m.corners i = .t [zV3,zV3,zV3,.b false]:=by unfold Mesh.corners;rw [if_neg h]
  have e2:m.degI i = false:=by unfold Mesh.degI;rw [if_neg h]
  rw [e1,e2]
  simp [go_sem,zV3,weld_Degenerate.r]
set_option maxRecDepth 20000 in
set_option maxHeartbeats 4000000 in
theorem weld_Clean_ok {f fc fl ft fv:FuncId} (hf:FnOk P f (weld_Clean.c fc fl ft fv) weld_Clean.r weld_Clean.n) (hc:CheckC P fc) (hl:CloneC P fl 3) (ht:TurnedC P ft) (hv:CollC P fv):CleanC P f:=by
 intro m
 by_cases hz:m.check = 0
 case neg =>
  have he:cleanR m = (noMesh,0,0,m.check):=by simp [cleanR,hz]
  rw [he]
  refine CallIs.res (r:=.t [.a [.nil,.nil],.i .i64 0,.i .i64 0,.i .i64 m.check]) ?_ (cleanV_no m.check)
  refine PureC.is (pure_of hm hf (Nat.le_of_ble_eq_true rfl) ?_) rfl
  unfold weld_Clean.c
  simp [go_sem,Mesh.enc,Mesh.cs,vsV,tsV]
  refine ACall_is (hc m) ?_
  simp [go_sem,hz,weld_Clean.r]
 have he:cleanR m = (m.cleanM,(((cleanL m.deg m.tris).deg:Nat):Int),(((cleanL m.deg m.tris).twin:Nat):Int),0):=by simp [cleanR,hz]
 rw [he]
 obtain⟨z1,z2,z3,z4⟩:=Mesh.check_zero.1 hz
 refine PureC.is (pure_of hm hf (Nat.le_of_ble_eq_true rfl) ?_) rfl
 unfold weld_Clean.c
 simp [go_sem,Mesh.enc,Mesh.cs,vsV,tsV]
 refine ACall_is (hc m) ?_
 simp [go_sem,hz]
 refine ACall_new (hl (m.verts.map V3.cs) (by simp [List.all_eq_true,vcs,V.isD]) (by simp;omega)) (by simp [go_sem,V.cl,V.cl1,V.cl0]) ?_
 simp [go_sem,vsV]
 refine AS_loopG [.c 3 0 1 3] (α:=Nat) (fun k=>k ≤ m.tris.length)
  (fun k=>⟨[(1,.p 0 1 0 0),(2,.p 1 1 0 0),(7,.p 3 1 0 0),(8,.mp 4),(9,.i .i64 (cleanL m.deg (m.tris.take k)).deg),(10,.i .i64 (cleanL m.deg (m.tris.take k)).twin),(26,tsV m.tris),(27,.i .i64 m.tris.length),(28,.i .i64 k)],
   [.arr 1 2 [m.cs],.arr 1 2 [[.nil,.nil]],.arr 1 3 (m.verts.map V3.cs),.arr 1 2 [[.own 2 1 0 m.verts.length,.own 5 ((cleanL m.deg (m.tris.take k)).out.length + 1) 0 (cleanL m.deg (m.tris.take k)).out.length]],
    .mp (((cleanL m.deg (m.tris.take k)).out.map T3.turned).map (kt T3.enc)),.arr ((cleanL m.deg (m.tris.take k)).out.length + 1) 3 ((cleanL m.deg (m.tris.take k)).out.map T3.cs)]⟩)
  (fun k=>m.tris.length - k) 0 (Nat.zero_le _) ?_ ?_
 ·simp [go_sem,Mesh.cs,vsV,tsV,cleanL]
  exact fun a _=>by simp [vcs,V.sh1,V.sh0]
 ·intro k hk
  by_cases hkl:k = m.tris.length
  ·subst hkl
   rw [List.take_length]
   simp (disch:=omega) [go_sem,Mesh.cs,vsV,tsV,wrap64_small,weld_Clean.r]
   simp [cleanV,Mesh.cleanM,Mesh.enc,Mesh.cs,vsV,tsV]
  ·have hlt:k < m.tris.length:=by omega
   have hp:m.tris[k]? = some m.tris[k]:=List.getElem?_eq_getElem hlt
   have htm:m.tris[k] ∈ m.tris:=List.getElem_mem _
   generalize m.tris[k] = t at hp htm
   obtain⟨_,hp'⟩:=List.getElem?_eq_some_iff.1 hp
   obtain⟨i0,i1,j0,j1,l0,l1⟩:=tok hz htm
   have g1:=mv_get i0 i1
   have g2:=mv_get j0 j1
   have g3:=mv_get l0 l1
   obtain⟨q1,r1⟩:=List.getElem?_eq_some_iff.1 g1
   obtain⟨q2,r2⟩:=List.getElem?_eq_some_iff.1 g2
   obtain⟨q3,r3⟩:=List.getElem?_eq_some_iff.1 g3
   have hst:=cleanL_succ m.deg hp
   have hok:=cleanL_ok m.deg (m.tris.take k)
   have hsum:=hok.sum
   have hkl2:(m.tris.take k).length = k:=by simp;omega
   rw [hkl2] at hsum
   have hdeg:m.deg t = collin (m.v t.a) (m.v t.b) (m.v t.c):=rfl
   generalize cleanL m.deg (m.tris.take k) = s at *
   simp (disch:=omega) [go_sem,Mesh.cs,vsV,tsV,hlt,hp,hp',tcs]
   refine ACall_is (ht t) ?_
   simp (disch:=omega) [go_sem,Mesh.cs,vsV,tsV,T3.enc,tcs,vcs,i0,j0,l0,q1,q2,q3,g1,g2,g3,r1,r2,r3]
   refine DCall_is (hv (m.v t.a) (m.v t.b) (m.v t.c)) ?_
   rw [← hdeg]
   unfold Cl.step at hst
   have hfe:findE [1,1,1] (V.a [.i .i64 t.turned.a,.i .i64 t.turned.b,.i .i64 t.turned.c]) ((s.out.map T3.turned).map (kt T3.enc)) = _:=findE_set key_T3 t.turned (s.out.map T3.turned)
   cases hd:m.deg t
   ·rw [hd] at hst
    simp only [Bool.false_eq_true,if_false] at hst
    by_cases hany:s.out.any (T3.twins t) = true
    ·rw [if_pos (mem_turned.2 hany)] at hfe
     rw [if_pos hany] at hst
     rw [List.map_map] at hfe
     simp (disch:=omega) [go_sem,Mesh.cs,vsV,tsV,hfe,wrap64_small]
     refine⟨k + 1,by omega,by omega,?_⟩
     rw [hst]
     simp [kt,t3c_cl,T3.enc,tcs,V.cl,V.cl1,V.cl0]
    ·rw [if_neg (fun h=>hany (mem_turned.1 h))] at hfe
     rw [if_neg hany] at hst
     rw [List.map_map] at hfe
     simp (disch:=omega) [go_sem,Mesh.cs,vsV,tsV,hfe,wrap64_small]
     refine⟨⟨by omega,by omega⟩,k + 1,by omega,by omega,?_⟩
     rw [hst]
     simp [kt,t3c_cl,T3.enc,tcs,V.cl,V.cl1,V.cl0]
   ·rw [hd] at hst
    simp only [if_true] at hst
    simp (disch:=omega) [go_sem,Mesh.cs,vsV,tsV,wrap64_small]
    refine⟨k + 1,by omega,by omega,?_⟩
    rw [hst]
    simp [kt,t3c_cl,T3.enc,tcs,V.cl,V.cl1,V.cl0]
end
end Go.Abs
set_option linter.unusedVariables false
set_option linter.unusedSimpArgs false
namespace Go.Abs
def SameMC (P:Program) (f:FuncId):Prop:=∀ m:Mesh,m.verts.length ≤ 1000000→m.tris.length ≤ 1000000→CallIs P f [m.enc,m.enc] (.b true)
section
variable {P:Program} (hm:P.follows .mixedOrders = true)
include hm
set_option maxHeartbeats 4000000 in
theorem ref07_Same_ok {f:FuncId} (hf:FnOk P f ref07_Same.c ref07_Same.r ref07_Same.n):SameMC P f:=by
 intro m hl1 hl2
 refine PureC.is (pure_of hm hf (Nat.le_of_ble_eq_true rfl) ?_) rfl
 unfold ref07_Same.c
 simp [go_sem,Mesh.enc,Mesh.cs,vsV,tsV]
 refine AS_loop (α:=Nat) (fun k=>k ≤ m.verts.length)
  (fun k=>⟨[(2,.p 0 1 0 0),(3,.p 1 1 0 0),(25,.i .i64 m.verts.length),(26,.i .i64 k)],[.arr 1 2 [m.cs],.arr 1 2 [m.cs]]⟩)
  (fun k=>m.verts.length - k) 0 (Nat.zero_le _) ?_ ?_
 ·simp [go_sem,Mesh.cs,vsV,tsV]
 ·intro k hk
  cases hp:m.verts[k]? with
  | none =>
    have:¬ k < m.verts.length:=by simpa using hp
    obtain rfl:k = m.verts.length:=by omega
    simp [go_sem,vsV,tsV,Mesh.cs]
    refine AS_loop (α:=Nat) (fun k=>k ≤ m.tris.length)
     (fun k=>⟨[(2,.p 0 1 0 0),(3,.p 1 1 0 0),(43,.i .i64 m.tris.length),(44,.i .i64 k)],[.arr 1 2 [m.cs],.arr 1 2 [m.cs]]⟩)
     (fun k=>m.tris.length - k) 0 (Nat.zero_le _) ?_ ?_
    ·simp [go_sem,Mesh.cs,vsV,tsV]
    ·intro k hk
     cases hp:m.tris[k]? with
     | none =>
       have:¬ k < m.tris.length:=by simpa using hp
       obtain rfl:k = m.tris.length:=by omega
       simp [go_sem,vsV,tsV,Mesh.cs,ref07_Same.r]
     | some p =>
       obtain⟨hlt,hp'⟩:=List.getElem?_eq_some_iff.1 hp
       simp [go_sem,vsV,tsV,Mesh.cs,hlt,hp',tcs]
       refine⟨k + 1,by omega,by omega,?_⟩
       simp (disch:=omega) [go_sem,vsV,tsV,Mesh.cs,wrap64_small]
  | some p =>
    obtain⟨hlt,hp'⟩:=List.getElem?_eq_some_iff.1 hp
    simp [go_sem,vsV,tsV,Mesh.cs,hlt,hp',vcs]
    refine⟨k + 1,by omega,by omega,?_⟩
    simp (disch:=omega) [go_sem,vsV,tsV,Mesh.cs,wrap64_small]
end
end Go.Abs
set_option linter.unusedVariables false
set_option linter.unusedSimpArgs false
namespace Go.Abs
def P2.valid (p:P2):Bool:=decide (-16777216 ≤ p.x) && decide (p.x ≤ 16777216) && decide (-16777216 ≤ p.y) && decide (p.y ≤ 16777216)
theorem P2.valid_iff {p:P2}:p.valid = true ↔ (-16777216 ≤ p.x∧p.x ≤ 16777216∧-16777216 ≤ p.y∧p.y ≤ 16777216):=by simp [P2.valid,and_assoc]
end Go.Abs
set_option linter.unusedVariables false
set_option linter.unusedSimpArgs false
namespace Go.Abs
def bottomT (k:Nat):T3:=⟨0,(k:Int) + 2,(k:Int) + 1⟩
def bottomTs (n:Nat):List T3:=(List.range n).map bottomT
def BottomC (P:Program) (f:FuncId):Prop:=∀ n:Nat,n ≤ 1000→NewC P f [.i .i64 ((n:Int) + 2)] (fun r h=>r = .own 0 (n + 1) 0 n∧h = [.arr (n + 1) 3 ((bottomTs n).map T3.cs)])
end Go.Abs
set_option linter.unusedVariables false
set_option linter.unusedSimpArgs false
namespace Go.Abs
theorem BottomC.of {P:Program} {f:FuncId} (hb:BottomC P f) {n k:Nat} (hn:n = k + 2) (hk:k ≤ 1000):NewC P f [.i .i64 n] (fun r h=>r = .own 0 (k + 1) 0 k∧h = [.arr (k + 1) 3 ((bottomTs k).map T3.cs)]):=by
 subst hn;exact hb k hk
end Go.Abs
set_option linter.unusedVariables false
set_option linter.unusedSimpArgs false
namespace Go.Abs
def mixed {α:Type} (l:List α) (g:α→α) (k:Nat):List α:=(l.take k).map g ++ l.drop k
end Go.Abs
set_option linter.unusedVariables false
set_option linter.unusedSimpArgs false
namespace Go.Abs
theorem CallIs.pure {P:Program} {f:FuncId} {vs:List V} {r:V} (h:CallIs P f vs r):PureC P f vs (· = r):=h []
end Go.Abs
set_option linter.unusedVariables false
set_option linter.unusedSimpArgs false
namespace Go.Abs
def V3.neg (d:V3):V3:=⟨IntKind.i64.wrap (0 - d.x),IntKind.i64.wrap (0 - d.y),IntKind.i64.wrap (0 - d.z)⟩
end Go.Abs
set_option linter.unusedVariables false
set_option linter.unusedSimpArgs false
namespace Go.Abs
noncomputable def Mesh.inv (m:Mesh):Bool:=m.shells.any fun sh=>decide (volL m.verts (partOf m.tris sh) < 0)
noncomputable def chkR (m:Mesh):Int :=
 if m.check ≠ 0 then m.check else if m.closed = false then 12 else if cohB m.tris = false then 13 else if m.tris.any m.deg = true then 1 else if m.inv = true then 1 else 0
structure Rep where
 me:Int
 de:Int
 du:Int
 fl:Int
 ho:Int
 iv:Int
 sh:Int
def Rep.zero:Rep:=⟨0,0,0,0,0,0,0⟩
noncomputable def repR (m:Mesh):Mesh × Rep × Int :=
 if (weldR m).2.2 ≠ 0 then (noMesh,Rep.zero,(weldR m).2.2) else
 let a:=weldR m
 if (cleanR a.1).2.2.2 ≠ 0 then (noMesh,Rep.zero,(cleanR a.1).2.2.2) else
 let b:=cleanR a.1
 if (weldR b.1).2.2 ≠ 0 then (noMesh,Rep.zero,(weldR b.1).2.2) else
 let c:=weldR b.1
 if (oriR c.1).2.2 ≠ 0 then (noMesh,Rep.zero,(oriR c.1).2.2) else
 let d:=oriR c.1
 if (fillR d.1).2.2 ≠ 0 then (noMesh,Rep.zero,(fillR d.1).2.2) else
 let g:=fillR d.1
 if (outR g.1).2.2 ≠ 0 then (noMesh,Rep.zero,(outR g.1).2.2) else
 let o:=outR g.1
 if chkR o.1 ≠ 0 then (noMesh,Rep.zero,chkR o.1) else
 (o.1,⟨a.2.1 + c.2.1,b.2.1,b.2.2.1,d.2.1,g.2.1,o.2.1,(o.1.shells.length:Int)⟩,0)
structure Snd (m:Mesh):Prop where
 z:m.check = 0
 clo:m.closed = true
 coh:Coh m.tris
 deg:∀ t ∈ m.tris,m.deg t = false
 vol:∀ sh ∈ m.shells,0 ≤ volL m.verts (partOf m.tris sh)
theorem snd_iff {m:Mesh}:chkR m = 0 ↔ Snd m:=by
 unfold chkR
 constructor
 ·intro h
  by_cases h1:m.check = 0
  case neg=>rw [if_pos h1] at h;exact absurd h h1
  rw [if_neg (by simpa using h1)] at h
  by_cases h2:m.closed = false
  case pos=>rw [if_pos h2] at h;simp at h
  rw [if_neg h2] at h
  by_cases h3:cohB m.tris = false
  case pos=>rw [if_pos h3] at h;simp at h
  rw [if_neg h3] at h
  by_cases h4:m.tris.any m.deg = true
  case pos=>rw [if_pos h4] at h;simp at h
  rw [if_neg h4] at h
  by_cases h5:m.inv = true
  case pos=>rw [if_pos h5] at h;simp at h
  refine⟨h1,by simpa using h2,cohB_iff.1 (by simpa using h3),?_,?_⟩
  ·intro t ht
   cases hd:m.deg t with
   | false=>rfl
   | true=>exact absurd (List.any_eq_true.2 ⟨t,ht,hd⟩) h4
  ·intro sh hs
   by_cases hn:volL m.verts (partOf m.tris sh) < 0
   ·exact absurd (List.any_eq_true.2 ⟨sh,hs,by simpa using hn⟩) h5
   ·omega
 ·intro h
  have h4:m.tris.any m.deg = false:=by
   rw [List.any_eq_false];intro t ht;rw [h.deg t ht];simp
  have h5:m.inv = false:=by
   unfold Mesh.inv
   rw [List.any_eq_false];intro sh hs;have:=h.vol sh hs;simp;omega
  rw [if_neg (by simpa using h.z),if_neg (by rw [h.clo];simp),if_neg (by rw [cohB_iff.2 h.coh];simp),if_neg (by rw [h4];simp),if_neg (by rw [h5];simp)]
theorem Snd.out {m:Mesh} (h:Snd m):OutOk m:=⟨h.z,h.clo,cohB_iff.2 h.coh,h.vol⟩
theorem Snd.border {m:Mesh} (h:Snd m):m.border = []:=by
 have:=h.clo
 unfold Mesh.closed at this
 simp only [Bool.and_eq_true,decide_eq_true_eq] at this
 exact this.2
theorem Snd.len {m:Mesh} (h:Snd m):m.tris.length ≤ 4096:=(Mesh.check_zero.1 h.z).2.1
theorem mem_edges {t:T3} {e:P2}:e ∈ edgesOf t ↔ e.x ≠ e.y∧(e = ⟨t.a,t.b⟩ ∨ e = ⟨t.b,t.c⟩ ∨ e = ⟨t.c,t.a⟩):=by
 unfold edgesOf edgesK edges3
 rw [List.mem_filter]
 simp only [List.take,List.mem_cons,List.not_mem_nil,or_false,decide_eq_true_eq]
 exact and_comm
theorem T3.ext' {a b:T3} (h1:a.a = b.a) (h2:a.b = b.b) (h3:a.c = b.c):a = b:=by cases a;cases b;simp_all
theorem twins_edge {a b:T3} (h:b.twins a = true) (hn:a.a ≠ a.b):∃ e ∈ edgesOf a,e ∈ edgesOf b:=by
 refine⟨⟨a.a,a.b⟩,mem_edges.2 ⟨hn,.inl rfl⟩,mem_edges.2 ⟨hn,?_⟩⟩
 simp only [T3.twins,Bool.or_eq_true,decide_eq_true_eq] at h
 rcases h with rfl | rfl | rfl
 ·exact .inl rfl
 ·exact .inr (.inr rfl)
 ·exact .inr (.inl rfl)
theorem ok_valid {m:Mesh} (hz:m.check = 0) {i:Int} (h0:0 ≤ i) (h1:i < m.verts.length):(m.v i).valid = true :=
 List.all_eq_true.1 (Mesh.check_zero.1 hz).2.2.1 _ (Mesh.v_mem h0 h1)
theorem deg_ne {m:Mesh} (hz:m.check = 0) {t:T3} (ht:t ∈ m.tris) (hd:m.deg t = false):t.a ≠ t.b:=by
 intro h
 obtain⟨a0,a1,b0,b1,c0,c1⟩:=tok hz ht
 have:m.deg t = true:=by
  unfold Mesh.deg collin
  rw [ok_valid hz a0 a1,ok_valid hz b0 b1,ok_valid hz c0 c1,h]
  simp [V3.sub,V3.crs]
 rw [hd] at this
 simp at this
theorem Snd.clean {m:Mesh} (h:Snd m):cleanR m = (m,0,0,0):=by
 have hp:m.tris.Pairwise fun a b=>b.twins a = false:=by
  rw [List.pairwise_iff_getElem]
  intro i j hi hj hij
  cases ht:(m.tris[j]).twins m.tris[i] with
  | false=>rfl
  | true =>
    obtain⟨e,h1,h2⟩:=twins_edge ht (deg_ne h.z (List.getElem_mem hi) (h.deg _ (List.getElem_mem hi)))
    rw [tAt_el hi] at h1
    rw [tAt_el hj] at h2
    have:=h.coh i j e hi hj h1 h2
    omega
 have hc:=cleanL_clean m.deg h.deg hp
 unfold cleanR Mesh.cleanM
 rw [if_pos h.z,hc];rfl
theorem Snd.orient {m:Mesh} (h:Snd m):oriR m = (m,0,0):=by
 obtain⟨L,hL⟩:=lab_ex m.tris
 rw [oriR_ok h.z (orientL_some hL (good_self h.coh)),difN_self];rfl
theorem Snd.fill {m:Mesh} (h:Snd m):fillR m = (m,0,0):=by
 have hl:=loops_closed h.z h.border
 have hm:m.fillM = m:=by
  unfold Mesh.fillM
  rw [hl];simp
 unfold fillR
 rw [hm,hl]
 rw [if_pos rfl,if_pos h.len];rfl
theorem Snd.outw {m:Mesh} (h:Snd m):outR m = (m,0,0):=outR_again h.out
structure Wld (m:Mesh):Prop where
 asc:m.verts.Pairwise V3.lt
 used:∀ v ∈ m.verts,∃ t ∈ m.tris,v ∈ m.cor t
theorem Wld.weld {m:Mesh} (h:Wld m) (hz:m.check = 0):weldR m = (m,0,0):=by
 have hv:m.wverts = m.verts:=by
  refine ascG_ext V3.ltO (wverts_asc _) h.asc fun v=>?_
  rw [mem_wverts]
  constructor
  ·rintro⟨t,ht,hv⟩
   obtain⟨a0,a1,b0,b1,c0,c1⟩:=tok hz ht
   simp only [Mesh.cor,List.mem_cons,List.not_mem_nil,or_false] at hv
   rcases hv with rfl | rfl | rfl
   ·exact Mesh.v_mem a0 a1
   ·exact Mesh.v_mem b0 b1
   ·exact Mesh.v_mem c0 c1
  ·exact h.used v
 have hnd:m.verts.Nodup:=by
  exact ascG_nodup V3.ltO h.asc
 have hi:∀ i:Int,0 ≤ i→i < m.verts.length→idxV m.verts (m.v i) = i:=by
  intro i h0 h1
  have:=idxV_of_get hnd (i:=i.toNat) (v:=m.v i) (by
   have hlt:i.toNat < m.verts.length:=by omega
   rw [List.getElem?_eq_getElem hlt,m.v_get h1 hlt])
  omega
 have ht:m.tris.map (wtri m m.verts) = m.tris:=by
  conv=>rhs;rw [← List.map_id m.tris]
  refine List.map_congr_left fun t ht=>?_
  obtain⟨a0,a1,b0,b1,c0,c1⟩:=tok hz ht
  simp only [wtri,hi _ a0 a1,hi _ b0 b1,hi _ c0 c1];rfl
 unfold weldR Mesh.weldM
 rw [if_pos hz,hv,ht]
 simp
theorem Wld.rep {m:Mesh} (h:Wld m) (hs:Snd m):repR m = (m,⟨0,0,0,0,0,0,(m.shells.length:Int)⟩,0):=by
 unfold repR
 simp only [h.weld hs.z,hs.clean,hs.orient,hs.fill,hs.outw,snd_iff.2 hs,ne_eq,not_true_eq_false,if_false]
 rfl
theorem weldR_cases (m:Mesh):((weldR m).2.2 ≠ 0∧m.check ≠ 0) ∨ (m.check = 0∧weldR m = (m.weldM,(m.verts.length:Int) - m.wverts.length,0)):=by
 unfold weldR
 by_cases h:m.check = 0
 ·rw [if_pos h];exact .inr ⟨h,rfl⟩
 ·rw [if_neg h];exact .inl ⟨h,h⟩
theorem weldM_wld {m:Mesh} (hz:m.check = 0):Wld m.weldM where
 asc:=wverts_asc m
 used v hv:=by
  have hv:v ∈ m.weldM.wverts:=by
   have h:=congrArg Mesh.verts (weld_weld hz)
   show v ∈ m.weldM.weldM.verts
   rw [h];exact hv
  exact mem_wverts.1 hv
theorem cor_rev (m:Mesh) (t:T3) (v:V3):v ∈ m.cor t.rev ↔ v ∈ m.cor t:=by
 simp only [Mesh.cor,T3.rev,List.mem_cons,List.not_mem_nil,or_false]
 constructor <;> rintro (h | h | h) <;> simp [h]
theorem Wld.fl {m:Mesh} (h:Wld m) {us:List T3} (hf:Fl m.tris us):Wld ⟨m.verts,us⟩ where
 asc:=h.asc
 used v hv:=by
  obtain⟨t,ht,hc⟩:=h.used v hv
  obtain⟨i,hi⟩:=List.getElem?_of_mem ht
  have hl:=(List.getElem?_eq_some_iff.1 hi).1
  rw [tAt_get hl] at hi
  obtain rfl:=Option.some.inj hi
  refine⟨tAt us i,List.mem_of_getElem? (tAt_get (by rw [hf.len];exact hl)),?_⟩
  show v ∈ m.cor _
  rcases hf.tat hl with h1 | h1
  ·rw [h1];exact hc
  ·rw [h1,cor_rev];exact hc
theorem Wld.more {m:Mesh} (h:Wld m) (k:List T3):Wld ⟨m.verts,m.tris ++ k⟩ where
 asc:=h.asc
 used v hv:=by
  obtain⟨t,ht,hc⟩:=h.used v hv
  exact⟨t,List.mem_append_left _ ht,hc⟩
theorem oriR_cs (m:Mesh):((oriR m).2.2 ≠ 0) ∨ (m.check = 0∧∃ us,orientL m.tris = some us∧oriR m = (⟨m.verts,us⟩,(difN m.tris us:Int),0)):=by
 by_cases h:m.check = 0
 case neg =>
  left
  unfold oriR
  rw [if_pos h];exact h
 cases ho:orientL m.tris with
 | none=>left;rw [oriR_err h ho];simp
 | some us=>exact .inr ⟨h,us,rfl,oriR_ok h ho⟩
theorem fillR_cases (m:Mesh):((fillR m).2.2 ≠ 0) ∨ (m.loops.2 = 0∧m.fillM.tris.length ≤ 4096∧fillR m = (m.fillM,(m.loops.1.length:Int),0)):=by
 unfold fillR
 by_cases h:m.loops.2 = 0
 ·rw [if_pos h]
  by_cases h2:m.fillM.tris.length ≤ 4096
  ·rw [if_pos h2];exact .inr ⟨h,h2,rfl⟩
  ·rw [if_neg h2];left;simp
 ·rw [if_neg h];exact .inl h
theorem repR_cases (m:Mesh):((repR m).2.2 ≠ 0∧repR m = (noMesh,Rep.zero,(repR m).2.2)) ∨
  ((repR m).2.2 = 0∧Wld (repR m).1∧Snd (repR m).1∧(repR m).2.1.sh = ((repR m).1.shells.length:Int)):=by
 unfold repR
 simp only []
 rcases weldR_cases m with⟨h,hz⟩ | ⟨hz,h1⟩
 ·rw [if_pos h];exact .inl ⟨h,rfl⟩
 rw [h1]
 simp only [ne_eq,not_true_eq_false,if_false]
 by_cases h2:(cleanR m.weldM).2.2.2 = 0
 case neg=>rw [if_pos h2];exact .inl ⟨h2,rfl⟩
 rw [if_neg (by simpa using h2)]
 rcases weldR_cases (cleanR m.weldM).1 with⟨h,hz⟩ | ⟨hz3,h3⟩
 ·rw [if_pos h];exact .inl ⟨h,rfl⟩
 rw [h3]
 simp only [not_true_eq_false,if_false]
 have hw:=weldM_wld hz3
 rcases oriR_cs (cleanR m.weldM).1.weldM with h | ⟨hz4,us,ho,h4⟩
 ·rw [if_pos h];exact .inl ⟨h,rfl⟩
 rw [h4]
 simp only [not_true_eq_false,if_false]
 have hw4:=hw.fl (by obtain⟨L,hL⟩:=lab_ex (cleanR m.weldM).1.weldM.tris;exact (orientL_good hL ho).fl)
 generalize (⟨(cleanR m.weldM).1.weldM.verts,us⟩:Mesh) = d at *
 rcases fillR_cases d with h | ⟨hl,hlen,h5⟩
 ·rw [if_pos h];exact .inl ⟨h,rfl⟩
 rw [h5]
 simp only [not_true_eq_false,if_false]
 have hw5:Wld d.fillM:=hw4.more _
 generalize d.fillM = g at *
 rcases outR_cases g with⟨h,_⟩ | ⟨h6,hok⟩
 ·rw [if_pos h];exact .inl ⟨h,rfl⟩
 rw [h6]
 simp only [not_true_eq_false,if_false]
 have hw6:Wld g.outw:=hw5.fl (flp_Fl _ _)
 by_cases h7:chkR g.outw = 0
 case neg=>rw [if_pos h7];exact .inl ⟨h7,rfl⟩
 rw [if_neg (by simpa using h7)]
 exact .inr ⟨rfl,hw6,snd_iff.1 h7,rfl⟩
end Go.Abs
