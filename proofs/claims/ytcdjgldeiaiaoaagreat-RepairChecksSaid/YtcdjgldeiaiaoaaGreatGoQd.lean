/- Part of the library on which the proof stands: an abstract machine, its values and its soundness against the model; or what functions of the program do to such values. -/
import Derived.Test.YtcdjgldeiaiaoaaGreatGoRpG
import Derived.Test.YtcdjgldeiaiaoaaGreatGoClone
import Derived.Test.YtcdjgldeiaiaoaaGreatGoOriA
import Derived.Test.YtcdjgldeiaiaoaaGreatGoRb
import Derived.Test.YtcdjgldeiaiaoaaGreatGoSl
import Derived.Test.YtcdjgldeiaiaoaaGreatGoWeA
import Derived.Test.YtcdjgldeiaiaoaaGreatGoSet
import Derived.Test.YtcdjgldeiaiaoaaGreatGoQh
import Derived.Test.YtcdjgldeiaiaoaaGreatGoOz
set_option linter.unusedVariables false
set_option linter.unusedSimpArgs false
namespace Go.Abs
def Mesh.fewR (m:Mesh):Bool:=decide (m.verts.length ≤ 60) && decide (m.tris.length ≤ 60)
def FewRC (P:Program) (f:FuncId):Prop:=∀ m:Mesh,CallIs P f [m.enc] (.b m.fewR)
theorem snd_nil:Snd ⟨[],[]⟩:=by
 have hz:(Mesh.mk [] []).check = 0:=Mesh.check_zero.2 ⟨by simp,by simp,rfl,rfl⟩
 have hb:(Mesh.mk [] []).border = []:=(border_nil hz).2 fun e=>rfl
 refine⟨hz,by unfold Mesh.closed;rw [hz,hb];rfl,fun i j e hi=>by simp at hi,by simp,fun sh hs=>?_⟩
 have:=(shells_ok hz).num
 have hs0:(Mesh.mk [] []).shells = []:=List.eq_nil_of_length_eq_zero (by simpa using this)
 rw [hs0] at hs;simp at hs
theorem chkR_nil:chkR ⟨[],[]⟩ = 0:=snd_iff.2 snd_nil
def tri1 (v:List V3):Mesh:=⟨v,[⟨0,1,2⟩]⟩
theorem tri1_check {a b c:V3} (h:vsOk [a,b,c] = true):(tri1 [a,b,c]).check = 0 :=
 Mesh.check_zero.2 ⟨by simp [tri1],by simp [tri1],h,rfl⟩
theorem chk_open {a b c:V3} (h:vsOk [a,b,c] = true):chkR (tri1 [a,b,c]) = 12:=by
 have hz:=tri1_check h
 refine chkR_2 hz ?_
 cases hc:(tri1 [a,b,c]).closed with
 | false=>rfl
 | true =>
   have h2:Clo [⟨0,1,2⟩]:=(closed_clo hc).2
   exact absurd (h2 ⟨0,1⟩ (by decide)) (by decide)
theorem rep_flat:repR (tri1 [⟨0,0,0⟩,⟨1,0,0⟩,⟨2,0,0⟩]) = (⟨[],[]⟩,⟨3,1,0,0,0,0,0⟩,0):=by
 have hz:=tri1_check (a:=⟨0,0,0⟩) (b:=⟨1,0,0⟩) (c:=⟨2,0,0⟩) (by decide)
 have hw:Wld (tri1 [⟨0,0,0⟩,⟨1,0,0⟩,⟨2,0,0⟩]):=⟨by simp [tri1,V3.lt],by simp [tri1,Mesh.cor,Mesh.v]⟩
 have h1:=hw.weld hz
 have h2:cleanR (tri1 [⟨0,0,0⟩,⟨1,0,0⟩,⟨2,0,0⟩]) = (⟨[⟨0,0,0⟩,⟨1,0,0⟩,⟨2,0,0⟩],[]⟩,1,0,0):=by
  unfold cleanR
  rw [if_pos hz]
  have hc:cleanL (tri1 [⟨0,0,0⟩,⟨1,0,0⟩,⟨2,0,0⟩]).deg (tri1 [⟨0,0,0⟩,⟨1,0,0⟩,⟨2,0,0⟩]).tris = ⟨[],1,0⟩:=by
   have h:=cleanL_snoc (tri1 [⟨0,0,0⟩,⟨1,0,0⟩,⟨2,0,0⟩]).deg [] ⟨0,1,2⟩
   have hd:(tri1 [⟨0,0,0⟩,⟨1,0,0⟩,⟨2,0,0⟩]).deg ⟨0,1,2⟩ = true:=by decide
   exact h.trans (by unfold Cl.step;rw [hd];rfl)
  unfold Mesh.cleanM
  rw [hc];rfl
 have hz2:(Mesh.mk [⟨0,0,0⟩,⟨1,0,0⟩,⟨2,0,0⟩] []).check = 0:=Mesh.check_zero.2 ⟨by simp,by simp,by decide,rfl⟩
 have h3:weldR (Mesh.mk [⟨0,0,0⟩,⟨1,0,0⟩,⟨2,0,0⟩] []) = (⟨[],[]⟩,3,0):=by
  unfold weldR Mesh.weldM
  rw [if_pos hz2]
  have hv:(Mesh.mk [⟨0,0,0⟩,⟨1,0,0⟩,⟨2,0,0⟩] []).wverts = []:=by
   refine List.eq_nil_iff_forall_not_mem.2 fun v hv=>?_
   obtain⟨t,ht,_⟩:=mem_wverts.1 hv
   simp at ht
  rw [hv];rfl
 unfold repR
 simp only [h1,h2,h3,snd_nil.orient,snd_nil.fill,snd_nil.outw,chkR_nil,ne_eq,not_true_eq_false,if_false]
 have:=(shells_ok snd_nil.z).num
 have hs0:(Mesh.mk [] []).shells = []:=List.eq_nil_of_length_eq_zero (by simpa using this)
 rw [hs0];rfl
def V.sca1:V→Bool
 | .nil | .l _ []=>true
 | v=>v.scal1
def V.sca:V→Bool
 | .t vs=>vs.all fun | .a cs=>cs.all V.sca1 | v=>v.scal1
 | _=>false
theorem sca1_ok {J J':Nat→Prop} {m m':List Ent} {w w':World} {v:V} {c:Value} (hs:v.sca1 = true) (h:RC J m w v c):RC J' m' w' v c:=by
 by_cases h1:v.scal1 = true
 ·exact scal1_ok h1 h
 ·cases v
  case nil =>
   have h:RD J w .nil c:=h
   cases h with
   | nil0=>exact RC_of_RD .nil0
   | nil1 a=>exact RC_of_RD (.nil1 a)
  case l sz els =>
   cases els with
   | nil =>
     have h:RD J w (.l sz []) c:=h
     have:RD J' w' (.l sz []) c:=by
      cases h with
      | l0 _=>exact .l0 sz
      | l1 _ a cap=>exact .l1 sz a cap
      | l _ _ a cap cs hj hc hsz hcell hr=>exact .l1 sz a cap
     exact RC_of_RD this
   | cons a b=>simp [V.sca1,V.scal1] at hs
  all_goals exact absurd hs h1
theorem sca_ok {J J':Nat→Prop} {m m':List Ent} {w w':World} {v:V} {c:Value} (hs:v.sca = true) (h:RV J m w v c):RV J' m' w' v c:=by
 cases v
 case t vs =>
  obtain⟨arr,rfl,hp⟩:=h
  refine⟨arr,rfl,hp.1,fun i v c hv hc=>?_⟩
  have h1:=List.all_eq_true.1 hs v (List.mem_of_getElem? hv)
  have h2:=hp.2 i v c hv hc
  cases v
  case a cs =>
   obtain⟨arr,rfl,hq⟩:=h2
   exact⟨arr,rfl,hq.1,fun i v c hv hc=>sca1_ok (List.all_eq_true.1 h1 v (List.mem_of_getElem? hv)) (hq.2 i v c hv hc)⟩
  all_goals first
   | (simp [V.scal1] at h1;done)
   | exact RA_of_RC (scal1_ok (J:=J) (m:=m) (w:=w) h1 h2)
 all_goals simp [V.sca] at hs
theorem ACall_lends {P:Program} {f:FuncId} {vs us:List V} {h:List O} {r0:V} {k:V→List O→Prop} (hu:frzAll h us = some vs) (hp:CallIs P f vs r0) (hsc:r0.sca = true) (hk:k r0 h):ACall P f us h k:=by
 intro J m w cargs hr hpw
 have hpw0:Pw (RV (fun k=>J k ∨ Blks m k) [] w) vs cargs:=mapM_pw (R:=RV J m w) (R':=RV (fun k=>J k ∨ Blks m k) [] w) (fun v r c q1 q2=>RV_of_RA (frz_ok hr q1 q2)) hu hpw
 refine (hp [] (fun k=>J k ∨ Blks m k) [] w cargs ⟨rfl,fun k hk=>?_,by simp,by simp,by simp⟩ hpw0).mono ?_
 ·rcases hk with hk | ⟨id,e,h1,h2⟩
  ·exact hr.jlt k hk
  ·exact (hr.dis id e k h1 h2).2
 rintro e w' ⟨v,r,h',J',m',rfl,⟨rfl,rfl⟩,hv,hrs,hev,_⟩
 have hkeep:∀ k,k < w.heap.size→w'.heap[k]? = w.heap[k]?:=fun k hk=>(hev 0).keep k hk (by simp)
 exact⟨v,r,h,J,m,rfl,hk,sca_ok hsc hv,RS.same hr (fun _ h=>h) (fun _ h=>.inl h) (fun k hk=>Nat.lt_of_lt_of_le (hr.jlt k hk) (hev 0).size) hkeep (hev 0).size,
  fun n=>Ev.same (fun _ h=>h) (fun _ h=>.inl h) hkeep (hev 0).size (hev 0).os (hev 0).tape (hev 0).output (hev 0).drawn,Ml.refl m⟩
section
variable {P:Program} (hm:P.follows .mixedOrders = true)
include hm
theorem law14_few_ok {f:FuncId} (hf:FnOk P f law14_few.c law14_few.r law14_few.n):FewRC P f:=by
 intro m
 refine PureC.is (pure_of hm hf (Nat.le_of_ble_eq_true rfl) ?_) rfl
 unfold law14_few.c Mesh.fewR
 by_cases h1:m.verts.length ≤ 60
 ·by_cases h2:m.tris.length ≤ 60
  ·simp [go_sem,Mesh.enc,Mesh.cs,vsV,tsV,h1,h2,law14_few.r,show (m.verts.length:Int) ≤ 60 by omega,show (m.tris.length:Int) ≤ 60 by omega]
  ·simp [go_sem,Mesh.enc,Mesh.cs,vsV,tsV,h1,h2,law14_few.r,show (m.verts.length:Int) ≤ 60 by omega,show ¬ (m.tris.length:Int) ≤ 60 by omega]
 ·simp [go_sem,Mesh.enc,Mesh.cs,vsV,tsV,h1,law14_few.r,show ¬ (m.verts.length:Int) ≤ 60 by omega]
set_option maxRecDepth 20000 in
set_option maxHeartbeats 4000000 in
theorem law14_works_ok {f fr fc:FuncId} (hf:FnOk P f (law14_works.c fr fc) law14_works.r law14_works.n) (hr:RepC P fr) (hc:ChkC P fc):AwakeC P f:=by
 have r1:=hr (tri1 [⟨0,0,0⟩,⟨1,0,0⟩,⟨2,0,0⟩])
 rw [rep_flat] at r1
 have c1:=hc ⟨[],[]⟩
 rw [chkR_nil] at c1
 have c2:=hc (tri1 [⟨0,0,0⟩,⟨1,0,0⟩,⟨0,1,0⟩])
 rw [chk_open (by decide)] at c2
 have c1':CallIs P fc [.a [.nil,.nil]] (.i .i64 0):=c1.le ⟨.inl (.inr ⟨_,_,rfl,rfl,Le0.nil 3,Le0.nil 3,trivial⟩),trivial⟩ (Le.refl _)
 refine PureC.is (pure_of hm hf (Nat.le_of_ble_eq_true rfl) ?_) rfl
 unfold law14_works.c
 simp [tri1,Mesh.enc,Mesh.cs,vsV,tsV,V3.cs,T3.cs] at r1 c2
 simp [go_sem]
 refine ACall_lends (vs:=[_]) ?_ r1 rfl ?_
 ·simp [go_sem,frzAll,frz,frz0]
 simp [go_sem,repV,Mesh.enc,Mesh.cs,vsV,tsV,Rep.cs]
 refine ACall_is c1' ?_
 simp [go_sem]
 refine ACall_frz (vs:=[_]) ?_ c2 ?_
 ·simp [go_sem,frzAll,frz,frz0]
 simp [go_sem,law14_works.r]
set_option maxRecDepth 20000 in
set_option maxHeartbeats 4000000 in
theorem RepairChecks_ok {f ff fa fc fr:FuncId} (hf:FnOk P f (law14_RepairChecks.c ff fa fc fr) law14_RepairChecks.r law14_RepairChecks.n) (hff:FewRC P ff) (ha:AwakeC P fa) (hc:ChkC P fc) (hr:ChkC P fr)
  (m:Mesh):PureC P f [m.enc] (· = .b true):=by
 refine pure_of hm hf (Nat.le_of_ble_eq_true rfl) ?_
 unfold law14_RepairChecks.c
 have f1:=hff m
 have c1:=hc m
 have c2:=hr m
 generalize chkR m = C at *
 simp only [Mesh.enc,Mesh.cs] at f1 c1 c2
 simp [go_sem,Mesh.enc,Mesh.cs]
 refine ACall_is f1 ?_
 cases h:m.fewR
 ·simp [go_sem]
  refine ACall_is ha ?_
  simp [go_sem,law14_RepairChecks.r]
 simp [go_sem]
 refine DCall_is c1 ?_
 simp [go_sem]
 refine DCall_is c2 ?_
 simp [go_sem]
 refine DCall_is ha ?_
 simp [go_sem,law14_RepairChecks.r]
end
end Go.Abs
set_option linter.unusedVariables false
set_option linter.unusedSimpArgs false
namespace Go.Abs
def ExtendC (P:Program) (f:FuncId):Prop:=∀ (h:List O) (id id2 g:Nat) (v:V) (ts more:List T3),id ≠ id2→h[id]? = some (.arr 1 2 [[v,.own id2 g 0 ts.length]])→h[id2]? = some (.arr g 3 (ts.map T3.cs))→ts.length ≤ 4096→more.length ≤ 100000 →
 ACall P f [.p id 1 0 0,tsV more] h (fun r h'=>(4096 < ts.length + more.length∧r = .b false∧h' = h) ∨
  (ts.length + more.length ≤ 4096∧r = .b true∧h' = (h.set id2 (.arr (g + 1) 3 ((ts ++ more).map T3.cs))).set id (.arr 1 2 [[v,.own id2 (g + 1) 0 (ts ++ more).length]])))
theorem fillV_no (e:Int):Le (.t [.a [.nil,.nil],.i .i64 0,.i .i64 e]) (fillV (noMesh,0,e)) :=
 .inr ⟨_,_,rfl,rfl,.inr ⟨_,_,rfl,rfl,Le0.nil 3,Le0.nil 3,trivial⟩,Le1.refl _,Le1.refl _,trivial⟩
theorem sum_ge:∀ (ls:List (List Int)) (w:List Int),w ∈ ls→w.length ≤ (ls.map List.length).sum
 | [],w,hw=>by simp at hw
 | a :: l,w,hw=>by
   rw [List.map_cons,List.sum_cons]
   rcases List.mem_cons.1 hw with rfl | hw
   ·omega
   ·have:=sum_ge l w hw;omega
theorem sum_len:∀ (ls:List (List Int)),(∀ w ∈ ls,1 ≤ w.length)→ls.length ≤ (ls.map List.length).sum
 | [],_=>by simp
 | a :: l,h=>by
   rw [List.map_cons,List.sum_cons,List.length_cons]
   have:=sum_len l (fun w hw=>h w (by simp [hw]))
   have:=h a (by simp)
   omega
def trK (m:Mesh) (ls:List (List Int)) (k:Nat):List T3:=m.tris ++ (ls.take k).flatMap fanOf
theorem loops_each {m:Mesh} (h:m.loops.2 = 0):∀ w ∈ m.loops.1,w.length ≤ 12288:=by
 intro w hw
 have h1:=loops_sum h
 have h2:=border_len m
 have h3:w.length ≤ (m.loops.1.map List.length).sum:=by
  exact sum_ge _ w hw
 omega
theorem loops_num {m:Mesh} (h:m.loops.2 = 0):m.loops.1.length ≤ 12288:=by
 obtain⟨hz,hs,hls⟩:=loops_ok h
 have h1:=loops_sum h
 have h2:=border_len m
 have hL:=loops_are hz hs
 rw [← hls] at hL
 have:m.loops.1.length ≤ (m.loops.1.map List.length).sum:=by
  have hne:∀ w ∈ m.loops.1,1 ≤ w.length:=fun w hw=>List.length_pos_iff.2 (hL.cyc w hw).1
  exact sum_len _ hne
 omega
theorem fanOf_len (w:List Int):(fanOf w).length = w.length - 2:=by unfold fanOf;exact fanK_len _ _
section
variable {P:Program} (hm:P.follows .mixedOrders = true)
include hm
theorem holes_extend_ok {f:FuncId} (hf:FnOk P f holes_extend.c holes_extend.r holes_extend.n):ExtendC P f:=by
 intro h id id2 g v ts more hne h1 h2 ht hmo
 refine call_keep hm hf (Nat.le_of_ble_eq_true rfl) ?_
 unfold holes_extend.c
 obtain⟨hid2,h2'⟩:=List.getElem?_eq_some_iff.1 h2
 obtain⟨hid,h1'⟩:=List.getElem?_eq_some_iff.1 h1
 have hs1:∀ o:O,(h.set id2 o)[id]? = some (.arr 1 2 [[v,.own id2 g 0 ts.length]]):=fun o=>by rw [List.getElem?_set_ne (fun hh=>hne hh.symm)];exact h1
 have htk:List.take ts.length (ts.map T3.cs) = ts.map T3.cs:=List.take_of_length_le (by simp)
 by_cases hlt:4096 < ts.length + more.length
 ·simp (disch:=omega) [go_sem,h1,h1',h2,h2',tsV,wrap64_small,show (4096:Int) < (ts.length:Int) + more.length by omega,holes_extend.r]
  exact hlt
 ·simp (disch:=omega) [go_sem,h1,h1',h2,h2',hs1,htk,tsV,wrap64_small,show ¬ (4096:Int) < (ts.length:Int) + more.length by omega,holes_extend.r]
  exact⟨⟨by omega,by omega⟩,by omega⟩
set_option maxRecDepth 20000 in
set_option maxHeartbeats 4000000 in
theorem holes_Fill_ok {f fc fl fcv fct ff fe:FuncId} (hf:FnOk P f (holes_Fill.c fc fl fcv fct ff fe) holes_Fill.r holes_Fill.n) (hc:CheckC P fc) (hl:LoopsC P fl) (hcv:CloneC P fcv 3) (hct:CloneC P fct 3) (hff:FanC P ff) (he:ExtendC P fe):FillC P f:=by
 intro m
 by_cases hz:m.check = 0
 case neg =>
  have hlp:m.loops = ([],m.check):=by simp [Mesh.loops,hz]
  have hR:fillR m = (noMesh,0,m.check):=by unfold fillR;rw [hlp,if_neg hz]
  rw [hR]
  refine CallIs.res ?_ (fillV_no _)
  refine PureC.is (pure_of hm hf (Nat.le_of_ble_eq_true rfl) ?_) rfl
  unfold holes_Fill.c
  simp [go_sem,Mesh.enc,Mesh.cs]
  refine ACall_is (hc m) ?_
  simp [go_sem,hz,holes_Fill.r]
 have hl1:=hl m
 by_cases h0:m.loops.2 = 0
 case neg =>
  have hR:fillR m = (noMesh,0,m.loops.2):=by unfold fillR;rw [if_neg h0]
  rw [hR]
  refine CallIs.res ?_ (fillV_no _)
  refine PureC.is (pure_of hm hf (Nat.le_of_ble_eq_true rfl) ?_) rfl
  unfold holes_Fill.c
  simp [go_sem,Mesh.enc,Mesh.cs]
  refine ACall_is (hc m) ?_
  simp [go_sem,hz]
  refine ACall_is hl1 ?_
  simp [go_sem,h0,holes_Fill.r]
 obtain⟨z1,z2,z3,z4⟩:=Mesh.check_zero.1 hz
 have hnum:=loops_num h0
 have heach:=loops_each h0
 have hmain:PureC P f [m.enc] (· = if m.fillM.tris.length ≤ 4096 then fillV (m.fillM,m.loops.1.length,0) else .t [.a [.nil,.nil],.i .i64 0,.i .i64 2]):=by
  refine pure_of hm hf (Nat.le_of_ble_eq_true rfl) ?_
  unfold holes_Fill.c
  rw [h0] at hl1
  have hfm:m.fillM = ⟨m.verts,trK m m.loops.1 m.loops.1.length⟩:=by unfold trK;rw [List.take_length];rfl
  rw [hfm]
  generalize m.loops.1 = ls at *
  have hok:(trK m ls ls.length).length ≤ 4096→(if (trK m ls ls.length).length ≤ 4096 then fillV (⟨m.verts,trK m ls ls.length⟩,(ls.length:Int),0) else V.t [.a [.nil,.nil],.i .i64 0,.i .i64 2]) = fillV (⟨m.verts,trK m ls ls.length⟩,(ls.length:Int),0):=fun h=>if_pos h
  have hno:¬ (trK m ls ls.length).length ≤ 4096→(if (trK m ls ls.length).length ≤ 4096 then fillV (⟨m.verts,trK m ls ls.length⟩,(ls.length:Int),0) else V.t [.a [.nil,.nil],.i .i64 0,.i .i64 2]) = V.t [.a [.nil,.nil],.i .i64 0,.i .i64 2]:=fun h=>if_neg h
  simp only
  generalize (if (trK m ls ls.length).length ≤ 4096 then fillV (⟨m.verts,trK m ls ls.length⟩,(ls.length:Int),0) else V.t [.a [.nil,.nil],.i .i64 0,.i .i64 2]) = RR at *
  simp [go_sem,Mesh.enc,Mesh.cs,vsV,tsV]
  refine ACall_is (hc m) ?_
  simp [go_sem,hz]
  refine ACall_is hl1 ?_
  simp [go_sem]
  refine DCall_new (hcv (m.verts.map V3.cs) (by simp [vcs_isD]) (by simp;omega)) (by simp [V.cl,V.cl1,V.cl0]) ?_
  simp [go_sem]
  refine DCall_new (hct (m.tris.map T3.cs) (by simp [tcs_isD]) (by simp;omega)) (by simp [V.cl,V.cl1,V.cl0]) ?_
  have hsv:∀ (n:Nat) (a:V3),List.map (V.sh1 n) a.cs = a.cs:=fun n a=>by simp [vcs,V.sh1,V.sh0]
  have hst:∀ (n:Nat) (a:T3),List.map (V.sh1 n) a.cs = a.cs:=fun n a=>by simp [tcs,V.sh1,V.sh0]
  simp [go_sem,lsV,hsv,hst]
  refine AS_loop (α:=Nat) (fun k=>k ≤ ls.length∧(trK m ls k).length ≤ 4096)
   (fun k=>⟨[(2,.p 1 1 0 0),(6,lsV ls),(8,.p 4 1 0 0),(33,lsV ls),(34,.i .i64 ls.length),(35,.i .i64 k)],
    [.dead,.arr 1 2 [[.nil,.nil]],.arr 1 3 (m.verts.map V3.cs),.arr (k + 1) 3 ((trK m ls k).map T3.cs),.arr 1 2 [[.own 2 1 0 m.verts.length,.own 3 (k + 1) 0 (trK m ls k).length]]]⟩)
   (fun k=>ls.length - k) 0 ⟨Nat.zero_le _,by simpa [trK] using z2⟩ ?_ ?_
  ·have h00:trK m ls 0 = m.tris:=by simp [trK]
   simp [go_sem,lsV,h00,hsv,hst,v3_cl,t3c_cl]
  ·rintro k ⟨hk,hT⟩
   by_cases hkl:k = ls.length
   ·subst hkl
    rw [hok hT]
    have htkl:List.take (trK m ls ls.length).length ((trK m ls ls.length).map T3.cs) = (trK m ls ls.length).map T3.cs:=List.take_of_length_le (by simp)
    generalize trK m ls ls.length = T at *
    simp [go_sem,lsV,holes_Fill.r,fillV,Mesh.enc,Mesh.cs,vsV,tsV,vcs_isD,tcs_isD]
   ·have hlt:k < ls.length:=by omega
    have hp:ls[k]? = some ls[k]:=List.getElem?_eq_getElem hlt
    have hmw:ls[k] ∈ ls:=List.getElem_mem _
    have htk:=take_succ_get hp
    have hpre:ls.flatMap fanOf = (ls.take k).flatMap fanOf ++ (fanOf ls[k] ++ (ls.drop (k + 1)).flatMap fanOf):=by
     have h1:=List.take_append_drop k ls
     rw [List.drop_eq_getElem_cons hlt] at h1
     have h2:=congrArg (List.flatMap fanOf) h1
     rw [List.flatMap_append,List.flatMap_cons] at h2
     exact h2.symm
    generalize ls[k] = w at hp hmw htk hpre
    obtain⟨_,hp'⟩:=List.getElem?_eq_some_iff.1 hp
    have hwl:=heach w hmw
    have hfl:=fanOf_len w
    have hts:trK m ls (k + 1) = trK m ls k ++ fanOf w:=by
     unfold trK
     rw [htk,List.flatMap_append,← List.append_assoc];simp
    have hov:4096 < (trK m ls k).length + (fanOf w).length→¬ (trK m ls ls.length).length ≤ 4096:=by
     intro hh
     unfold trK at hh ⊢
     rw [List.take_length,hpre]
     simp only [List.length_append] at hh ⊢
     omega
    have hff1:=hff w (by omega)
    generalize hTk:trK m ls k = T at *
    simp [go_sem,lsV,hlt,hp,hp']
    refine ACall_is hff1 ?_
    simp [go_sem]
    refine (he _ 4 3 (k + 1) (.own 2 1 0 m.verts.length) T (fanOf w) (by omega) rfl rfl hT (by omega)).mono ?_
    rintro r h' (⟨q1,rfl,rfl⟩ | ⟨q1,rfl,rfl⟩)
    ·rw [hno (hov q1)]
     simp [go_sem,lsV,holes_Fill.r]
    ·simp (disch:=omega) [go_sem,lsV,wrap64_small]
     refine⟨k + 1,⟨by omega,by rw [hts];simpa using q1⟩,by omega,by simp,?_⟩
     rw [hts]
     simp [or_imp,forall_and,v3_cl,t3c_cl]
 by_cases hT:m.fillM.tris.length ≤ 4096
 ·have hR:fillR m = (m.fillM,(m.loops.1.length:Int),0):=by unfold fillR;rw [if_pos h0,if_pos hT]
  rw [if_pos hT] at hmain
  rw [hR]
  exact PureC.is hmain rfl
 ·have hR:fillR m = (noMesh,0,2):=by unfold fillR;rw [if_pos h0,if_neg hT]
  rw [if_neg hT] at hmain
  rw [hR]
  exact CallIs.res (PureC.is hmain rfl) (fillV_no _)
end
end Go.Abs
set_option linter.unusedVariables false
set_option linter.unusedSimpArgs false
namespace Go.Abs
def HasEC (P:Program) (f:FuncId):Prop:=∀ (l:List P2) (e:P2),l.length ≤ 1000→CallIs P f [psV l,e.enc] (.b (decide (e ∈ l)))
def IdxEC (P:Program) (f:FuncId):Prop:=∀ (l:List P2) (e:P2),l.length ≤ 1000→CallIs P f [psV l,e.enc] (.i .i64 (if e ∈ l then (l.idxOf e:Int) else -1))
structure HB (H:O→O→O→O→O→List O) (n a sa b tb c d q:Nat):Prop where
 len:∃ N,∀ s t u v w,(H s t u v w).length = N
 ga:∀ s t u v w l,(H s t u v w ++ l)[a]? = some (.arr 1 1 [[.own sa 1 0 n]])
 gs:∀ s t u v w l,(H s t u v w ++ l)[sa]? = some s
 gb:∀ s t u v w l,(H s t u v w ++ l)[b]? = some (.arr 1 1 [[.own tb 1 0 n]])
 gt:∀ s t u v w l,(H s t u v w ++ l)[tb]? = some t
 gc:∀ s t u v w l,(H s t u v w ++ l)[c]? = some u
 gd:∀ s t u v w l,(H s t u v w ++ l)[d]? = some v
 gq:∀ s t u v w l,(H s t u v w ++ l)[q]? = some w
 ss:∀ s t u v w l o,(H s t u v w ++ l).set sa o = H o t u v w ++ l
 st:∀ s t u v w l o,(H s t u v w ++ l).set tb o = H s o u v w ++ l
 sc:∀ s t u v w l o,(H s t u v w ++ l).set c o = H s t o v w ++ l
 sd:∀ s t u v w l o,(H s t u v w ++ l).set d o = H s t u o w ++ l
 sq:∀ s t u v w l o,(H s t u v w ++ l).set q o = H s t u v o ++ l
structure OS where
 X:List Int
 us:List T3
 fl:Nat
 g:Nat
 off:Nat
 Q:List Int
def oH (H:O→O→O→O→O→List O) (n q:Nat) (s:OS):List O :=
 H (.arr 1 1 (mk n s.X)) (.arr 1 3 (s.us.map T3.cs)) (.arr 1 1 [[.i .i64 s.fl]]) (.arr 1 1 [[.own q s.g s.off (s.Q.length - s.off)]]) (.arr s.g 1 (ics s.Q))
def OS.visit (s:OS) (k:Nat) (e:P2):OS :=
 if (k:Int) ∈ s.X then s
 else if e ∈ edgesOf (tAt s.us k) then ⟨s.X ++ [(k:Int)],s.us.set k (tAt s.us k).rev,s.fl + 1,s.g + 1,0,s.Q.drop s.off ++ [(k:Int)]⟩
 else ⟨s.X ++ [(k:Int)],s.us,s.fl,s.g + 1,0,s.Q.drop s.off ++ [(k:Int)]⟩
def VisitC (P:Program) (f:FuncId):Prop:=∀ (H:O→O→O→O→O→List O) (n a sa b tb c d q:Nat),HB H n a sa b tb c d q→∀ (s:OS) (l:List O) (k:Nat) (e:P2),s.us.length = n→k < n→n ≤ 4096→s.fl ≤ 4096→s.off ≤ s.Q.length→s.Q.length - s.off ≤ 8192 →
 ACall P f [.i .i64 k,e.enc,.p a 1 0 0,.p b 1 0 0,.p c 1 0 0,.p d 1 0 0] (oH H n q s ++ l) (fun r h'=>r = .t []∧h' = oH H n q (s.visit k e) ++ (l ++ [.arr 1 2 [e.cs]]))
theorem idx_at {l:List P2} {e x:P2} {k:Nat} (hp:l[k]? = some x) (hn:e ∉ l.take k) (h:e = x):e ∈ l∧l.idxOf e = k:=by
 subst h
 have hlt:=(List.getElem?_eq_some_iff.1 hp).1
 refine⟨List.mem_of_getElem? hp,?_⟩
 have h1:=List.take_append_drop k l
 rw [List.drop_eq_getElem_cons hlt,(List.getElem?_eq_some_iff.1 hp).2] at h1
 have h2:(l.take k ++ e :: l.drop (k + 1)).idxOf e = k:=by
  rw [List.idxOf_append,if_neg hn,List.idxOf_cons_self];simp;omega
 rw [h1] at h2
 exact h2
section
variable {P:Program} (hm:P.follows .mixedOrders = true)
include hm
theorem orient_both_ok {f:FuncId} (hf:FnOk P f orient_both.c orient_both.r orient_both.n):UndC P f:=topo_undirected_ok hm hf
set_option maxHeartbeats 4000000 in
theorem slices_IndexE_ok {f:FuncId} (hf:FnOk P f slices_Index_api_Edge_api_Edge.c slices_Index_api_Edge_api_Edge.r slices_Index_api_Edge_api_Edge.n):IdxEC P f:=by
 intro l e hl
 refine PureC.is (pure_of hm hf (Nat.le_of_ble_eq_true rfl) ?_) rfl
 unfold slices_Index_api_Edge_api_Edge.c
 simp [go_sem,psV,P2.enc,P2.cs]
 refine AS_loop (α:=Nat) (fun k=>k ≤ l.length∧e ∉ l.take k)
  (fun k=>⟨[(0,psV l),(3,.p 0 1 0 0),(6,psV l),(7,.i .i64 l.length),(8,.i .i64 k)],[.arr 1 2 [e.cs]]⟩)
  (fun k=>l.length - k) 0 ⟨Nat.zero_le _,by simp⟩ ?_ ?_
 ·simp [go_sem,psV,P2.cs]
 ·rintro k ⟨hk,hn⟩
  by_cases hkl:k = l.length
  ·subst hkl
   rw [List.take_length] at hn
   simp [go_sem,psV,slices_Index_api_Edge_api_Edge.r,hn]
  ·have hlt:k < l.length:=by omega
   have hp:l[k]? = some l[k]:=List.getElem?_eq_getElem hlt
   have htk:=take_succ_get hp
   have hx:=idx_at (e:=e) hp hn
   generalize l[k] = t at hp htk hx
   obtain⟨_,hp'⟩:=List.getElem?_eq_some_iff.1 hp
   simp [go_sem,psV,hlt,hp,hp',pcs]
   refine⟨fun h1 h2=>?_,fun h=>?_⟩
   ·have het:e = t:=p2_ext h1 h2
    have:=hx het
    simp [go_sem,slices_Index_api_Edge_api_Edge.r,this]
   ·have het:¬ e = t:=fun hh=>h (by rw [hh]) (by rw [hh])
    simp (disch:=omega) [go_sem,psV,wrap64_small]
    exact⟨k + 1,⟨by omega,by rw [htk];simp [hn,het]⟩,by omega,by omega⟩
theorem slices_ContainsE_ok {f fi:FuncId} (hf:FnOk P f (slices_Contains_api_Edge_api_Edge.c fi) slices_Contains_api_Edge_api_Edge.r slices_Contains_api_Edge_api_Edge.n) (hi:IdxEC P fi):HasEC P f:=by
 intro l e hl
 refine PureC.is (pure_of hm hf (Nat.le_of_ble_eq_true rfl) ?_) rfl
 unfold slices_Contains_api_Edge_api_Edge.c
 have h1:=hi l e hl
 simp [go_sem,psV,P2.enc,P2.cs] at h1 ⊢
 refine ACall_is h1 ?_
 by_cases h:e ∈ l
 ·simp [go_sem,h,slices_Contains_api_Edge_api_Edge.r]
 ·simp [go_sem,h,slices_Contains_api_Edge_api_Edge.r]
set_option maxHeartbeats 4000000 in
theorem orient_visit_ok {f fe fh fr:FuncId} (hf:FnOk P f (orient_Orient_1.c fe fh fr) orient_Orient_1.r orient_Orient_1.n) (he:EdgesC P fe) (hh:HasEC P fh) (hr:RevTC P fr):VisitC P f:=by
 intro H n a sa b tb c d q hb s l k e hus hk hn hfl hoff hQ
 refine call_keep hm hf (Nat.le_of_ble_eq_true rfl) ?_
 unfold orient_Orient_1.c
 have ga:=hb.ga
 have gs:=hb.gs
 have gb:=hb.gb
 have gt:=hb.gt
 have gc:=hb.gc
 have gd:=hb.gd
 have gq:=hb.gq
 have ss:=hb.ss
 have st:=hb.st
 have sc:=hb.sc
 have sd:=hb.sd
 have sq:=hb.sq
 obtain⟨N,hN⟩:=hb.len
 have gx:∀ s t u v w (o:O),(H s t u v w ++ (l ++ [o]))[N + l.length]? = some o:=fun s t u v w o=>by
  rw [← hN s t u v w,app_get_r,app_get_0];rfl
 clear hb
 have hmg:=mk_get (n:=n) (d:=s.X) (v:=(k:Int)) (by omega) (by omega)
 have hms:=mk_set (n:=n) (d:=s.X) (v:=(k:Int)) (by omega)
 rw [Int.toNat_natCast] at hmg hms
 obtain⟨hml,hmg'⟩:=List.getElem?_eq_some_iff.1 hmg
 have hlen:(edgesOf (tAt s.us k)).length ≤ 3:=edgesK_le _ 3
 have hp:s.us[k]? = some (tAt s.us k):=tAt_get (by omega)
 have hps:∀ t:T3,(s.us.map T3.cs).set k t.cs = (s.us.set k t).map T3.cs:=fun t=>by rw [List.map_set]
 unfold oH OS.visit
 have hic:(ics s.Q).drop s.off = ics (s.Q.drop s.off):=by simp [ics]
 have hil:(ics s.Q).length = s.Q.length:=by simp [ics]
 have htk:(ics (s.Q.drop s.off)).take (s.Q.length - s.off) = ics (s.Q.drop s.off):=List.take_of_length_le (by simp [ics])
 have hsn:∀ Z:List Int,ics (Z ++ [(k:Int)]) = ics Z ++ [[.i .i64 (k:Int)]]:=fun Z=>by simp [ics]
 have hzl:∀ Z:List Int,(Z ++ [(k:Int)]).length = Z.length + 1:=fun Z=>by simp
 have hdl:(s.Q.drop s.off).length = s.Q.length - s.off:=by simp
 obtain⟨X,us,fl,g,off,Q⟩:=s
 simp only at *
 generalize hic2:ics Q = C at *
 generalize hD:Q.drop off = D at *
 by_cases hX:(k:Int) ∈ X
 ·rw [decide_eq_true hX] at hmg hmg'
  simp (disch:=omega) [go_sem,P2.enc,P2.cs,hN,gx,ga,gs,hml,hmg,hmg',hX,orient_Orient_1.r]
  exact⟨hk,by rw [hic2]⟩
 ·rw [decide_eq_false hX] at hmg hmg'
  have he1:=he (tAt us k)
  have hh1:=hh (edgesOf (tAt us k)) e (by omega)
  have hr1:=hr (tAt us k)
  generalize tAt us k = t at *
  obtain⟨hpl,hp'⟩:=List.getElem?_eq_some_iff.1 hp
  simp [go_sem,T3.enc,tcs,P2.enc,P2.cs] at he1 hh1 hr1
  simp (disch:=omega) [go_sem,P2.enc,P2.cs,hN,gx,ga,gs,gb,gt,gc,gd,gq,ss,st,sc,sd,sq,hml,hmg,hmg',hms,hX,hpl,hp,hp',tcs]
  refine⟨hk,?_⟩
  refine DCall_is he1 ?_
  simp [go_sem,hN,gx,ga,gs,gb,gt,gc,gd,gq,ss,st,sc,sd,sq]
  refine DCall_is hh1 ?_
  by_cases hE:e ∈ edgesOf t
  ·simp (disch:=omega) [go_sem,hE,hN,gx,ga,gs,gb,gt,gc,gd,gq,ss,st,sc,sd,sq,hpl,hp,hp',tcs]
   refine⟨hk,?_⟩
   refine DCall_is hr1 ?_
   simp (disch:=omega) [go_sem,hN,gx,ga,gs,gb,gt,gc,gd,gq,ss,st,sc,sd,sq,hpl,hp,hp',tcs,hic,hil,htk,hsn,hzl,hdl,wrap64_small,orient_Orient_1.r]
   exact⟨hk,by omega,by omega⟩
  ·simp (disch:=omega) [go_sem,hE,hN,gx,ga,gs,gb,gt,gc,gd,gq,ss,st,sc,sd,sq,hpl,hp,hp',tcs,hic,hil,htk,hsn,hzl,hdl,wrap64_small,orient_Orient_1.r]
   exact⟨by omega,by omega⟩
end
end Go.Abs
set_option linter.unusedVariables false
set_option linter.unusedSimpArgs false
namespace Go.Abs
def evN (b:Nat) (p:Nat × Nat):V:=.own (p.1 + b) p.2 0 p.2
theorem UM.clN {hx:List O} {KJ:List (P2 × (Nat × Nat))} {Q:List (P2 × Int)} (h:UM hx KJ Q) {N b:Nat} (hN:hx.length + b ≤ N):∀ e ∈ KJ.map (asG P2.enc (evN b)),e.1.cl N = true∧e.2.cl N = true:=by
 intro x hx'
 obtain⟨⟨k,j,n⟩,hm,rfl⟩:=List.mem_map.1 hx'
 obtain⟨i,hi⟩:=List.getElem?_of_mem hm
 have:=(List.getElem?_eq_some_iff.1 (h.val i k j n hi).2).1
 refine⟨?_,?_⟩
 ·simp [asG,P2.enc,P2.cs,V.cl,V.cl1,V.cl0]
 ·simp [asG,evN,V.cl,V.cl1,V.cl0];omega
theorem UM.clN2 {hx:List O} {KJ:List (P2 × (Nat × Nat))} {Q:List (P2 × Int)} (h:UM hx KJ Q) {N b:Nat} (hN:hx.length + b ≤ N):∀ (x y:V) (k:P2) (j n:Nat),(k,j,n) ∈ KJ→asG P2.enc (evN b) (k,j,n) = (x,y)→x.cl N = true∧y.cl N = true:=fun x y k j n hm he=>by
 have:=h.clN hN (asG P2.enc (evN b) (k,j,n)) (List.mem_map.2 ⟨_,hm,rfl⟩)
 rw [he] at this
 exact this
theorem BfI.next' {ts:List T3} {D S:List Int} {i k:Nat} {v:Int} {E:List P2} (h:BfI ts D S i k v E) (hE:∀ a ∈ edgesOf (tAt ts v.toNat),∃ b ∈ E,b.und = a.und):BfK ts D S (k + 1):=fun k' w hk' hw j hj=>by
 by_cases hkk:k' = k
 ·subst hkk
  rw [h.at_] at hw
  obtain rfl:=Option.some.inj hw
  obtain⟨e,he,hm⟩:=(adj_us hj.lt.1).1 hj
  obtain⟨b,hb,hbe⟩:=hE e he
  exact h.ed b hb _ (by rw [hbe];exact hm)
 ·exact h.bk k' w (by omega) hw j hj
structure Wk (ts:List T3) (L D S:List Int) (k:Nat) (s:OS):Prop where
 x:s.X = D ++ S
 len:s.us.length = ts.length
 ori:OrI ts s.us L s.X s.fl
 q:s.Q.drop s.off = S.drop k
 off:s.off ≤ s.Q.length
theorem Wk.ql {ts:List T3} {L D S:List Int} {k:Nat} {s:OS} (w:Wk ts L D S k s):s.Q.length - s.off = S.length - k:=by
 have:=congrArg List.length w.q
 simpa using this
theorem Wk.top {ts:List T3} {L D:List Int} {s:OS} (w:Wk ts L D [] 0 s) {i:Nat} (hi:i < ts.length) (hLi:L[i]? = some (i:Int)) (hn:(i:Int) ∉ D):Wk ts L D [(i:Int)] 0 (s.visit i ⟨-1,-1⟩):=by
 have hx:s.X = D:=by rw [w.x];simp
 have hne:(⟨-1,-1⟩:P2) ∉ edgesOf (tAt s.us i):=fun h=>absurd rfl (edgesOf_ne h)
 unfold OS.visit
 rw [if_neg (by rw [hx];exact hn),if_neg hne]
 have hq:=w.q
 simp only [List.drop_nil] at hq
 refine⟨by simp only [hx],w.len,w.ori.top hi (by rw [hx];exact hn) hLi,by simp [hq],by simp⟩
theorem Wk.same {ts:List T3} {L D S:List Int} {k:Nat} {s:OS} (w:Wk ts L D S k s) {j:Nat} {e:P2} (h:(j:Int) ∈ D ++ S):s.visit j e = s:=by
 unfold OS.visit;rw [if_pos (by rw [w.x];exact h)]
theorem Wk.pop {ts:List T3} {L D S:List Int} {k:Nat} {s:OS} (w:Wk ts L D S k s) {v:Int} (h:S[k]? = some v):Wk ts L D S (k + 1) { s with off:=s.off + 1 }∧s.Q[s.off]? = some v:=by
 have hk:=(List.getElem?_eq_some_iff.1 h).1
 have hql:=w.ql
 refine⟨⟨w.x,w.len,w.ori,?_,by show s.off + 1 ≤ s.Q.length;omega⟩,?_⟩
 ·have:=congrArg (List.drop 1) w.q
  rw [List.drop_drop,List.drop_drop] at this
  exact this
 ·have:(s.Q.drop s.off)[0]? = (S.drop k)[0]?:=by rw [w.q]
  rw [List.getElem?_drop,List.getElem?_drop] at this
  simp only [Nat.add_zero] at this
  rw [this];exact h
theorem Wk.visit {ts:List T3} {L D S:List Int} {i k:Nat} {v:Int} {E:List P2} {s:OS} (hL:IsLab ts L) (hLi:L[i]? = some (i:Int)) (w:Wk ts L D S (k + 1) s) (hI:BfI ts D S i k v E) {j:Nat} (hj:j < ts.length) (hadj:adjI ts v.toNat j)
  {e b:P2} (he:e ∈ edgesOf (tAt s.us v.toNat)) (hb:b ∈ edgesOf (tAt ts j)) (hbe:b.und = e.und) (hn:(j:Int) ∉ D ++ S) :
  Wk ts L D (S ++ [(j:Int)]) (k + 1) (s.visit j e)∧tAt (s.visit j e).us v.toNat = tAt s.us v.toNat:=by
 obtain⟨v0,vc⟩:=hI.part.mem v (List.mem_of_getElem? hI.at_)
 have hvl:=vc.lt.2
 have hk:=(List.getElem?_eq_some_iff.1 hI.at_).1
 have hvX:((v.toNat:Nat):Int) ∈ s.X:=by
  rw [w.x,Int.toNat_of_nonneg v0]
  exact List.mem_append.2 (.inr (List.mem_of_getElem? hI.at_))
 have hnX:(j:Int) ∉ s.X:=by rw [w.x];exact hn
 have hLj:L[j]? ≠ some (j:Int):=by
  intro hh
  have h1:=hL.conn (vc.trans (.tail (.refl hvl) hadj))
  rw [hLi,hh] at h1
  have h2:=Option.some.inj h1
  apply hn
  rw [← h2]
  exact List.mem_append.2 (.inr hI.part.start)
 have hvj:v.toNat ≠ j:=by
  rintro rfl
  exact hnX hvX
 have hdr:S.drop (k + 1) ++ [(j:Int)] = (S ++ [(j:Int)]).drop (k + 1):=by rw [List.drop_append_of_le_length (by omega)]
 unfold OS.visit
 rw [if_neg hnX]
 by_cases hE:e ∈ edgesOf (tAt s.us j)
 ·rw [if_pos hE]
  refine⟨⟨by simp only [w.x,List.append_assoc],by simp only [List.length_set,w.len],w.ori.turn hvl hj hvX hnX hLj he hE,by simp only [List.drop_zero,w.q,hdr],by simp⟩,?_⟩
  simp only
  rw [tAt_set (by rw [w.len];exact hj),if_neg hvj]
 ·rw [if_neg hE]
  exact⟨⟨by simp only [w.x,List.append_assoc],w.len,w.ori.keep hvl hj hvX hnX he hE hb hbe,by simp only [List.drop_zero,w.q,hdr],by simp⟩,rfl⟩
theorem Old.xlen {ts:List T3} {L D:List Int} {i:Nat} (h:Old ts L D i):D.length ≤ ts.length:=by
 have h2:=nodup_len (B:=(List.range ts.length).map fun (j:Nat)=>(j:Int)) h.nodup fun v hv=>by
  obtain⟨j,rfl,hj,_⟩:=(h.iff v).1 hv
  exact List.mem_map.2 ⟨j,List.mem_range.2 hj,rfl⟩
 simpa using h2
theorem Part.xlen {ts:List T3} {L D S:List Int} {i:Nat} (hD:Old ts L D i) (h:Part ts D S i):(D ++ S).length ≤ ts.length:=by
 have h2:=nodup_len (B:=(List.range ts.length).map fun (j:Nat)=>(j:Int)) h.nodup fun v hv=>by
  rcases List.mem_append.1 hv with hv | hv
  ·obtain⟨j,rfl,hj,_⟩:=(hD.iff v).1 hv
   exact List.mem_map.2 ⟨j,List.mem_range.2 hj,rfl⟩
  ·obtain⟨h0,hc⟩:=h.mem v hv
   exact List.mem_map.2 ⟨v.toNat,List.mem_range.2 hc.lt.2,by omega⟩
 simpa using h2
theorem Old.all {ts:List T3} {L D:List Int} (hL:IsLab ts L) (h:Old ts L D ts.length) (i:Nat) (hi:i < ts.length):(i:Int) ∈ D:=by
 have hv:L[i]? = some (L[i]'(by rw [hL.len];exact hi)):=List.getElem?_eq_getElem _
 generalize L[i]'(by rw [hL.len];exact hi) = v at hv
 have h1:=(hL.con i v hv).2.1
 exact (h.iff _).2 ⟨i,rfl,hi,v,hv,by omega⟩
end Go.Abs
