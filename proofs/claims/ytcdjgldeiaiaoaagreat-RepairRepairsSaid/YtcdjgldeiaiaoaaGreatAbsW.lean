/- Part of the library on which the proof stands: an abstract machine, its values and its soundness against the model; or what functions of the program do to such values. -/
import Derived.Test.YtcdjgldeiaiaoaaGreatAbsT
set_option linter.unusedVariables false
set_option linter.unusedSimpArgs false
namespace Go.Abs
open Go.RowKit
attribute [go_sem] Lk_n Lk_e Lk_r Done_n Done_r Done_e resV Yf frz Xm Zu Yh List.mapM_cons List.mapM_nil Option.bind_eq_bind Option.pure_def WeakH O.cl Zf
 AS_skip AS_reg AS_drw AS_seq AS_ite AS_blk AS_exit AS_ret Sq_n Sq_e Sq_r Bk_n Bk_r Bk_e AO_nil AO_cons AO_guard Nx_mk Nx_no AD_nil AD_cons AD_guard AD_cons0 AD_guard0 Ax_mk Ax_no Ax0_mk Ax0_no Sx_call Sx_callv Gq_ot Gq_of chk_nil0 putD_some putD_none
 Opt_some Opt_none Opt_ite Branch_t Branch_f Branch_d Branch_b St1_call   Gq_u Gq_sel_t Gq_sel_f Gq_sen_t Gq_sen_f Gdn_true Gdn_false Gdn_some Gdn_ite sen_true sen_false pk_true pk_false pk_or pk_and pk_or_sen pk_and_sel Gq_tt Gq_ff Gq_tf Gq_ft Gd_true Gd_false Gd_some Gd_ite sel_true sel_false b_ite_false b_ite_true b_ite_false' b_ite_true'
attribute [go_sem]
 St1_mv St1_pick St1_ld St1_st St1_alloc St1_box St1_fa St1_ia St1_ix St1_bin St1_eqa St1_un St1_len St1_mx St1_mn St1_build
 St1_bsi St1_bso St1_mks St1_app St1_copy St1_slc St1_ext St1_nck St1_mkf St1_mkm St1_lk St1_mup St1_ment St1_est St1_mrng St1_men St1_mnx St1_isn St1_callv Isn_nil Isn_l0 Isn_l1 stepI_mrng
attribute [go_sem]
 Gq_t_mv Gq_t_pick Gq_t_ld Gq_t_st Gq_t_alloc Gq_t_box Gq_t_fa Gq_t_ia Gq_t_ix Gq_t_bin Gq_t_eqa Gq_t_un Gq_t_len
 Gq_t_mx Gq_t_mn Gq_t_build Gq_t_bsi Gq_t_bso Gq_t_mks Gq_t_app Gq_t_copy Gq_t_slc Gq_t_ext Gq_t_nck Gq_t_mkf Gq_t_mkm Gq_t_lk Gq_t_mup Gq_t_ment Gq_t_est Gq_f_mv
 Gq_f_pick Gq_f_ld Gq_f_st Gq_f_alloc Gq_f_box Gq_f_fa Gq_f_ia Gq_f_ix Gq_f_bin Gq_f_eqa Gq_f_un Gq_f_len Gq_f_mx
 Gq_f_mn Gq_f_build Gq_f_bsi Gq_f_bso Gq_f_mks Gq_f_app Gq_f_copy Gq_f_slc Gq_f_ext Gq_f_nck Gq_f_mkf Gq_f_mkm Gq_f_lk Gq_f_mup Gq_f_ment Gq_f_est
attribute [go_sem]
 stepI_mv stepI_pick stepI_ld stepI_st stepI_alloc stepI_box stepI_fa stepI_ia stepI_ix stepI_bin stepI_eqa stepI_un
 stepI_len stepI_mx stepI_mn stepI_build stepI_bsi stepI_bso stepI_mks stepI_app stepI_copy stepI_slc stepI_ext stepI_nck stepI_mkf stepI_mkm stepI_lk
 stepI_mup stepI_ment stepI_est ev_t ev_c get_nil get_cons put_nil put_cons V_cells_any V_okA_any V_isD_any V_isCap_any idx_any V_cl0_any V_cl1_any V_cl_any V_cells_b V_okA_b
 V_isD_b V_isCap_b idx_b V_cl0_b V_cl1_b V_cl_b V_cells_i V_okA_i V_isD_i V_isCap_i idx_i V_cl0_i V_cl1_i V_cl_i V_cells_s V_okA_s V_isD_s V_isCap_s idx_s V_cl0_s V_cl1_s V_cl_s
 V_cells_nil V_okA_nil V_isD_nil V_isCap_nil idx_nil V_cl0_nil V_cl1_nil V_cl_nil V_cells_l V_okA_l V_isD_l V_isCap_l idx_l V_cl0_l V_cl1_l V_cl_l V_cells_own V_okA_own V_isD_own
 V_isCap_own idx_own V_cl0_own V_cl1_own V_cl_own V_cells_p V_okA_p V_isD_p V_isCap_p idx_p V_cl0_p V_cl1_p V_cl_p V_cells_ip V_okA_ip V_isD_ip V_isCap_ip idx_ip V_cl0_ip V_cl1_ip
 V_cl_ip V_cells_np V_okA_np V_isD_np V_isCap_np idx_np V_cl0_np V_cl1_np V_cl_np V_cells_mp V_okA_mp V_isD_mp V_isCap_mp idx_mp V_cl0_mp V_cl1_mp V_cl_mp V_cells_mnil V_okA_mnil
 V_isD_mnil V_isCap_mnil idx_mnil V_cl0_mnil V_cl1_mnil V_cl_mnil V_cells_f V_okA_f V_isD_f V_isCap_f idx_f V_cl0_f V_cl1_f V_cl_f V_cells_a V_okA_a V_isD_a V_isCap_a idx_a V_cl0_a
 V_cl1_a V_cl_a V_cells_t V_okA_t V_isD_t V_isCap_t idx_t V_cl0_t V_cl1_t V_cl_t cellsAt_ip cellsAt_p pickN_none pickN_some elsOf_nil elsOf_l elsOf_own binV_i binV_s arith_add
 arith_sub arith_mul arith_quo arith_rem arith_and arith_or arith_xor arith_eql arith_neq arith_lss arith_leq arith_gtr arith_geq shiftV_shl shiftV_shr strV_add strV_eql strV_neq
 strV_lss strV_leq strV_gtr strV_geq unV_not unV_neg
attribute [go_sem] List.map_cons List.map_nil Option.map_some Option.map_none Option.bind_some Option.bind_none
 List.getElem?_cons_zero List.getElem?_cons_succ List.getElem?_nil List.cons_append List.nil_append List.append_nil List.length_cons List.length_nil Nat.zero_add
 reduceCtorEq if_true if_false ite_true ite_false Nat.succ_ne_zero Jq
 true_and and_true false_and and_false false_or or_false true_or or_true not_true_eq_false not_false_eq_true Bool.not_true Bool.not_false List.drop_zero List.drop_succ_cons List.drop_nil List.head?_cons List.head?_nil List.take_zero List.take_succ_cons List.take_nil Nat.le_refl Nat.lt_irrefl Nat.not_lt_zero Nat.zero_le implies_true forall_const
 List.set_cons_zero List.set_cons_succ
attribute [go_sem] Kj minGo Ie Jl bnd Ze Bt
attribute [go_sem]
 newOk_mrng foot_mrng newOk_mv foot_mv newOk_pick foot_pick
 newOk_ld foot_ld newOk_st foot_st newOk_alloc foot_alloc newOk_box foot_box
 newOk_fa foot_fa newOk_ia foot_ia
 newOk_ix foot_ix newOk_bin foot_bin
 newOk_eqa foot_eqa newOk_un foot_un
 newOk_len foot_len newOk_mx foot_mx newOk_mn foot_mn
 newOk_build foot_build newOk_bsi foot_bsi newOk_bso foot_bso newOk_mks foot_mks
 newOk_app foot_app newOk_copy foot_copy newOk_slc foot_slc
 newOk_ext foot_ext newOk_nck foot_nck newOk_mkf foot_mkf
 newOk_mkm foot_mkm newOk_lk foot_lk newOk_mup foot_mup newOk_ment foot_ment
 newOk_est foot_est newOk_isn foot_isn newOk_call newOk_callv ids0_any ids1_any ids2_any ids0_b
 ids1_b ids2_b ids0_i ids1_i ids2_i ids0_s ids1_s ids2_s ids0_nil ids1_nil ids2_nil ids0_l
 ids1_l ids2_l ids0_own ids1_own ids2_own ids0_p ids1_p ids2_p ids0_ip ids1_ip ids2_ip ids0_np
 ids1_np ids2_np ids0_mp ids1_mp ids2_mp ids0_mnil ids1_mnil ids2_mnil ids0_f ids1_f ids2_f ids0_a
 ids1_a ids2_a ids0_t ids1_t ids2_t
attribute [go_sem]
 Sx_mrng Sg_mrng Sx_mv Sg_mv Sx_pick Sg_pick Sx_ld Sg_ld Sx_st Sg_st
 Sx_alloc Sg_alloc Sx_box Sg_box Sx_fa Sg_fa Sx_ia Sg_ia
 Sx_ix Sg_ix Sx_bin Sg_bin Sx_eqa Sg_eqa Sx_un Sg_un
 Sx_len Sg_len Sx_mx Sg_mx Sx_mn Sg_mn
 Sx_build Sg_build Sx_bsi Sg_bsi Sx_bso Sg_bso Sx_mks Sg_mks Sx_app Sg_app
 Sx_copy Sg_copy Sx_slc Sg_slc Sx_ext Sg_ext Sx_nck Sg_nck Sx_mkf Sg_mkf
 Sx_mkm Sg_mkm Sx_lk Sg_lk Sx_mup Sg_mup Sx_ment Sg_ment Sx_est Sg_est Sx_isn Sg_isn
attribute [go_sem] chk okPair Dis V.empt List.headD_cons List.headD_nil List.tail_cons List.tail_nil List.flatMap_cons List.flatMap_nil List.drop_left' List.drop_left
attribute [go_sem] chunk_zero chunk_succ
attribute [go_sem] stepI_men
attribute [go_sem] ghosts_nil ghosts_cons ghost1_t ghost1_c Option.bind_some Option.some.injEq exists_eq_left' exists_eq_left
end Go.Abs
set_option linter.unusedVariables false
set_option linter.unusedSimpArgs false
namespace Go.Abs
open Go.RowKit
def V.sh0 (n:Nat):V->V
 | .own id g off len=>.own (n+id) g off len
 | .p id g e j=>.p (n+id) g e j
 | .mp id=>.mp (n+id)
 | v=>v
def V.sh1 (n:Nat):V->V
 | .f fn caps=>.f fn (caps.map (V.sh0 n))
 | v=>v.sh0 n
def V.sh2 (n:Nat):V->V
 | .a cs=>.a (cs.map (V.sh1 n))
 | v=>v.sh1 n
def V.sh (n:Nat):V->V
 | .t vs=>.t (vs.map (V.sh2 n))
 | v=>v.sh2 n
def O.sh (n:Nat):O->O
 | .arr g sz els=>.arr g sz (els.map λel=>el.map (V.sh1 n))
 | .mp es=>.mp (es.map λe=>(e.1.sh2 n,e.2.sh2 n))
 | .md es=>.md (es.map λe=>(e.1.sh2 n,e.2.sh2 n))
 | .it mid since seen=>.it (mid.map (n+·)) since seen
 | .dead=>.dead
section
variable {P:Program} {J:Nat->Prop} {m:List Ent} {w:World} {h:List O}
theorem Pw.map_sh {R R':V->Value->Prop} {f:V->V} (hR:∀v c,R v c->R' (f v) c) {vs:List V} {cs:List Value} (hp:Pw R vs cs):Pw R' (vs.map f) cs:=by
 refine⟨by rw[List.length_map,hp.1],λi v c h1 h2=>?_⟩
 rw[List.getElem?_map,Option.map_eq_some_iff]at h1
 obtain⟨u,hu,rfl⟩:=h1
 exact hR u c (hp.2 i u c hu h2)
theorem ent_sh {ma mb:List Ent} {id:Nat} {e:Ent} (he:mb[id]?=some e):(ma++mb)[ma.length+id]?=some e:=by
 rw[List.getElem?_append_right (Nat.le_add_right _ _),Nat.add_sub_cancel_left];exact he
theorem RL.sh (ma:List Ent) {v:V} {c:Value} (hv:RL J m w v c):RL J (ma++m) w (v.sh0 ma.length) c:=by
 cases v<;>simp only[V.sh0,RL]at hv ⊢
 case own=>obtain⟨h0,e,h1,h2⟩:=hv;exact⟨h0,e,ent_sh h1,h2⟩
 case p=>obtain⟨h0,e,h1,h2⟩:=hv;exact⟨h0,e,ent_sh h1,h2⟩
 case mp=>obtain⟨h0,e,h1,h2⟩:=hv;exact⟨h0,e,ent_sh h1,h2⟩
 all_goals exact hv
theorem RC.sh (ma:List Ent) {v:V} {c:Value} (hv:RC J m w v c):RC J (ma++m) w (v.sh1 ma.length) c:=by
 cases v
 case f fn caps =>
  obtain⟨cs,h1,h2⟩:=hv
  exact⟨cs,h1,h2.map_sh λ_ _ h=>RL.sh ma h⟩
 all_goals
  simp only[RC]at hv
  exact RL.sh (w:=w) ma hv
theorem RA.sh (ma:List Ent) {v:V} {c:Value} (hv:RA J m w v c):RA J (ma++m) w (v.sh2 ma.length) c:=by
 cases v
 case any=>trivial
 case a cs =>
  obtain⟨arr,h1,h2⟩:=hv
  exact⟨arr,h1,h2.map_sh λ_ _ h=>RC.sh ma h⟩
 all_goals
  simp only[RA]at hv
  exact RC.sh (w:=w) ma hv
theorem RV.sh (ma:List Ent) {v:V} {c:Value} (hv:RV J m w v c):RV J (ma++m) w (v.sh ma.length) c:=by
 cases v
 case t vs =>
  obtain⟨arr,h1,h2⟩:=hv
  exact⟨arr,h1,h2.map_sh λ_ _ h=>RA.sh ma h⟩
 all_goals
  simp only[RV]at hv
  exact RA.sh (w:=w) ma hv
theorem RO.sh (ma:List Ent) {e:Ent} {o:O} (hv:RO J m w e o):RO J (ma++m) w e (o.sh ma.length):=by
 cases o with
 | dead=>trivial
 | mp es =>
   obtain⟨h1,B,h2,es',h3,h4,h5⟩:=hv
   refine⟨h1,B,h2,es',h3,by simp[h4],λi k v hi=>?_⟩
   rw[List.getElem?_map,Option.map_eq_some_iff]at hi
   obtain⟨⟨k0,v0⟩,hu,hkv⟩:=hi
   simp only[Prod.mk.injEq]at hkv
   obtain⟨rfl,rfl⟩:=hkv
   obtain⟨en,h6,h7,h8,h9⟩:=h5 i k0 v0 hu
   exact⟨en,h6,h7,RA.sh ma h8,RA.sh ma h9⟩
 | md es =>
   obtain⟨h1,B,h2,es',c,h3,h4,h5⟩:=hv
   refine⟨h1,B,h2,es',c,h3,by simp[h4],λi k v hi=>?_⟩
   rw[List.getElem?_map,Option.map_eq_some_iff]at hi
   obtain⟨⟨k0,v0⟩,hu,hkv⟩:=hi
   simp only[Prod.mk.injEq]at hkv
   obtain⟨rfl,rfl⟩:=hkv
   obtain⟨en,h6,h8,h9⟩:=h5 i k0 v0 hu
   exact⟨en,h6,RA.sh ma h8,RA.sh ma h9⟩
 | it mid since seen =>
   obtain⟨h1,h2,h3,B,h4,mb,h5,h6⟩:=hv
   refine⟨h1,h2,h3,B,h4,mb,h5,?_⟩
   cases mid with
   | none=>exact h6
   | some i =>
     obtain⟨e',h7,h8⟩:=h6
     exact⟨e',ent_sh h7,h8⟩
 | arr g sz els =>
   obtain⟨h1,h2,h3,h4⟩:=hv
   refine⟨h1,h2,λi el hi=>?_,?_⟩
   ·rw[List.getElem?_map,Option.map_eq_some_iff]at hi
    obtain⟨u,hu,rfl⟩:=hi
    rw[List.length_map];exact h3 i u hu
   ·cases hb:e.blk with
    | none =>
      rw[hb]at h4
      obtain⟨rfl,h5⟩:=h4
      exact⟨rfl,h5⟩
    | some B =>
      rw[hb]at h4
      obtain⟨h5,h6,c,ty,fz,h7,h8,h9,h10⟩:=h4
      refine⟨by simpa using h5,h6,c,ty,fz,h7,h8,h9,λi el j x hi hj=>?_⟩
      rw[List.getElem?_map,Option.map_eq_some_iff]at hi
      obtain⟨u,hu,rfl⟩:=hi
      rw[List.getElem?_map,Option.map_eq_some_iff]at hj
      obtain⟨y,hy,rfl⟩:=hj
      obtain⟨cv,h11,h12⟩:=h10 i u j y hu hy
      exact⟨cv,h11,RC.sh ma h12⟩
theorem RS.join {m0:List Ent} {h0:List O} (hr:RS J h m w) (hr0:RS J h0 m0 w) (hd:∀(id id':Nat) (e e':Ent) (B:Nat),m[id]?=some e->m0[id']?=some e'->e.blk=some B->e'.blk≠some B) :
  RS J (h++h0.map (O.sh h.length)) (m++m0) w:=by
 have hcase:∀(id:Nat) (e:Ent),(m++m0)[id]?=some e->m[id]?=some e∨(m.length<=id/\m0[id-m.length]?=some e):=by
  intro id e he
  by_cases hlt:id<m.length
  ·rw[List.getElem?_append_left hlt]at he;exact .inl he
  ·rw[List.getElem?_append_right (by omega)]at he;exact .inr ⟨by omega,he⟩
 refine⟨by simp[hr.len,hr0.len],hr.jlt,λid e B he hb=>?_,λid id' e e' B he he' hb hb'=>?_,λid e o he ho=>?_⟩
 ·rcases hcase id e he with h1 | ⟨_,h1⟩
  ·exact hr.dis id e B h1 hb
  ·exact hr0.dis _ e B h1 hb
 ·rcases hcase id e he with h1 | ⟨g1,h1⟩<;>rcases hcase id' e' he' with h2 | ⟨g2,h2⟩
  ·exact hr.inj id id' e e' B h1 h2 hb hb'
  ·exact absurd hb' (hd _ _ e e' B h1 h2 hb)
  ·exact absurd hb (hd _ _ e' e B h2 h1 hb')
  ·have:=hr0.inj _ _ e e' B h1 h2 hb hb';omega
 ·by_cases hlt:id<m.length
  ·rw[List.getElem?_append_left hlt]at he
   rw[List.getElem?_append_left (by rw[<- hr.len];exact hlt)]at ho
   have:=hr.obj id e o he ho
   exact RO.mono (λ_ h=>h) (λ_ _=>rfl) (Ml.app m m0) (λ_ _=>rfl) this
  ·rw[List.getElem?_append_right (by omega)]at he
   rw[List.getElem?_append_right (by rw[<- hr.len];omega),List.getElem?_map,Option.map_eq_some_iff]at ho
   obtain⟨o0,ho0,rfl⟩:=ho
   rw[<- hr.len]at ho0 ⊢
   exact(hr0.obj _ e o0 he ho0).sh m
def NewC (P:Program) (f:FuncId) (vs:List V) (R:V->List O->Prop):Prop:=ACall P f vs [] R
theorem Ev.join {n:Nat} {J J':Nat->Prop} {m0:List Ent} {w':World} (hev:Ev n J m w J' m w') (hf:∀(id:Nat) (e:Ent) (B:Nat),m0[id]?=some e->e.blk=some B->w.heap.size<=B):Ev n J m w J' (m++m0) w' where
 os:=hev.os
 tape:=hev.tape
 output:=hev.output
 drawn:=hev.drawn
 size:=hev.size
 keep:=hev.keep
 fresh:=λid e B he hb=>by
  by_cases hlt:id<m.length
  ·rw[List.getElem?_append_left hlt]at he;exact hev.fresh id e B he hb
  ·rw[List.getElem?_append_right (by omega)]at he;exact .inl (hf _ e B he hb)
 sub:=hev.sub
 jnew:=hev.jnew
 ents:=λid e _ he=>Ml.app m m0 id e he
theorem NewC.lift {f:FuncId} {vs:List V} {R:V->List O->Prop} (hp:NewC P f vs R) (hcl:vs.all (V.cl 0)=true) (h:List O) :
  ACall P f vs h (λr h'=>∃r0 h0,R r0 h0/\r=r0.sh h.length/\h'=h++h0.map (O.sh h.length)):=by
 intro J m w cargs hr hpw
 have hpw0:Pw (RV J [] w) vs cargs:=⟨hpw.1,λi v c hv hc=>by
  have:=clV_ok (n:=0) (List.all_eq_true.1 hcl v (List.mem_of_getElem? hv)) (hpw.2 i v c hv hc)
  simpa using this⟩
 refine (hp J [] w cargs ⟨rfl,hr.jlt,by simp,by simp,by simp⟩ hpw0).mono ?_
 rintro e w' ⟨v,r,h0,J',m0,rfl,hR,hv,hrs,hev,_⟩
 have hkeep:∀k,k<w.heap.size->w'.heap[k]?=w.heap[k]?:=λk hk=>(hev 0).keep k hk (by simp)
 have hjn:∀k,J' k->J k∨w.heap.size<=k:=λk hk=>by
  rcases (hev 0).jnew k hk with h1 | h1 | ⟨_,_,h1,_⟩
  ·exact .inl h1
  ·exact .inr h1
  ·simp at h1
 have hfr:∀(id:Nat) (e:Ent) (B:Nat),m0[id]?=some e->e.blk=some B->w.heap.size<=B:=λid e B h1 h2=>by
  rcases (hev 0).fresh id e B h1 h2 with h3 | ⟨_,_,h3,_⟩
  ·exact h3
  ·simp at h3
 have hr':RS J' h m w':=RS.same hr (hev 0).sub hjn hrs.jlt hkeep (hev 0).size
 have hj:=RS.join hr' hrs (λid id' e e' B h1 h2 h3 h4=>by
  have h5:=(hr.dis id e B h1 h3).2
  have h6:=hfr id' e' B h2 h4
  omega)
 have hl:=hr.len
 exact⟨v,r.sh h.length,_,J',m++m0,rfl,⟨r,h0,hR,rfl,rfl⟩,by rw[<- hl];exact RV.sh m hv,hj,
  λn=>Ev.join (Ev.same (hev 0).sub hjn hkeep (hev 0).size (hev 0).os (hev 0).tape (hev 0).output (hev 0).drawn) hfr,Ml.app m m0⟩
def V.sc1:V->Bool
 | .any | .b _ | .i _ _ | .s _ | .own _ _ _ _ | .p _ _ _ _ | .np | .mp _ | .mnil | .nil=>true
 | _=>false
def V.sc2:V->Bool
 | .a cs=>cs.all V.sc1
 | v=>v.sc1
def V.sc:V->Bool
 | .t vs=>vs.all V.sc2
 | v=>v.sc2
def O.sc:O->Bool
 | .arr _ _ els=>els.all λel=>el.all V.sc1
 | .mp es=>es.all λe=>e.1.sc2 && e.2.sc2
 | .md es=>es.all λe=>e.1.sc2 && e.2.sc2
 | .it _ _ _=>true
 | .dead=>true
theorem RD.nil_any {J':Nat->Prop} {w':World} {c:Value} (hv:RD J w .nil c):RD J' w' .nil c:=by
 cases hv with
 | nil0=>exact .nil0
 | nil1 a=>exact .nil1 a
theorem sc1_ok {J':Nat->Prop} {v:V} {c:Value} (hs:v.sc1=true) (hv:RC J m w v c):RC J' m w v c:=by
 cases v<;>simp[V.sc1]at hs
 case b x=>have:=Y9 (Qi hv);subst this;exact Qn (.b x)
 case i k n=>have:=Zd (Qi hv);subst this;exact Qn (.i k n)
 case s x=>have:=X3 (Qi hv);subst this;exact Qn (.s x)
 case nil=>exact RD.nil_any (J:=J) (w:=w) hv
 all_goals exact hv
theorem sc2_ok {J':Nat->Prop} {v:V} {c:Value} (hs:v.sc2=true) (hv:RA J m w v c):RA J' m w v c:=by
 cases v
 case any=>trivial
 case a cs =>
  obtain⟨arr,rfl,hp⟩:=hv
  exact⟨arr,rfl,hp.1,λi v c hi hc=>sc1_ok (List.all_eq_true.1 hs v (List.mem_of_getElem? hi)) (hp.2 i v c hi hc)⟩
 all_goals first
  | (simp[V.sc2,V.sc1]at hs;done)
  | exact Qr (sc1_ok (J:=J) hs hv)
theorem sc_ok {J':Nat->Prop} {v:V} {c:Value} (hs:v.sc=true) (hv:RV J m w v c):RV J' m w v c:=by
 cases v
 case t vs =>
  obtain⟨arr,rfl,hp⟩:=hv
  exact⟨arr,rfl,hp.1,λi v c hi hc=>sc2_ok (List.all_eq_true.1 hs v (List.mem_of_getElem? hi)) (hp.2 i v c hi hc)⟩
 all_goals exact Qx (sc2_ok (J:=J) hs hv)
theorem O.sc_ok {J':Nat->Prop} {e:Ent} {o:O} (hs:o.sc=true) (hv:RO J m w e o):RO J' m w e o:=by
 cases o with
 | dead=>trivial
 | it mid since seen=>exact hv
 | mp es =>
   obtain⟨h1,B,h2,es',h3,h4,h5⟩:=hv
   refine⟨h1,B,h2,es',h3,h4,λi k v hi=>?_⟩
   obtain⟨en,h6,h7,h8,h9⟩:=h5 i k v hi
   have:=List.all_eq_true.1 hs (k,v) (List.mem_of_getElem? hi)
   simp only[Bool.and_eq_true]at this
   exact⟨en,h6,h7,sc2_ok this.1 h8,sc2_ok this.2 h9⟩
 | md es =>
   obtain⟨h1,B,h2,es',c,h3,h4,h5⟩:=hv
   refine⟨h1,B,h2,es',c,h3,h4,λi k v hi=>?_⟩
   obtain⟨en,h6,h8,h9⟩:=h5 i k v hi
   have:=List.all_eq_true.1 hs (k,v) (List.mem_of_getElem? hi)
   simp only[Bool.and_eq_true]at this
   exact⟨en,h6,sc2_ok this.1 h8,sc2_ok this.2 h9⟩
 | arr g sz els =>
   obtain⟨h1,h2,h3,h4⟩:=hv
   refine⟨h1,h2,h3,?_⟩
   cases hb:e.blk with
   | none=>rw[hb]at h4;exact h4
   | some B =>
     rw[hb]at h4
     obtain⟨h5,h6,c,ty,fz,h7,h8,h9,h10⟩:=h4
     refine⟨h5,h6,c,ty,fz,h7,h8,h9,λi el j x hi hj=>?_⟩
     obtain⟨cv,h11,h12⟩:=h10 i el j x hi hj
     have:=List.all_eq_true.1 (List.all_eq_true.1 hs el (List.mem_of_getElem? hi)) x (List.mem_of_getElem? hj)
     exact⟨cv,h11,sc1_ok this h12⟩
theorem NewC.lend {f:FuncId} {vs us:List V} {R:V->List O->Prop} {h:List O} (hu:Zu h us=some vs) (hp:NewC P f vs R) (hsc:∀r h0,R r h0->r.sc=true/\h0.all O.sc=true) :
  ACall P f us h (λr h'=>∃r0 h0,R r0 h0/\r=r0.sh h.length/\h'=h++h0.map (O.sh h.length)):=by
 intro J m w cargs hr hpw
 have hpw0:Pw (RV (λk=>J k∨Jw m k) [] w) vs cargs:=Em (R:=RV J m w) (R':=RV (λk=>J k∨Jw m k) [] w) (λv r c q1 q2=>Qx (frz_ok hr q1 q2)) hu hpw
 have hjlt:∀k,J k∨Jw m k->k<w.heap.size:=λk hk=>by
  rcases hk with hk | ⟨id,e,h1,h2⟩
  ·exact hr.jlt k hk
  ·exact(hr.dis id e k h1 h2).2
 refine (hp (λk=>J k∨Jw m k) [] w cargs ⟨rfl,hjlt,by simp,by simp,by simp⟩ hpw0).mono ?_
 rintro e w' ⟨v,r,h0,J',m0,rfl,hR,hv,hrs,hev,_⟩
 have hkeep:∀k,k<w.heap.size->w'.heap[k]?=w.heap[k]?:=λk hk=>(hev 0).keep k hk (by simp)
 have hfr:∀(id:Nat) (e:Ent) (B:Nat),m0[id]?=some e->e.blk=some B->w.heap.size<=B:=λid e B h1 h2=>by
  rcases (hev 0).fresh id e B h1 h2 with h3 | ⟨_,_,h3,_⟩
  ·exact h3
  ·simp at h3
 obtain⟨hs1,hs2⟩:=hsc r h0 hR
 have hr':RS J h m w':=RS.same hr (λ_ h=>h) (λ_ h=>.inl h) (λk hk=>Nat.lt_of_lt_of_le (hr.jlt k hk) (hev 0).size) hkeep (hev 0).size
 have hrs':RS J h0 m0 w':=⟨hrs.len,hr'.jlt,λid e B h1 h2=>⟨λh3=>by
   have:=hfr id e B h1 h2
   have:=hr.jlt B h3
   omega,(hrs.dis id e B h1 h2).2⟩,hrs.inj,λid e o h1 h2=>O.sc_ok (List.all_eq_true.1 hs2 o (List.mem_of_getElem? h2)) (hrs.obj id e o h1 h2)⟩
 have hj:=RS.join hr' hrs' (λid id' e e' B h1 h2 h3 h4=>by
  have h5:=(hr.dis id e B h1 h3).2
  have h6:=hfr id' e' B h2 h4
  omega)
 have hl:=hr.len
 exact⟨v,r.sh h.length,_,J,m++m0,rfl,⟨r,h0,hR,rfl,rfl⟩,by rw[<- hl];exact RV.sh m (sc_ok hs1 hv),hj,
  λn=>Ev.join (Ev.same (λ_ h=>h) (λ_ h=>.inl h) hkeep (hev 0).size (hev 0).os (hev 0).tape (hev 0).output (hev 0).drawn) hfr,Ml.app m m0⟩
def DoneN (rs:List Rr) (R:V->List O->Prop) (x:X) (σ:St):Prop :=
 match x with
 | .e _=>False
 | _=>∃vs h1,rs.mapM (Yf σ)=some vs/\vs.all V.noT=true/\h1.length=σ.h.length/\WeakH σ.h.length σ.h h1/\R (Yh vs) h1
theorem DoneN_n {rs:List Rr} {R:V->List O->Prop} {σ:St}:DoneN rs R .n σ=∃vs h1,rs.mapM (Yf σ)=some vs/\vs.all V.noT=true/\h1.length=σ.h.length/\WeakH σ.h.length σ.h h1/\R (Yh vs) h1:=rfl
theorem DoneN_r {rs:List Rr} {R:V->List O->Prop} {σ:St}:DoneN rs R .r σ=∃vs h1,rs.mapM (Yf σ)=some vs/\vs.all V.noT=true/\h1.length=σ.h.length/\WeakH σ.h.length σ.h h1/\R (Yh vs) h1:=rfl
theorem DoneN_e {rs:List Rr} {R:V->List O->Prop} {σ:St} (id:Nat):DoneN rs R (.e id) σ=False:=rfl
@[congr] theorem DoneN_congr {rs:List Rr} {R:V->List O->Prop} {x x':X} {σ σ':St} (hx:x=x') (hh:σ=σ'):DoneN rs R x σ=DoneN rs R x' σ':=by rw[hx,hh]
theorem RA_of_noT {v:V} {c:Value} (hn:v.noT=true) (hv:RV J m w v c):RA J m w v c:=by
 cases v<;>first | (simp[V.noT]at hn;done) | exact hv
theorem new_intro (hmix:P.follows .mixedOrders=true) {f:FuncId} {fn:Func} {code:Code} {c:C} {rs:List Rr} (hf:P.funcs[f]?=some fn) (hb:fn.body=some code) (hc:Yt P fn.ntmps code=some c) (hrs:convRes P fn=some rs)
  {vs:List V} (hn:vs.length<=fn.ntmps) {R:V->List O->Prop} (hbody:AS P 0 c ⟨Zf 0 vs,[]⟩ (DoneN rs R)):NewC P f vs R:=by
 intro J m w cargs hr hp
 have hm:m=[]:=List.eq_nil_of_length_eq_zero (by rw[hr.len];rfl)
 subst hm
 refine calls_of_wp hf hb ?_
 have hcl:cargs.length<=fn.ntmps:=by rw[<- hp.1];exact hn
 have hrel:RelF fn.ntmps J [] (λt=>get t (Zf 0 vs)) [] { tmps:=cargs.toArray++Array.replicate (fn.ntmps-cargs.toArray.size) undef,defers:=[] } w:=by
  refine⟨λt=>?_,hr,rfl,by simp;omega⟩
  simp only
  rw[Xc,if_pos (Nat.zero_le _),Nat.sub_zero]
  cases hv:vs[t]? with
  | none=>trivial
  | some v =>
    obtain⟨cv,h1,h2⟩:=hp.get hv
    have hlt:=(List.getElem?_eq_some_iff.1 h1).1
    have:(cargs.toArray++Array.replicate (fn.ntmps-cargs.toArray.size) undef).getD t undef=cv:=by
     rw[Array.getD_eq_getD_getElem?,Array.getElem?_append_left (by simpa using hlt)]
     simp[h1]
    rw[this]
    exact h2
 refine wp_mono (AS_ok hmix code c hc _ _ hbody J [] _ w hrel) ?_
 rintro e a' w' ⟨x,σ',J',m',hx,hD,hrel',hev⟩
 have hret:(∃vs h1,rs.mapM (Yf σ')=some vs/\vs.all V.noT=true/\h1.length=σ'.h.length/\WeakH σ'.h.length σ'.h h1/\R (Yh vs) h1) ->
   a'.defers=[]/\∃v,(results fn a'.tmps).run P w'=.ok v w'/\∃v0 r h' J'' m'',Ending.returned v=.returned v0/\R r h'/\RV J'' m'' w' r v0/\RS J'' h' m'' w'/\(∀n,Ev n J [] w J'' m'' w')/\Ml [] m'':=by
  rintro⟨us,h1,hus,hnt,hl,hwk,hR⟩
  refine⟨hrel'.defers,?_⟩
  obtain⟨cs,hcs,hrun⟩:=Up hrel' hrs hus
  have htk:=hrel'.rs.take (τ:=h1) (by omega) (by rw[hl];exact hwk)
  rw[hl,<- hrel'.rs.len,List.take_length]at htk
  refine⟨_,hrun,_,Yh us,h1,J',m',rfl,hR,?_,htk,λn=>?_,Ml.nil _⟩
  ·have hpa:Pw (RA J' m' w') us cs:=⟨hcs.1,λi v c hi hc=>RA_of_noT (List.all_eq_true.1 hnt v (List.mem_of_getElem? hi)) (hcs.2 i v c hi hc)⟩
   have hl:=hpa.1
   match us,cs,hl,hpa with
   | [],[],_,hpa=>exact⟨#[],rfl,Pw.nil⟩
   | [v],[c],_,hpa =>
     simp only[Yh]
     have:(if h:([c]:List Value).toArray.size=1 then ([c]:List Value).toArray[0] else Value.tuple [c].toArray)=c:=by simp
     rw[this]
     exact Qx hpa.head
   | v1::v2::vr,c1::c2::cr,_,hpa =>
     simp only[Yh]
     rw[dif_neg (by simp)]
     exact⟨_,rfl,by simpa using hpa⟩
  ·exact⟨hev.os,hev.tape,hev.output,hev.drawn,hev.size,hev.keep,hev.fresh,hev.sub,hev.jnew,by simp⟩
 cases e<;>cases x<;>simp only at hx<;>(try exact hx.elim)<;>(try exact hD.elim)
 ·exact hret hD
 ·exact hret hD
theorem new_of (hmix:P.follows .mixedOrders=true) {f:FuncId} {c:C} {rs:List Rr} {n:Nat} (hf:Q9 P f c rs n) {vs:List V} (hn:vs.length<=n) {R:V->List O->Prop}
  (hb:AS P 0 c ⟨Zf 0 vs,[]⟩ (DoneN rs R)):NewC P f vs R:=by
 obtain⟨fn,code,h1,h2,h3,h4,rfl⟩:=hf
 exact new_intro hmix h1 h2 h3 h4 hn hb
theorem Ws {f:FuncId} {vs:List V} {h h0:List O} {r0:V} {k:V->List O->Prop} (hp:NewC P f vs (λr h=>r=r0/\h=h0)) (hcl:vs.all (V.cl 0)=true)
  (hk:k (r0.sh h.length) (h++h0.map (O.sh h.length))):ACall P f vs h k :=
 (hp.lift hcl h).mono λr' h' hh=>by obtain⟨r1,h1,⟨rfl,rfl⟩,rfl,rfl⟩:=hh;exact hk
theorem Jb {f:FuncId} {vs us:List V} {h:List O} {r0:V} {k:V->List O->Prop} (hu:Zu h us=some vs) (hp:PureC P f vs (·=r0)) (hsc:r0.scal=true)
  (hk:k r0 h):ACall P f us h k :=
 (PureC.lend hu hp (λr hh=>by rw[hh];exact hsc)).mono λr' h' hh=>by rw[hh.1,hh.2];exact hk
def WkE (env:List (Nat × V)) (n:Nat):List (Nat × V)->Prop
 | []=>True
 | p::r=>(p.2=.any∨(get p.1 env=p.2/\p.2.cl n=true))/\WkE env n r
theorem WkE_all {env:List (Nat × V)} {n:Nat}:∀{l:List (Nat × V)},WkE env n l↔∀p∈l,p.2=.any∨(get p.1 env=p.2/\p.2.cl n=true)
 | []=>by simp[WkE]
 | p::r=>by
   have h:=@WkE_all env n r
   simp only[WkE,List.mem_cons,forall_eq_or_imp]
   rw[h]
theorem Weak_mk (n:Nat) (env env':List (Nat × V)) (h h':List O):Weak n ⟨env,h⟩ ⟨env',h'⟩=(n<=h'.length/\h'.length<=h.length/\WkE env h'.length env'/\WeakH h'.length h h'):=by
 unfold Weak
 simp only
 rw[WkE_all]
theorem Ed:∀l:List UInt8,Jd (l.map Yn)=some l
 | []=>rfl
 | b::l=>by
   have hb:UInt8.ofNat b.toNat=b:=UInt8.ofNat_toNat
   simp[Jd,Yn,Ed l,hb]
theorem bytesOf_replicate (n:Nat) (b:UInt8):Jd (List.replicate n [.i .u8 (b.toNat:Int)])=some (List.replicate n b):=by
 have:=Ed (List.replicate n b)
 simpa[Yn]using this
theorem bytesOf_zeros (n:Nat):Jd (List.replicate n [.i .u8 0])=some (List.replicate n 0):=bytesOf_replicate n 0
theorem mvN_sh (L s id:Nat):mvN L s (L+id)=s+id:=by unfold mvN;rw[if_neg (by omega)];omega
theorem sh0_mv (L s:Nat) (v:V):(v.sh0 L).mv0 L s=v.sh0 s:=by cases v<;>simp[V.sh0,V.mv0,mvN_sh]
theorem sh1_mv (L s:Nat) (v:V):(v.sh1 L).mv1 L s=v.sh1 s:=by
 cases v
 case f fn caps=>simp only[V.sh1,V.mv1,List.map_map];congr 1;exact List.map_congr_left λx _=>sh0_mv L s x
 all_goals simp only[V.sh1,V.sh0,V.mv1,V.mv0,mvN_sh]
theorem sh2_mv (L s:Nat) (v:V):(v.sh2 L).mv2 L s=v.sh2 s:=by
 cases v
 case a cs=>simp only[V.sh2,V.mv2,List.map_map];congr 1;exact List.map_congr_left λx _=>sh1_mv L s x
 case f fn caps=>exact sh1_mv L s (.f fn caps)
 all_goals simp only[V.sh2,V.sh1,V.sh0,V.mv2,V.mv1,V.mv0,mvN_sh]
theorem sh_mv (L s:Nat) (v:V):(v.sh L).mv L s=v.sh s:=by
 cases v
 case t vs=>simp only[V.sh,V.mv,List.map_map];congr 1;exact List.map_congr_left λx _=>sh2_mv L s x
 case f fn caps=>exact sh2_mv L s (.f fn caps)
 case a cs=>exact sh2_mv L s (.a cs)
 all_goals simp only[V.sh,V.sh2,V.sh1,V.sh0,V.mv,V.mv2,V.mv1,V.mv0,mvN_sh]
theorem Osh_mv (L s:Nat) (o:O):(o.sh L).mv L s=o.sh s:=by
 cases o with
 | dead=>rfl
 | it mid since seen=>cases mid<;>simp[O.sh,O.mv,mvN_sh]
 | mp es=>simp only[O.sh,O.mv,List.map_map];congr 1;exact List.map_congr_left λe _=>by simp[sh2_mv]
 | md es=>simp only[O.sh,O.mv,List.map_map];congr 1;exact List.map_congr_left λe _=>by simp[sh2_mv]
 | arr g sz els=>simp only[O.sh,O.mv,List.map_map];congr 1;exact List.map_congr_left λel _=>by simp[sh1_mv]
section
variable {n0:Nat} {js:List Nat} {lg:List (List Nat × List Nat)} {al:List Nat} {K:List Nat × List Nat->V->List O->Prop}
theorem Qf {f:FuncId} {vs:List V} {r:V} (hc:CallIs P f vs r) (hk:K ([],[]) r h):Wp P n0 js lg al f vs h K :=
 ⟨[],[],r,h,chk_nil _ _,⟨Nat.le_refl _,by simp,by simp,λ_ _ _=>rfl,λh2 _ _=>⟨r,[],by rw[W9,List.append_nil];exact hc h2,.inl ⟨rfl,rfl,rfl⟩⟩⟩,hk⟩
theorem Wo {f:FuncId} {vs:List V} {h0:List O} {r0:V} (hp:NewC P f vs (λr h=>r=r0/\h=h0)) (hcl:vs.all (V.cl 0)=true) (hk:K ([],[]) (r0.sh h.length) (h++h0.map (O.sh h.length))):Wp P n0 js lg al f vs h K :=
 ⟨[],[],_,_,chk_nil _ _,⟨by simp,by simp,by simp,λid hid _=>List.getElem?_append_left hid,λh2 _ _=>⟨r0.sh h2.length,h0.map (O.sh h2.length),
  (hp.lift hcl h2).mono λr' h' hh=>by obtain⟨r1,h1,⟨rfl,rfl⟩,rfl,rfl⟩:=hh;exact⟨rfl,by rw[W9]⟩,
  .inr ⟨rfl,sh_mv _ _ _,by rw[List.drop_left,List.map_map];exact List.map_congr_left λo _=>Osh_mv _ _ o⟩⟩⟩,hk⟩
theorem Sg_call_tt (f:FuncId) (args:List A) (env:List (Nat × V)):Sg P n0 js lg (.call f args) (.b true) true env h K=Wp P n0 js lg ((args.map (A.ev env)).flatMap V.ids2) f (args.map (A.ev env)) h K:=by simp[Sg,Yc]
theorem Sg_call_ff (f:FuncId) (args:List A) (env:List (Nat × V)):Sg P n0 js lg (.call f args) (.b false) false env h K=Wp P n0 js lg ((args.map (A.ev env)).flatMap V.ids2) f (args.map (A.ev env)) h K:=by simp[Sg,Yc]
theorem Sg_call_tf (f:FuncId) (args:List A) (env:List (Nat × V)):Sg P n0 js lg (.call f args) (.b true) false env h K=K ([],[]) (.t []) h:=by simp[Sg,Yc]
theorem Sg_call_ft (f:FuncId) (args:List A) (env:List (Nat × V)):Sg P n0 js lg (.call f args) (.b false) true env h K=K ([],[]) (.t []) h:=by simp[Sg,Yc]
end
attribute [go_sem] Sg_call_tt Sg_call_ff Sg_call_tf Sg_call_ft
attribute [go_sem] WkE Weak_mk Ed bytesOf_zeros DoneN_n DoneN_r DoneN_e V.noT V.sh V.sh2 V.sh1 V.sh0 O.sh
end
end Go.Abs
set_option linter.unusedVariables false
set_option linter.unusedSimpArgs false
namespace Go.Abs
open Go.RowKit
def keepE (l:List Nat) (env:List (Nat × V)):List (Nat × V):=l.map λt=>(t,get t env)
section
variable {P:Program}
theorem keepE_nil (env:List (Nat × V)):keepE [] env=[]:=Rfl rfl
theorem keepE_cons (t:Nat) (l:List Nat) (env:List (Nat × V)):keepE (t::l) env=(t,get t env)::keepE l env:=Rfl rfl
attribute [go_sem] keepE_nil keepE_cons
def Eh (n:Nat) (rs:List Rr) (R:V->List O->Prop) (x:X) (σ:St):Prop :=
 match x with
 | .e _=>False
 | _=>∃vs h1,rs.mapM (Yf σ)=some vs/\vs.all V.noT=true/\vs.all (V.cl h1.length)=true/\n<=h1.length/\h1.length<=σ.h.length/\WeakH h1.length σ.h h1/\R (Yh vs) h1
theorem DoneA_n {n:Nat} {rs:List Rr} {R:V->List O->Prop} {σ:St}:Eh n rs R .n σ=∃vs h1,rs.mapM (Yf σ)=some vs/\vs.all V.noT=true/\vs.all (V.cl h1.length)=true/\n<=h1.length/\h1.length<=σ.h.length/\WeakH h1.length σ.h h1/\R (Yh vs) h1:=Rfl rfl
theorem Et {n:Nat} {rs:List Rr} {R:V->List O->Prop} {σ:St}:Eh n rs R .r σ=∃vs h1,rs.mapM (Yf σ)=some vs/\vs.all V.noT=true/\vs.all (V.cl h1.length)=true/\n<=h1.length/\h1.length<=σ.h.length/\WeakH h1.length σ.h h1/\R (Yh vs) h1:=Rfl rfl
theorem DoneA_e {n:Nat} {rs:List Rr} {R:V->List O->Prop} {σ:St} (id:Nat):Eh n rs R (.e id) σ=False:=Rfl rfl
@[congr] theorem DoneA_congr {n:Nat} {rs:List Rr} {R:V->List O->Prop} {x x':X} {σ σ':St} (hx:x=x') (hh:σ=σ'):Eh n rs R x σ=Eh n rs R x' σ':=by rw[hx,hh]
attribute [go_sem] DoneA_n Et DoneA_e
theorem Ev.takeE {n k:Nat} {J J':Nat->Prop} {m m':List Ent} {w w':World} (hev:Ev n J m w J' m' w') (hk:n<=k):Ev n J m w J' (m'.take k) w' where
 os:=hev.os
 tape:=hev.tape
 output:=hev.output
 drawn:=hev.drawn
 size:=hev.size
 keep:=hev.keep
 fresh:=λid e B h1 h2=>by
  rw[List.getElem?_take]at h1
  split at h1
  ·exact hev.fresh id e B h1 h2
  ·simp at h1
 sub:=hev.sub
 jnew:=hev.jnew
 ents:=λid e hn h1=>by
  obtain⟨e',h2,h3,h4⟩:=hev.ents id e hn h1
  exact⟨e',by rw[List.getElem?_take,if_pos (by omega)];exact h2,h3,h4⟩
theorem Ja (hmix:P.follows .mixedOrders=true) {f:FuncId} {c:C} {rs:List Rr} {N:Nat} (hfn:Q9 P f c rs N)
  {vs:List V} (hn:vs.length<=N) {h:List O} {R:V->List O->Prop} (hbody:AS P h.length c ⟨Zf 0 vs,h⟩ (Eh h.length rs R)):ACall P f vs h R:=by
 obtain⟨fn,code,hf,hb,hc,hrs,rfl⟩:=hfn
 intro J m w cargs hr hp
 refine calls_of_wp hf hb ?_
 have hcl:cargs.length<=fn.ntmps:=by rw[<- hp.1];exact hn
 have hrel:RelF fn.ntmps J m (λt=>get t (Zf 0 vs)) h { tmps:=cargs.toArray++Array.replicate (fn.ntmps-cargs.toArray.size) undef,defers:=[] } w:=by
  refine⟨λt=>?_,hr,rfl,by simp;omega⟩
  simp only
  rw[Xc,if_pos (Nat.zero_le _),Nat.sub_zero]
  cases hv:vs[t]? with
  | none=>trivial
  | some v =>
    obtain⟨cv,h1,h2⟩:=hp.get hv
    have hlt:=(List.getElem?_eq_some_iff.1 h1).1
    have:(cargs.toArray++Array.replicate (fn.ntmps-cargs.toArray.size) undef).getD t undef=cv:=by
     rw[Array.getD_eq_getD_getElem?,Array.getElem?_append_left (by simpa using hlt)]
     simp[h1]
    rw[this]
    exact h2
 refine wp_mono (AS_ok hmix code c hc _ _ hbody J m _ w hrel) ?_
 rintro e a' w' ⟨x,σ',J',m',hx,hD,hrel',hev⟩
 have hret:(∃vs h1,rs.mapM (Yf σ')=some vs/\vs.all V.noT=true/\vs.all (V.cl h1.length)=true/\h.length<=h1.length/\h1.length<=σ'.h.length/\WeakH h1.length σ'.h h1/\R (Yh vs) h1) ->
   a'.defers=[]/\∃v,(results fn a'.tmps).run P w'=.ok v w'/\∃v0 r h' J'' m'',Ending.returned v=.returned v0/\R r h'/\RV J'' m'' w' r v0/\RS J'' h' m'' w'/\(∀n,Ev n J m w J'' m'' w')/\Ml m m'':=by
  rintro⟨us,h1,hus,hnt,hcls,hl1,hl2,hwk,hR⟩
  refine⟨hrel'.defers,?_⟩
  obtain⟨cs,hcs,hrun⟩:=Up hrel' hrs hus
  have htk:=hrel'.rs.take (τ:=h1) hl2 hwk
  have hevt:Ev h.length J m w J' (m'.take h1.length) w':=hev.takeE hl1
  have hml:Ml m (m'.take h1.length):=λid e h2=>hevt.ents id e (by rw[<- hr.len];exact(List.getElem?_eq_some_iff.1 h2).1) h2
  refine⟨_,hrun,_,Yh us,h1,J',m'.take h1.length,rfl,hR,?_,htk,λn=>⟨hevt.os,hevt.tape,hevt.output,hevt.drawn,hevt.size,hevt.keep,hevt.fresh,hevt.sub,hevt.jnew,λid e _ h2=>hml id e h2⟩,hml⟩
  have hpa:Pw (RA J' (m'.take h1.length) w') us cs:=⟨hcs.1,λi v c hi hc=>by
   have hn:=List.all_eq_true.1 hnt v (List.mem_of_getElem? hi)
   have hcl:=List.all_eq_true.1 hcls v (List.mem_of_getElem? hi)
   exact RA_of_noT hn (clV_ok hcl (hcs.2 i v c hi hc))⟩
  have hl:=hpa.1
  match us,cs,hl,hpa with
  | [],[],_,hpa=>exact⟨#[],rfl,Pw.nil⟩
  | [v],[c],_,hpa =>
    simp only[Yh]
    have:(if h:([c]:List Value).toArray.size=1 then ([c]:List Value).toArray[0] else Value.tuple [c].toArray)=c:=by simp
    rw[this]
    exact Qx hpa.head
  | v1::v2::vr,c1::c2::cr,_,hpa =>
    simp only[Yh]
    rw[dif_neg (by simp)]
    exact⟨_,rfl,by simpa using hpa⟩
 cases e<;>cases x<;>simp only at hx<;>(try exact hx.elim)<;>(try exact hD.elim)
 ·exact hret hD
 ·exact hret hD
def DoneB (rs:List Rr) (R:V->List O->Prop) (x:X) (σ:St):Prop :=
 match x with
 | .e _=>False
 | _=>∃vs,rs.mapM (Yf σ)=some vs/\vs.all V.noT=true/\R (Yh vs) σ.h
theorem DoneB_n {rs:List Rr} {R:V->List O->Prop} {σ:St}:DoneB rs R .n σ=∃vs,rs.mapM (Yf σ)=some vs/\vs.all V.noT=true/\R (Yh vs) σ.h:=Rfl rfl
theorem DoneB_r {rs:List Rr} {R:V->List O->Prop} {σ:St}:DoneB rs R .r σ=∃vs,rs.mapM (Yf σ)=some vs/\vs.all V.noT=true/\R (Yh vs) σ.h:=Rfl rfl
theorem DoneB_e {rs:List Rr} {R:V->List O->Prop} {σ:St} (id:Nat):DoneB rs R (.e id) σ=False:=Rfl rfl
@[congr] theorem DoneB_congr {rs:List Rr} {R:V->List O->Prop} {x x':X} {σ σ':St} (hx:x=x') (hh:σ=σ'):DoneB rs R x σ=DoneB rs R x' σ':=by rw[hx,hh]
attribute [go_sem] DoneB_n DoneB_r DoneB_e
theorem call_keep (hmix:P.follows .mixedOrders=true) {f:FuncId} {c:C} {rs:List Rr} {N:Nat} (hfn:Q9 P f c rs N)
  {vs:List V} (hn:vs.length<=N) {h:List O} {R:V->List O->Prop} (hbody:AS P h.length c ⟨Zf 0 vs,h⟩ (DoneB rs R)):ACall P f vs h R:=by
 obtain⟨fn,code,hf,hb,hc,hrs,rfl⟩:=hfn
 intro J m w cargs hr hp
 refine calls_of_wp hf hb ?_
 have hcl:cargs.length<=fn.ntmps:=by rw[<- hp.1];exact hn
 have hrel:RelF fn.ntmps J m (λt=>get t (Zf 0 vs)) h { tmps:=cargs.toArray++Array.replicate (fn.ntmps-cargs.toArray.size) undef,defers:=[] } w:=by
  refine⟨λt=>?_,hr,rfl,by simp;omega⟩
  simp only
  rw[Xc,if_pos (Nat.zero_le _),Nat.sub_zero]
  cases hv:vs[t]? with
  | none=>trivial
  | some v =>
    obtain⟨cv,h1,h2⟩:=hp.get hv
    have hlt:=(List.getElem?_eq_some_iff.1 h1).1
    have:(cargs.toArray++Array.replicate (fn.ntmps-cargs.toArray.size) undef).getD t undef=cv:=by
     rw[Array.getD_eq_getD_getElem?,Array.getElem?_append_left (by simpa using hlt)]
     simp[h1]
    rw[this]
    exact h2
 refine wp_mono (AS_ok hmix code c hc _ _ hbody J m _ w hrel) ?_
 rintro e a' w' ⟨x,σ',J',m',hx,hD,hrel',hev⟩
 have hret:(∃vs,rs.mapM (Yf σ')=some vs/\vs.all V.noT=true/\R (Yh vs) σ'.h) ->
   a'.defers=[]/\∃v,(results fn a'.tmps).run P w'=.ok v w'/\∃v0 r h' J'' m'',Ending.returned v=.returned v0/\R r h'/\RV J'' m'' w' r v0/\RS J'' h' m'' w'/\(∀n,Ev n J m w J'' m'' w')/\Ml m m'':=by
  rintro⟨us,hus,hnt,hR⟩
  refine⟨hrel'.defers,?_⟩
  obtain⟨cs,hcs,hrun⟩:=Up hrel' hrs hus
  have hevt:=hev
  have hml:Ml m m':=λid e h2=>hevt.ents id e (by rw[<- hr.len];exact(List.getElem?_eq_some_iff.1 h2).1) h2
  refine⟨_,hrun,_,Yh us,σ'.h,J',m',rfl,hR,?_,hrel'.rs,λn=>⟨hevt.os,hevt.tape,hevt.output,hevt.drawn,hevt.size,hevt.keep,hevt.fresh,hevt.sub,hevt.jnew,λid e _ h2=>hml id e h2⟩,hml⟩
  have hpa:Pw (RA J' m' w') us cs:=⟨hcs.1,λi v c hi hc=>by
   have hn:=List.all_eq_true.1 hnt v (List.mem_of_getElem? hi)
   exact RA_of_noT hn (hcs.2 i v c hi hc)⟩
  have hl:=hpa.1
  match us,cs,hl,hpa with
  | [],[],_,hpa=>exact⟨#[],rfl,Pw.nil⟩
  | [v],[c],_,hpa =>
    simp only[Yh]
    have:(if h:([c]:List Value).toArray.size=1 then ([c]:List Value).toArray[0] else Value.tuple [c].toArray)=c:=by simp
    rw[this]
    exact Qx hpa.head
  | v1::v2::vr,c1::c2::cr,_,hpa =>
    simp only[Yh]
    rw[dif_neg (by simp)]
    exact⟨_,rfl,by simpa using hpa⟩
 cases e<;>cases x<;>simp only at hx<;>(try exact hx.elim)<;>(try exact hD.elim)
 ·exact hret hD
 ·exact hret hD
end
end Go.Abs
set_option linter.unusedVariables false
set_option linter.unusedSimpArgs false
namespace Go.Abs
open Go.RowKit
section
variable (call:FuncId->List V->List O->Option (V × List O)) (callP:FuncId->List V->Option V)
def Z2 (g:Option (Nat × Bool)) (env:List (Nat × V)):Option Bool :=
 match g with
 | none=>some true
 | some (t,w)=>match get t env with
   | .b c=>some (c == w)
   | .t []=>some false
   | _=>none
end
end Go.Abs
