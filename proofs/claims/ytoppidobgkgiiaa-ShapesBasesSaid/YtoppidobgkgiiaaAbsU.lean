/- Part of the abstract machine on which the proof stands: its values, code and their soundness against the model. -/
import Derived.Test.YtoppidobgkgiiaaAbsT
set_option linter.unusedVariables false
set_option linter.unusedSimpArgs false
namespace Go.Abs
open Go.RowKit

attribute [go_sem] Lk_n Lk_e Lk_r Done_n Done_r Done_e resV readR frz frz0 frzAll tupV List.mapM_cons List.mapM_nil Option.bind_eq_bind Option.pure_def WeakH O.cl envFrom
  AS_skip AS_reg AS_drw AS_seq AS_ite AS_blk AS_exit AS_ret Sq_n Sq_e Sq_r Bk_n Bk_r Bk_e AO_nil AO_cons AO_guard Nx_mk Nx_no AD_nil AD_cons AD_guard AD_cons0 AD_guard0 Ax_mk Ax_no Ax0_mk Ax0_no Sx_call Sx_callv Gq_ot Gq_of chk_nil0 putD_some putD_none
  Opt_some Opt_none Opt_ite Branch_t Branch_f Branch_d Branch_b St1_call   Gq_u Gq_sel_t Gq_sel_f Gq_sen_t Gq_sen_f Gdn_true Gdn_false Gdn_some Gdn_ite sen_true sen_false pk_true pk_false pk_or pk_and pk_or_sen pk_and_sel Gq_tt Gq_ff Gq_tf Gq_ft Gd_true Gd_false Gd_some Gd_ite sel_true sel_false b_ite_false b_ite_true b_ite_false' b_ite_true'
attribute [go_sem] 
  St1_mv St1_pick St1_ld St1_st St1_alloc St1_box St1_fa St1_fld St1_ia St1_iaa St1_ix St1_ixs St1_bin St1_eqb St1_eqa St1_un St1_cvi St1_s2b St1_b2s St1_len St1_mx St1_mn St1_build 
  St1_bsi St1_bso St1_mks St1_mki St1_app St1_copy St1_slc St1_slcs St1_ext St1_nck St1_mkf St1_mkm St1_lk St1_mup St1_ment St1_est St1_slc3 St1_mrng St1_men St1_mnx St1_isn St1_callv Isn_nil Isn_l0 Isn_l1 stepI_slc3 stepI_mrng 
  
  
attribute [go_sem]
  Gq_t_mv Gq_t_pick Gq_t_ld Gq_t_st Gq_t_alloc Gq_t_box Gq_t_fa Gq_t_fld Gq_t_ia Gq_t_iaa Gq_t_ix Gq_t_ixs Gq_t_bin Gq_t_eqb Gq_t_eqa Gq_t_un Gq_t_cvi Gq_t_s2b Gq_t_b2s Gq_t_len 
  Gq_t_mx Gq_t_mn Gq_t_build Gq_t_bsi Gq_t_bso Gq_t_mks Gq_t_mki Gq_t_app Gq_t_copy Gq_t_slc Gq_t_slcs Gq_t_ext Gq_t_nck Gq_t_mkf Gq_t_mkm Gq_t_lk Gq_t_mup Gq_t_ment Gq_t_est Gq_f_mv 
  Gq_f_pick Gq_f_ld Gq_f_st Gq_f_alloc Gq_f_box Gq_f_fa Gq_f_fld Gq_f_ia Gq_f_iaa Gq_f_ix Gq_f_ixs Gq_f_bin Gq_f_eqb Gq_f_eqa Gq_f_un Gq_f_cvi Gq_f_s2b Gq_f_b2s Gq_f_len Gq_f_mx 
  Gq_f_mn Gq_f_build Gq_f_bsi Gq_f_bso Gq_f_mks Gq_f_mki Gq_f_app Gq_f_copy Gq_f_slc Gq_f_slcs Gq_f_ext Gq_f_nck Gq_f_mkf Gq_f_mkm Gq_f_lk Gq_f_mup Gq_f_ment Gq_f_est 
  
  
  
  
  
attribute [go_sem]
  stepI_mv stepI_pick stepI_ld stepI_st stepI_alloc stepI_box stepI_fa stepI_fld stepI_ia stepI_iaa stepI_ix stepI_ixs stepI_bin stepI_eqb stepI_eqa stepI_un stepI_cvi stepI_s2b 
  stepI_b2s stepI_len stepI_mx stepI_mn stepI_build stepI_bsi stepI_bso stepI_mks stepI_mki stepI_app stepI_copy stepI_slc stepI_slcs stepI_ext stepI_nck stepI_mkf stepI_mkm stepI_lk 
  stepI_mup stepI_ment stepI_est ev_t ev_c get_nil get_cons put_nil put_cons V_cells_any V_okA_any V_isD_any V_isCap_any idx_any V_cl0_any V_cl1_any V_cl_any V_cells_b V_okA_b 
  V_isD_b V_isCap_b idx_b V_cl0_b V_cl1_b V_cl_b V_cells_i V_okA_i V_isD_i V_isCap_i idx_i V_cl0_i V_cl1_i V_cl_i V_cells_s V_okA_s V_isD_s V_isCap_s idx_s V_cl0_s V_cl1_s V_cl_s 
  V_cells_nil V_okA_nil V_isD_nil V_isCap_nil idx_nil V_cl0_nil V_cl1_nil V_cl_nil V_cells_l V_okA_l V_isD_l V_isCap_l idx_l V_cl0_l V_cl1_l V_cl_l V_cells_own V_okA_own V_isD_own 
  V_isCap_own idx_own V_cl0_own V_cl1_own V_cl_own V_cells_p V_okA_p V_isD_p V_isCap_p idx_p V_cl0_p V_cl1_p V_cl_p V_cells_ip V_okA_ip V_isD_ip V_isCap_ip idx_ip V_cl0_ip V_cl1_ip 
  V_cl_ip V_cells_np V_okA_np V_isD_np V_isCap_np idx_np V_cl0_np V_cl1_np V_cl_np V_cells_mp V_okA_mp V_isD_mp V_isCap_mp idx_mp V_cl0_mp V_cl1_mp V_cl_mp V_cells_mnil V_okA_mnil 
  V_isD_mnil V_isCap_mnil idx_mnil V_cl0_mnil V_cl1_mnil V_cl_mnil V_cells_f V_okA_f V_isD_f V_isCap_f idx_f V_cl0_f V_cl1_f V_cl_f V_cells_a V_okA_a V_isD_a V_isCap_a idx_a V_cl0_a 
  V_cl1_a V_cl_a V_cells_t V_okA_t V_isD_t V_isCap_t idx_t V_cl0_t V_cl1_t V_cl_t cellsAt_ip cellsAt_p pickN_none pickN_some elsOf_nil elsOf_l elsOf_own binV_i binV_s arith_add 
  arith_sub arith_mul arith_quo arith_rem arith_and arith_or arith_xor arith_eql arith_neq arith_lss arith_leq arith_gtr arith_geq shiftV_shl shiftV_shr strV_add strV_eql strV_neq 
  strV_lss strV_leq strV_gtr strV_geq unV_not unV_neg 
attribute [go_sem] List.map_cons List.map_nil Option.map_some Option.map_none Option.bind_some Option.bind_none
  List.getElem?_cons_zero List.getElem?_cons_succ List.getElem?_nil List.cons_append List.nil_append List.append_nil List.length_cons List.length_nil Nat.zero_add
  reduceCtorEq if_true if_false ite_true ite_false Nat.succ_ne_zero splice
  true_and and_true false_and and_false false_or or_false true_or or_true not_true_eq_false not_false_eq_true Bool.not_true Bool.not_false List.drop_zero List.drop_succ_cons List.drop_nil List.head?_cons List.head?_nil List.take_zero List.take_succ_cons List.take_nil Nat.le_refl Nat.lt_irrefl Nat.not_lt_zero Nat.zero_le implies_true forall_const
  List.set_cons_zero List.set_cons_succ
attribute [go_sem] minmax minGo fillL fillE bnd veqL sceq
attribute [go_sem]
  newOk_slc3 foot_slc3 newOk_mrng foot_mrng newOk_mv foot_mv newOk_pick foot_pick
  newOk_ld foot_ld newOk_st foot_st newOk_alloc foot_alloc newOk_box foot_box
  newOk_fa foot_fa newOk_fld foot_fld newOk_ia foot_ia newOk_iaa foot_iaa
  newOk_ix foot_ix newOk_ixs foot_ixs newOk_bin foot_bin newOk_eqb foot_eqb
  newOk_eqa foot_eqa newOk_un foot_un newOk_cvi foot_cvi newOk_s2b foot_s2b
  newOk_b2s foot_b2s newOk_len foot_len newOk_mx foot_mx newOk_mn foot_mn
  newOk_build foot_build newOk_bsi foot_bsi newOk_bso foot_bso newOk_mks foot_mks
  newOk_mki foot_mki newOk_app foot_app newOk_copy foot_copy newOk_slc foot_slc
  newOk_slcs foot_slcs newOk_ext foot_ext newOk_nck foot_nck newOk_mkf foot_mkf
  newOk_mkm foot_mkm newOk_lk foot_lk newOk_mup foot_mup newOk_ment foot_ment
  newOk_est foot_est newOk_isn foot_isn newOk_call newOk_callv ids0_any ids1_any ids2_any ids0_b
  ids1_b ids2_b ids0_i ids1_i ids2_i ids0_s ids1_s ids2_s ids0_nil ids1_nil ids2_nil ids0_l
  ids1_l ids2_l ids0_own ids1_own ids2_own ids0_p ids1_p ids2_p ids0_ip ids1_ip ids2_ip ids0_np
  ids1_np ids2_np ids0_mp ids1_mp ids2_mp ids0_mnil ids1_mnil ids2_mnil ids0_f ids1_f ids2_f ids0_a
  ids1_a ids2_a ids0_t ids1_t ids2_t
attribute [go_sem]
  Sx_slc3 Sg_slc3 Sx_mrng Sg_mrng Sx_mv Sg_mv Sx_pick Sg_pick Sx_ld Sg_ld Sx_st Sg_st
  Sx_alloc Sg_alloc Sx_box Sg_box Sx_fa Sg_fa Sx_fld Sg_fld Sx_ia Sg_ia Sx_iaa Sg_iaa
  Sx_ix Sg_ix Sx_ixs Sg_ixs Sx_bin Sg_bin Sx_eqb Sg_eqb Sx_eqa Sg_eqa Sx_un Sg_un
  Sx_cvi Sg_cvi Sx_s2b Sg_s2b Sx_b2s Sg_b2s Sx_len Sg_len Sx_mx Sg_mx Sx_mn Sg_mn
  Sx_build Sg_build Sx_bsi Sg_bsi Sx_bso Sg_bso Sx_mks Sg_mks Sx_mki Sg_mki Sx_app Sg_app
  Sx_copy Sg_copy Sx_slc Sg_slc Sx_slcs Sg_slcs Sx_ext Sg_ext Sx_nck Sg_nck Sx_mkf Sg_mkf
  Sx_mkm Sg_mkm Sx_lk Sg_lk Sx_mup Sg_mup Sx_ment Sg_ment Sx_est Sg_est Sx_isn Sg_isn
attribute [go_sem] chk okPair Dis V.empt List.headD_cons List.headD_nil List.tail_cons List.tail_nil List.flatMap_cons List.flatMap_nil List.drop_left' List.drop_left
attribute [go_sem] St1_sla Gq_t_sla Gq_f_sla stepI_sla isSp_sla newOk_sla foot_sla Sx_sla Sg_sla chunk_zero chunk_succ
attribute [go_sem] St1_apz Gq_t_apz Gq_f_apz stepI_apz isSp_apz newOk_apz foot_apz Sx_apz Sg_apz stepI_men
attribute [go_sem] ghosts_nil ghosts_cons ghost1_t ghost1_c Option.bind_some Option.some.injEq exists_eq_left' exists_eq_left
end Go.Abs
