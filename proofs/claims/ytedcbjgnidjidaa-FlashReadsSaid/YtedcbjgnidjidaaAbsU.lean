/- Part of the abstract machine on which the proof stands: its values, code and their soundness against the model. -/
import Derived.Test.YtedcbjgnidjidaaAbsT
set_option linter.unusedVariables false
set_option linter.unusedSimpArgs false
namespace Go.Abs
open Go.RowKit

attribute [go_sem] Lk_n Lk_e Lk_r Done_n Done_r Done_e resV readR frz frz0 frzAll tupV List.mapM_cons List.mapM_nil Option.bind_eq_bind Option.pure_def WeakH O.cl envFrom
  AS_skip AS_reg AS_drw AS_seq AS_ite AS_blk AS_exit AS_ret Sq_n Sq_e Sq_r Bk_n Bk_r Bk_e AO_nil AO_cons AO_guard Nx_mk Nx_no AD_nil AD_cons AD_guard Dx_mk Dx_no putD_some putD_none
  Opt_some Opt_none Opt_ite Branch_t Branch_f Branch_d Branch_b St1_call Sd1_call
  Gq_tt Gq_ff Gq_tf Gq_ft Gd_true Gd_false Gd_some Gd_ite sel_true sel_false b_ite_false b_ite_true b_ite_false' b_ite_true'
attribute [go_sem] 
  St1_mv St1_pick St1_ld St1_st St1_alloc St1_box St1_fa St1_fld St1_ia St1_iaa St1_ix St1_ixs St1_bin St1_eqb St1_eqa St1_un St1_cvi St1_s2b St1_b2s St1_len St1_mx St1_mn St1_build 
  St1_bsi St1_bso St1_mks St1_mki St1_app St1_copy St1_slc St1_slcs St1_ext St1_nck St1_mkf St1_mkm St1_lk St1_mup St1_ment St1_est Sd1_mv Sd1_pick Sd1_ld Sd1_st Sd1_alloc Sd1_box 
  Sd1_fa Sd1_fld Sd1_ia Sd1_iaa Sd1_ix Sd1_ixs Sd1_bin Sd1_eqb Sd1_eqa Sd1_un Sd1_cvi Sd1_s2b Sd1_b2s Sd1_len Sd1_mx Sd1_mn Sd1_build Sd1_bsi Sd1_bso Sd1_mks Sd1_mki Sd1_app Sd1_copy 
  Sd1_slc Sd1_slcs Sd1_ext Sd1_nck Sd1_mkf Sd1_mkm Sd1_lk Sd1_mup Sd1_ment Sd1_est 
attribute [go_sem]
  Gq_t_mv Gq_t_pick Gq_t_ld Gq_t_st Gq_t_alloc Gq_t_box Gq_t_fa Gq_t_fld Gq_t_ia Gq_t_iaa Gq_t_ix Gq_t_ixs Gq_t_bin Gq_t_eqb Gq_t_eqa Gq_t_un Gq_t_cvi Gq_t_s2b Gq_t_b2s Gq_t_len 
  Gq_t_mx Gq_t_mn Gq_t_build Gq_t_bsi Gq_t_bso Gq_t_mks Gq_t_mki Gq_t_app Gq_t_copy Gq_t_slc Gq_t_slcs Gq_t_ext Gq_t_nck Gq_t_mkf Gq_t_mkm Gq_t_lk Gq_t_mup Gq_t_ment Gq_t_est Gq_f_mv 
  Gq_f_pick Gq_f_ld Gq_f_st Gq_f_alloc Gq_f_box Gq_f_fa Gq_f_fld Gq_f_ia Gq_f_iaa Gq_f_ix Gq_f_ixs Gq_f_bin Gq_f_eqb Gq_f_eqa Gq_f_un Gq_f_cvi Gq_f_s2b Gq_f_b2s Gq_f_len Gq_f_mx 
  Gq_f_mn Gq_f_build Gq_f_bsi Gq_f_bso Gq_f_mks Gq_f_mki Gq_f_app Gq_f_copy Gq_f_slc Gq_f_slcs Gq_f_ext Gq_f_nck Gq_f_mkf Gq_f_mkm Gq_f_lk Gq_f_mup Gq_f_ment Gq_f_est Gq_dt_mv 
  Gq_dt_pick Gq_dt_ld Gq_dt_st Gq_dt_alloc Gq_dt_box Gq_dt_fa Gq_dt_fld Gq_dt_ia Gq_dt_iaa Gq_dt_ix Gq_dt_ixs Gq_dt_bin Gq_dt_eqb Gq_dt_eqa Gq_dt_un Gq_dt_cvi Gq_dt_s2b Gq_dt_b2s 
  Gq_dt_len Gq_dt_mx Gq_dt_mn Gq_dt_build Gq_dt_bsi Gq_dt_bso Gq_dt_mks Gq_dt_mki Gq_dt_app Gq_dt_copy Gq_dt_slc Gq_dt_slcs Gq_dt_ext Gq_dt_nck Gq_dt_mkf Gq_dt_mkm Gq_dt_lk Gq_dt_mup 
  Gq_dt_ment Gq_dt_est Gq_df_mv Gq_df_pick Gq_df_ld Gq_df_st Gq_df_alloc Gq_df_box Gq_df_fa Gq_df_fld Gq_df_ia Gq_df_iaa Gq_df_ix Gq_df_ixs Gq_df_bin Gq_df_eqb Gq_df_eqa Gq_df_un 
  Gq_df_cvi Gq_df_s2b Gq_df_b2s Gq_df_len Gq_df_mx Gq_df_mn Gq_df_build Gq_df_bsi Gq_df_bso Gq_df_mks Gq_df_mki Gq_df_app Gq_df_copy Gq_df_slc Gq_df_slcs Gq_df_ext Gq_df_nck 
  Gq_df_mkf Gq_df_mkm Gq_df_lk Gq_df_mup Gq_df_ment Gq_df_est 
attribute [go_sem]
  stepI_mv stepI_pick stepI_ld stepI_st stepI_alloc stepI_box stepI_fa stepI_fld stepI_ia stepI_iaa stepI_ix stepI_ixs stepI_bin stepI_eqb stepI_eqa stepI_un stepI_cvi stepI_s2b 
  stepI_b2s stepI_len stepI_mx stepI_mn stepI_build stepI_bsi stepI_bso stepI_mks stepI_mki stepI_app stepI_copy stepI_slc stepI_slcs stepI_ext stepI_nck stepI_mkf stepI_mkm stepI_lk 
  stepI_mup stepI_ment stepI_est ev_t ev_c get_nil get_cons put_nil put_cons V_cells_any V_okA_any V_isD_any V_isCap_any idx_any V_cl0_any V_cl1_any V_cl_any V_cells_b V_okA_b 
  V_isD_b V_isCap_b idx_b V_cl0_b V_cl1_b V_cl_b V_cells_i V_okA_i V_isD_i V_isCap_i idx_i V_cl0_i V_cl1_i V_cl_i V_cells_s V_okA_s V_isD_s V_isCap_s idx_s V_cl0_s V_cl1_s V_cl_s 
  V_cells_nil V_okA_nil V_isD_nil V_isCap_nil idx_nil V_cl0_nil V_cl1_nil V_cl_nil V_cells_l V_okA_l V_isD_l V_isCap_l idx_l V_cl0_l V_cl1_l V_cl_l V_cells_own V_okA_own V_isD_own 
  V_isCap_own idx_own V_cl0_own V_cl1_own V_cl_own V_cells_p V_okA_p V_isD_p V_isCap_p idx_p V_cl0_p V_cl1_p V_cl_p V_cells_ip V_okA_ip V_isD_ip V_isCap_ip idx_ip V_cl0_ip V_cl1_ip 
  V_cl_ip V_cells_np V_okA_np V_isD_np V_isCap_np idx_np V_cl0_np V_cl1_np V_cl_np V_cells_mp V_okA_mp V_isD_mp V_isCap_mp idx_mp V_cl0_mp V_cl1_mp V_cl_mp V_cells_mnil V_okA_mnil 
  V_isD_mnil V_isCap_mnil idx_mnil V_cl0_mnil V_cl1_mnil V_cl_mnil V_cells_f V_okA_f V_isD_f V_isCap_f idx_f V_cl0_f V_cl1_f V_cl_f V_cells_a V_okA_a V_isD_a V_isCap_a idx_a V_cl0_a 
  V_cl1_a V_cl_a V_cells_t V_okA_t V_isD_t V_isCap_t idx_t V_cl0_t V_cl1_t V_cl_t cellsAt_ip cellsAt_p pickN_none pickN_some elsOf_nil elsOf_l elsOf_own binV_i binV_s arith_add 
  arith_sub arith_mul arith_quo arith_rem arith_and arith_or arith_xor arith_eql arith_neq arith_lss arith_leq arith_gtr arith_geq shiftV_shl shiftV_shr strV_add strV_eql strV_neq 
  strV_lss strV_leq strV_gtr strV_geq unV_not unV_neg 
attribute [go_sem] List.map_cons List.map_nil Option.map_some Option.map_none Option.bind_some Option.bind_none
  List.getElem?_cons_zero List.getElem?_cons_succ List.getElem?_nil List.cons_append List.nil_append List.append_nil List.length_cons List.length_nil Nat.zero_add
  reduceCtorEq if_true if_false ite_true ite_false Nat.succ_ne_zero splice
  true_and and_true false_and and_false false_or or_false true_or or_true not_true_eq_false not_false_eq_true Bool.not_true Bool.not_false List.drop_zero List.drop_succ_cons List.drop_nil List.head?_cons List.head?_nil List.take_zero List.take_succ_cons List.take_nil Nat.le_refl Nat.lt_irrefl Nat.not_lt_zero Nat.zero_le implies_true forall_const
  List.set_cons_zero List.set_cons_succ
attribute [go_sem] minmax minGo fillL fillE bnd veqL sceq
end Go.Abs
