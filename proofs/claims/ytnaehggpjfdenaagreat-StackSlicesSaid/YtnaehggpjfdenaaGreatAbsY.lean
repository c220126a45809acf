/- Part of the library on which the proof stands: an abstract machine, its values and its soundness against the model; or what functions of the program do to such values. -/
import Derived.Test.YtnaehggpjfdenaaGreatAbsT
import Derived.ProofKit
import Derived.OpenShut
set_option linter.unusedVariables false
set_option linter.unusedSimpArgs false
namespace Go.Abs
open Go.RowKit
attribute [go_sem] Lk_n Lk_e Lk_r  Done_r  Qvb X6 frz Ys Zh Yx List.mapM_cons List.mapM_nil Option.bind_eq_bind Option.pure_def WeakH O.cl Z9
 AS_skip AS_reg AS_drw AS_seq AS_ite AS_blk AS_exit AS_ret Sq_n Sq_e Sq_r Bk_n Bk_r Bk_e AO_nil AO_cons Z1f Nx_mk Nx_no AD_nil AD_cons Z1h Z1i Qu0 Ax_mk Ax_no Ax0_mk Ax0_no Sx_call Qzx Gq_ot Gq_of
 Z0m Z0n Opt_ite    Z1c Z04   Gq_u     Z14  Z15 Gdn_ite Qv7 Qqy pk_true Qvj pk_or pk_and Qra Qm6 Gq_tt Z10 Z0u Gq_ft Gd_true Z16 Gd_some Gd_ite Qv8 Qqz
attribute [go_sem]
 St1_mv Z00 St1_ld St1_st Qtq St1_box St1_fa St1_ia St1_iaa St1_ix St1_bin  St1_eqa St1_un St1_cvi St1_len St1_mx St1_mn Qtp
 St1_bsi St1_bso St1_mks St1_app   St1_ext St1_nck St1_mkm St1_lk  Z02 St1_est Z03 Z01 St1_men St1_mnx St1_isn Qto  Isn_l0 Isn_l1 Qln
attribute [go_sem]
 Gq_t_mv  Gq_t_ld    Gq_t_fa Gq_t_ia   Z0y Z0w  Gq_t_un  Z0v
  Gq_t_mn   Z0x        Gq_t_lk     Gq_f_mv
 Qtu Gq_f_ld    Gq_f_fa Gq_f_ia   Z13   Gq_f_un  Z11 Gq_f_mx
  Z12
attribute [go_sem]
 Quo Qlm Qur Qul Qiw Qqq Quu Qut Qqi Qus Qqr Qql Qqm Quk Qqn
 Qqh Qun Qup Qiv Qqp Qqo Qqd Qqs Qlq Qq9 Qqj Qqb Qqe Quq
 Qqc Qlo Qqk Qlp ev_t ev_c get_nil Qxv put_nil Qvg         Qtl V_okA_b
    V_cl_b Qtk V_okA_i V_isD_i  idx_i  V_cl1_i V_cl_i
     Qzu Qtj V_okA_l     V_cl1_l V_cl_l Ql2 Qth
   Qzt        V_cl_p
         V_cl_mp
        V_cl_f Qtm V_okA_a
  V_cl_a Qti V_okA_t   idx_t    Qnn Qsz Qm8 Qm7  elsOf_l Qsp binV_i  Qtf
 Qt4 Qt8 Qt6 Qt5 Qte   Qtd Qt7 Qt9 Qta Qtb Qtc  Qlw
   unV_not unV_neg
attribute [go_sem] List.map_cons List.map_nil Option.map_some Option.map_none Option.bind_some Option.bind_none
 List.getElem?_cons_zero List.getElem?_cons_succ List.getElem?_nil List.cons_append List.nil_append List.append_nil List.length_cons List.length_nil Nat.zero_add
 reduceCtorEq if_true if_false ite_true ite_false Nat.succ_ne_zero K0
 true_and and_true false_and and_false false_or or_false true_or or_true not_true_eq_false not_false_eq_true Bool.not_true Bool.not_false List.drop_zero List.drop_succ_cons List.drop_nil List.head?_cons List.head?_nil List.take_zero List.take_succ_cons List.take_nil Nat.le_refl Nat.lt_irrefl Nat.not_lt_zero Nat.zero_le implies_true forall_const
 List.set_cons_zero List.set_cons_succ
attribute [go_sem] W4 Qjr Q06 Jt bnd Zi Q8v
attribute [go_sem]
  Qvz foot_mv Qmf Qsb
 Qw2 foot_ld Qvx foot_st Qjq Qn5
 Qw4 foot_fa Qw3 foot_ia
  Qrn Qyb
 Qrk Qy8 Qvw foot_un
 Qri Qy5 Qvy foot_mx Qw0 foot_mn
 Qjp Qn4 Qrm Qya Qrl Qy9
 Qro Qyc Qmg Qsc Qrf Qy2
 Qrj Qy7 Qrg Qy3
  Qw1 foot_lk Qrh Qy4
    Qmh Qjo
   ids1_i ids2_i       ids0_l
  Qxo   ids0_p   ids0_ip
  ids2_a
attribute [go_sem]
  Sx_mv Sg_mv Sx_pick Sg_pick Sx_ld Sg_ld Sx_st
 Qzz    Sx_fa Sg_fa Sx_ia Sg_ia
  Sx_bin Sg_bin   Sx_eqa Sg_eqa Sx_un Sg_un
  Sx_len Sg_len Sx_mx  Sx_mn
 Qzy Z06 Sx_bsi  Sx_bso    Sx_app
 Sx_copy  Sx_slc  Sx_ext  Sx_nck
  Sx_lk  Sx_mup
attribute [go_sem] chk Qae Dis V.empt List.headD_cons List.headD_nil List.tail_cons List.tail_nil List.flatMap_cons List.flatMap_nil List.drop_left' List.drop_left
attribute [go_sem] St1_sla   Qqa      Qnl Qnm
attribute [go_sem] Qqf
attribute [go_sem] Qn1 Qk8 Qxt Qxu Option.bind_some Option.some.injEq exists_eq_left' exists_eq_left
end Go.Abs
namespace Go.Abs
open Go.RowKit
def V.sh0 (n:Nat):V->V
 | .own id g off len=>.own (n+id) g off len
 | .p id g e j=>.p (n+id) g e j
 | .mp id=>.mp (n+id)
 | v=>v
def V.sh1 (n:Nat):V->V
 | .f fn caps=>.f fn (caps.map (V.sh0 n))
 | v=>v.sh0 n
def V.sh2 (n:Nat):V->V
 | .a cs=>.a (cs.map (V.sh1 n))
 | v=>v.sh1 n
def V.sh (n:Nat):V->V
 | .t vs=>.t (vs.map (V.sh2 n))
 | v=>v.sh2 n
def O.sh (n:Nat):O->O
 | .arr g sz els=>.arr g sz (els.map λel=>el.map (V.sh1 n))
 | .mp es=>.mp (es.map λe=>(e.1.sh2 n,e.2.sh2 n))
 | .md es=>.md (es.map λe=>(e.1.sh2 n,e.2.sh2 n))
 | .it mid since seen=>.it (mid.map (n+·)) since seen
 | .dead=>.dead
section
variable {P:Program} {J:Nat->Prop} {m:List Ent} {w:World} {h:List O}
theorem Pw.map_sh {R R':V->Value->Prop} {f:V->V} (hR:∀v c,R v c->R' (f v) c) {vs:List V} {cs:List Value} (hp:Pw R vs cs):Pw R' (vs.map f) cs:=by
 refine⟨by rw[List.length_map,hp.1],λi v c h1 h2=>?_⟩;rw[qp,qa]at h1
 obtain⟨u,hu,rfl⟩:=h1;exact hR u c (hp.2 i u c hu h2)
theorem Qhj {ma mb:List Ent} {id:Nat} {e:Ent} (he:mb[id]?=some e):(ma++mb)[ma.length+id]?=some e:=by
 rw[qf (Nat.le_add_right _ _),Nat.add_sub_cancel_left];exact he
theorem RL.sh (ma:List Ent) {v:V} {c:Value} (hv:RL J m w v c):RL J (ma++m) w (v.sh0 ma.length) c:=by
 cases v<;>simp only[V.sh0,RL]at hv ⊢
 case own=>obtain⟨h0,e,h1,h2⟩:=hv;exact⟨h0,e,Qhj h1,h2⟩
 case p=>obtain⟨h0,e,h1,h2⟩:=hv;exact⟨h0,e,Qhj h1,h2⟩
 case mp=>obtain⟨h0,e,h1,h2⟩:=hv;exact⟨h0,e,Qhj h1,h2⟩
 all_goals exact hv
theorem RC.sh (ma:List Ent) {v:V} {c:Value} (hv:RC J m w v c):RC J (ma++m) w (v.sh1 ma.length) c:=by
 cases v
 case f fn caps =>
  obtain⟨cs,h1,h2⟩:=hv;exact⟨cs,h1,h2.map_sh λ_ _ h=>RL.sh ma h⟩
 all_goals
  simp only[RC]at hv;exact RL.sh (w:=w) ma hv
theorem RA.sh (ma:List Ent) {v:V} {c:Value} (hv:RA J m w v c):RA J (ma++m) w (v.sh2 ma.length) c:=by
 cases v
 case any=>trivial
 case a cs =>
  obtain⟨arr,h1,h2⟩:=hv;exact⟨arr,h1,h2.map_sh λ_ _ h=>RC.sh ma h⟩
 all_goals
  simp only[RA]at hv;exact RC.sh (w:=w) ma hv
theorem RV.sh (ma:List Ent) {v:V} {c:Value} (hv:RV J m w v c):RV J (ma++m) w (v.sh ma.length) c:=by
 cases v
 case t vs =>
  obtain⟨arr,h1,h2⟩:=hv;exact⟨arr,h1,h2.map_sh λ_ _ h=>RA.sh ma h⟩
 all_goals
  simp only[RV]at hv;exact RA.sh (w:=w) ma hv
theorem RO.sh (ma:List Ent) {e:Ent} {o:O} (hv:RO J m w e o):RO J (ma++m) w e (o.sh ma.length):=by
 cases o with
 | dead=>trivial
 | mp es =>
   obtain⟨h1,B,h2,es',h3,h4,h5⟩:=hv;refine⟨h1,B,h2,es',h3,by simp[h4],λi k v hi=>?_⟩;rw[qp,qa]at hi
   obtain⟨⟨k0,v0⟩,hu,hkv⟩:=hi;simp only[Prod.mk.injEq]at hkv;obtain⟨rfl,rfl⟩:=hkv;obtain⟨en,h6,h7,h8,h9⟩:=h5 i k0 v0 hu;exact⟨en,h6,h7,RA.sh ma h8,RA.sh ma h9⟩
 | md es =>
   obtain⟨h1,B,h2,es',c,h3,h4,h5⟩:=hv;refine⟨h1,B,h2,es',c,h3,by simp[h4],λi k v hi=>?_⟩;rw[qp,qa]at hi
   obtain⟨⟨k0,v0⟩,hu,hkv⟩:=hi;simp only[Prod.mk.injEq]at hkv;obtain⟨rfl,rfl⟩:=hkv;obtain⟨en,h6,h8,h9⟩:=h5 i k0 v0 hu;exact⟨en,h6,RA.sh ma h8,RA.sh ma h9⟩
 | it mid since seen =>
   obtain⟨h1,h2,h3,B,h4,mb,h5,h6⟩:=hv;refine⟨h1,h2,h3,B,h4,mb,h5,?_⟩;cases mid with
   | none=>exact h6
   | some i =>
     obtain⟨e',h7,h8⟩:=h6;exact⟨e',Qhj h7,h8⟩
 | arr g sz els =>
   obtain⟨h1,h2,h3,h4⟩:=hv;refine⟨h1,h2,λi el hi=>?_,?_⟩
   ·rw[qp,qa]at hi
    obtain⟨u,hu,rfl⟩:=hi;rw[List.length_map];exact h3 i u hu
   ·cases hb:e.blk with
    | none =>
      rw[hb]at h4
      obtain⟨rfl,h5⟩:=h4;exact⟨rfl,h5⟩
    | some B =>
      rw[hb]at h4
      obtain⟨h5,h6,c,ty,fz,h7,h8,h9,h10⟩:=h4;refine⟨by simpa using h5,h6,c,ty,fz,h7,h8,h9,λi el j x hi hj=>?_⟩;rw[qp,qa]at hi
      obtain⟨u,hu,rfl⟩:=hi;rw[qp,qa]at hj
      obtain⟨y,hy,rfl⟩:=hj;obtain⟨cv,h11,h12⟩:=h10 i u j y hu hy;exact⟨cv,h11,RC.sh ma h12⟩
theorem RS.join {m0:List Ent} {h0:List O} (hr:RS J h m w) (hr0:RS J h0 m0 w) (hd:∀(id id':Nat) (e e':Ent) (B:Nat),m[id]?=some e->m0[id']?=some e'->e.blk=some B->e'.blk≠some B) :
  RS J (h++h0.map (O.sh h.length)) (m++m0) w:=by
 have hcase:∀(id:Nat) (e:Ent),(m++m0)[id]?=some e->m[id]?=some e∨(m.length<=id/\m0[id-m.length]?=some e):=by
  intro id e he;by_cases hlt:id<m.length
  ·rw[qd hlt]at he;exact .inl he
  ·rw[qf (by omega)]at he;exact .inr ⟨by omega,he⟩
 refine⟨by simp[hr.len,hr0.len],hr.jlt,λid e B he hb=>?_,λid id' e e' B he he' hb hb'=>?_,λid e o he ho=>?_⟩
 ·rcases hcase id e he with h1 | ⟨_,h1⟩
  ·exact hr.dis id e B h1 hb
  ·exact hr0.dis _ e B h1 hb
 ·rcases hcase id e he with h1 | ⟨g1,h1⟩<;>rcases hcase id' e' he' with h2 | ⟨g2,h2⟩
  ·exact hr.inj id id' e e' B h1 h2 hb hb'
  ·exact absurd hb' (hd _ _ e e' B h1 h2 hb)
  ·exact absurd hb (hd _ _ e' e B h2 h1 hb')
  ·have:=hr0.inj _ _ e e' B h1 h2 hb hb';omega
 ·by_cases hlt:id<m.length
  ·rw[qd hlt]at he
   rw[qd (by rw[<- hr.len];exact hlt)]at ho
   have:=hr.obj id e o he ho;exact RO.mono (λ_ h=>h) (λ_ _=>rfl) (Ml.app m m0) (λ_ _=>rfl) this
  ·rw[qf (by omega)]at he
   rw[qf (by rw[<- hr.len];omega),qp,qa]at ho
   obtain⟨o0,ho0,rfl⟩:=ho;rw[<- hr.len]at ho0 ⊢
   exact(hr0.obj _ e o0 he ho0).sh m
def NewC (P:Program) (f:FuncId) (vs:List V) (R:V->List O->Prop):Prop:=ACall P f vs [] R
theorem Ev.join {n:Nat} {J J':Nat->Prop} {m0:List Ent} {w':World} (hev:Ev n J m w J' m w') (hf:∀(id:Nat) (e:Ent) (B:Nat),m0[id]?=some e->e.blk=some B->w.heap.size<=B):Ev n J m w J' (m++m0) w' where
 os:=hev.os
 tape:=hev.tape
 output:=hev.output
 drawn:=hev.drawn
 size:=hev.size
 keep:=hev.keep
 fresh:=λid e B he hb=>by
  by_cases hlt:id<m.length
  ·rw[qd hlt]at he;exact hev.fresh id e B he hb
  ·rw[qf (by omega)]at he;exact .inl (hf _ e B he hb)
 sub:=hev.sub
 jnew:=hev.jnew
 ents:=λid e _ he=>Ml.app m m0 id e he
theorem NewC.lift {f:FuncId} {vs:List V} {R:V->List O->Prop} (hp:NewC P f vs R) (hcl:vs.all (V.cl 0)=true) (h:List O) :
  ACall P f vs h (λr h'=>∃r0 h0,R r0 h0/\r=r0.sh h.length/\h'=h++h0.map (O.sh h.length)):=by
 intro J m w cargs hr hpw;have hpw0:Pw (RV J [] w) vs cargs:=⟨hpw.1,λi v c hv hc=>by
  have:=Qhq (n:=0) (qj.1 hcl v (qb hv)) (hpw.2 i v c hv hc);simpa using this⟩
 refine (hp J [] w cargs ⟨rfl,hr.jlt,by simp,by simp,by simp⟩ hpw0).mono ?_;rintro e w' ⟨v,r,h0,J',m0,rfl,hR,hv,hrs,hev,_⟩;have hkeep:∀k,k<w.heap.size->w'.heap[k]?=w.heap[k]?:=λk hk=>(hev 0).keep k hk (by simp)
 have hjn:∀k,J' k->J k∨w.heap.size<=k:=λk hk=>by
  rcases (hev 0).jnew k hk with h1 | h1 | ⟨_,_,h1,_⟩
  ·exact .inl h1
  ·exact .inr h1
  ·simp at h1
 have hfr:∀(id:Nat) (e:Ent) (B:Nat),m0[id]?=some e->e.blk=some B->w.heap.size<=B:=λid e B h1 h2=>by
  rcases (hev 0).fresh id e B h1 h2 with h3 | ⟨_,_,h3,_⟩
  ·exact h3
  ·simp at h3
 have hr':RS J' h m w':=RS.same hr (hev 0).sub hjn hrs.jlt hkeep (hev 0).size;have hj:=RS.join hr' hrs (λid id' e e' B h1 h2 h3 h4=>by
  have h5:=(hr.dis id e B h1 h3).2;have h6:=hfr id' e' B h2 h4;omega)
 have hl:=hr.len;exact⟨v,r.sh h.length,_,J',m++m0,rfl,⟨r,h0,hR,rfl,rfl⟩,by rw[<- hl];exact RV.sh m hv,hj,
  λn=>Ev.join (Ev.same (hev 0).sub hjn hkeep (hev 0).size (hev 0).os (hev 0).tape (hev 0).output (hev 0).drawn) hfr,Ml.app m m0⟩
def Qbk (rs:List Rr) (R:V->List O->Prop) (x:X) (σ:St):Prop :=
 match x with
 | .e _=>False
 | _=>∃vs h1,rs.mapM (X6 σ)=some vs/\vs.all V.noT=true/\h1.length=σ.h.length/\WeakH σ.h.length σ.h h1/\R (Yx vs) h1
theorem DoneN_n {rs:List Rr} {R:V->List O->Prop} {σ:St}:Qbk rs R .n σ=∃vs h1,rs.mapM (X6 σ)=some vs/\vs.all V.noT=true/\h1.length=σ.h.length/\WeakH σ.h.length σ.h h1/\R (Yx vs) h1:=rfl
theorem DoneN_r {rs:List Rr} {R:V->List O->Prop} {σ:St}:Qbk rs R .r σ=∃vs h1,rs.mapM (X6 σ)=some vs/\vs.all V.noT=true/\h1.length=σ.h.length/\WeakH σ.h.length σ.h h1/\R (Yx vs) h1:=rfl
theorem DoneN_e {rs:List Rr} {R:V->List O->Prop} {σ:St} (id:Nat):Qbk rs R (.e id) σ=False:=rfl
@[congr] theorem DoneN_congr {rs:List Rr} {R:V->List O->Prop} {x x':X} {σ σ':St} (hx:x=x') (hh:σ=σ'):Qbk rs R x σ=Qbk rs R x' σ':=by rw[hx,hh]
theorem Q4z {v:V} {c:Value} (hn:v.noT=true) (hv:RV J m w v c):RA J m w v c:=by
 cases v<;>first | (simp[V.noT]at hn;done) | exact hv
theorem Qre (hmix:P.follows .mixedOrders=true) {f:FuncId} {fn:Func} {code:Code} {c:C} {rs:List Rr} (hf:P.funcs[f]?=some fn) (hb:fn.body=some code) (hc:Yu P fn.ntmps code=some c) (hrs:B1 P fn=some rs)
  {vs:List V} (hn:vs.length<=fn.ntmps) {R:V->List O->Prop} (hbody:AS P 0 c ⟨Z9 0 vs,[]⟩ (Qbk rs R)):NewC P f vs R:=by
 intro J m w cargs hr hp;have hm:m=[]:=ql (by rw[hr.len];rfl);subst hm;refine calls_of_wp hf hb ?_;have hcl:cargs.length<=fn.ntmps:=by rw[<- hp.1];exact hn
 have hrel:RelF fn.ntmps J [] (λt=>get t (Z9 0 vs)) [] { tmps:=cargs.toArray++Array.replicate (fn.ntmps-cargs.toArray.size) undef,defers:=[] } w:=by
  refine⟨λt=>?_,hr,rfl,by simp;omega⟩;simp only;rw[Yt,if_pos (Nat.zero_le _),Nat.sub_zero];cases hv:vs[t]? with
  | none=>trivial
  | some v =>
    obtain⟨cv,h1,h2⟩:=hp.get hv;have hlt:=(q8.1 h1).1;have:(cargs.toArray++Array.replicate (fn.ntmps-cargs.toArray.size) undef).getD t undef=cv:=by
     rw[Array.getD_eq_getD_getElem?,jw (by simpa using hlt)];simp[h1]
    rw[this];exact h2
 refine wp_mono (Qf9 hmix code c hc _ _ hbody J [] _ w hrel) ?_;rintro e a' w' ⟨x,σ',J',m',hx,hD,hrel',hev⟩;have hret:(∃vs h1,rs.mapM (X6 σ')=some vs/\vs.all V.noT=true/\h1.length=σ'.h.length/\WeakH σ'.h.length σ'.h h1/\R (Yx vs) h1) ->
   a'.defers=[]/\∃v,(results fn a'.tmps).run P w'=.ok v w'/\∃v0 r h' J'' m'',Ending.returned v=.returned v0/\R r h'/\RV J'' m'' w' r v0/\RS J'' h' m'' w'/\(∀n,Ev n J [] w J'' m'' w')/\Ml [] m'':=by
  rintro⟨us,h1,hus,hnt,hl,hwk,hR⟩;refine⟨hrel'.defers,?_⟩;obtain⟨cs,hcs,hrun⟩:=Wy hrel' hrs hus;have htk:=hrel'.rs.take (τ:=h1) (by omega) (by rw[hl];exact hwk);rw[hl,<- hrel'.rs.len,qi]at htk
  refine⟨_,hrun,_,Yx us,h1,J',m',rfl,hR,?_,htk,λn=>?_,Ml.nil _⟩
  ·have hpa:Pw (RA J' m' w') us cs:=⟨hcs.1,λi v c hi hc=>Q4z (qj.1 hnt v (qb hi)) (hcs.2 i v c hi hc)⟩
   have hl:=hpa.1
   match us,cs,hl,hpa with
   | [],[],_,hpa=>exact⟨#[],rfl,Pw.nil⟩
   | [v],[c],_,hpa =>
     simp only[Yx];have:(if h:([c]:List Value).toArray.size=1 then ([c]:List Value).toArray[0] else Value.tuple [c].toArray)=c:=by simp
     rw[this];exact Z7 hpa.head
   | v1::v2::vr,c1::c2::cr,_,hpa =>
     simp only[Yx];rw[dif_neg (by simp)];exact⟨_,rfl,by simpa using hpa⟩
  ·exact⟨hev.os,hev.tape,hev.output,hev.drawn,hev.size,hev.keep,hev.fresh,hev.sub,hev.jnew,by simp⟩
 cases e<;>cases x<;>simp only at hx<;>(try exact hx.elim)<;>(try exact hD.elim)
 ·exact hret hD
 ·exact hret hD
theorem Qme (hmix:P.follows .mixedOrders=true) {f:FuncId} {c:C} {rs:List Rr} {n:Nat} (hf:Q5 P f c rs n) {vs:List V} (hn:vs.length<=n) {R:V->List O->Prop}
  (hb:AS P 0 c ⟨Z9 0 vs,[]⟩ (Qbk rs R)):NewC P f vs R:=by
 obtain⟨fn,code,h1,h2,h3,h4,rfl⟩:=hf;exact Qre hmix h1 h2 h3 h4 hn hb
theorem Q56 {f:FuncId} {vs:List V} {h h0:List O} {r0:V} {k:V->List O->Prop} (hp:NewC P f vs (λr h=>r=r0/\h=h0)) (hcl:vs.all (V.cl 0)=true)
  (hk:k (r0.sh h.length) (h++h0.map (O.sh h.length))):ACall P f vs h k :=
 (hp.lift hcl h).mono λr' h' hh=>by obtain⟨r1,h1,⟨rfl,rfl⟩,rfl,rfl⟩:=hh;exact hk
theorem Xg {f:FuncId} {vs us:List V} {h:List O} {r0:V} {k:V->List O->Prop} (hu:Zh h us=some vs) (hp:PureC P f vs (·=r0)) (hsc:r0.scal=true)
  (hk:k r0 h):ACall P f us h k :=
 (PureC.lend hu hp (λr hh=>by rw[hh];exact hsc)).mono λr' h' hh=>by rw[hh.1,hh.2];exact hk
def WkE (env:List (Nat × V)) (n:Nat):List (Nat × V)->Prop
 | []=>True
 | p::r=>(p.2=.any∨(get p.1 env=p.2/\p.2.cl n=true))/\WkE env n r
theorem Qpt {env:List (Nat × V)} {n:Nat}:∀{l:List (Nat × V)},WkE env n l↔∀p∈l,p.2=.any∨(get p.1 env=p.2/\p.2.cl n=true)
 | []=>by simp[WkE]
 | p::r=>by
   have h:=@Qpt env n r;simp only[WkE,List.mem_cons,forall_eq_or_imp];rw[h]
theorem Weak_mk (n:Nat) (env env':List (Nat × V)) (h h':List O):Weak n ⟨env,h⟩ ⟨env',h'⟩=(n<=h'.length/\h'.length<=h.length/\WkE env h'.length env'/\WeakH h'.length h h'):=by
 unfold Weak;simp only;rw[Qpt]
theorem Ia:∀l:List UInt8,Kf (l.map Yv)=some l
 | []=>rfl
 | b::l=>by
   have hb:UInt8.ofNat b.toNat=b:=UInt8.ofNat_toNat;simp[Kf,Yv,Ia l,hb]
theorem Qpr (n:Nat) (b:UInt8):Kf (List.replicate n [.i .u8 (b.toNat:Int)])=some (List.replicate n b):=by
 have:=Ia (List.replicate n b);simpa[Yv]using this
section
variable {n0:Nat} {js:List Nat} {lg:List (List Nat × List Nat)} {al:List Nat} {K:List Nat × List Nat->V->List O->Prop}
theorem Qa {f:FuncId} {vs:List V} {r:V} (hc:CallIs P f vs r) (hk:K ([],[]) r h):Ub P n0 js lg al f vs h K :=
 ⟨[],[],r,h,Qpq _ _,⟨Nat.le_refl _,by simp,by simp,λ_ _ _=>rfl,λh2 _ _=>⟨r,[],by rw[Ef,List.append_nil];exact hc h2,.inl ⟨rfl,rfl,rfl⟩⟩⟩,hk⟩
theorem Qf6 {f:FuncId} {vs:List V} {r:V} {id:Nat} {o o':O} (ho:h[id]?=some o) (hp:∀h2:List O,h2[id]?=some o->ACall P f vs h2 (λr' h'=>r'=r/\h'=h2.set id o')) (hal:id<n0∨id∈al) (hc:chk js lg ([id],[id])=true)
  (hk:K ([id],[id]) r (h.set id o')):Ub P n0 js lg al f vs h K :=
 ⟨[id],[id],r,_,hc,⟨by simp,by simpa using ⟨Qw ho,hal⟩,by simp,λi _ hi=>Qdt hi,λh2 hle ha=>⟨r,[],
  (hp h2 ((ha id (by simp)).trans ho)).mono λr' h' hh=>by rw[Qip (Qw ho) hle,List.append_nil];exact hh,.inl ⟨rfl,rfl,by simp⟩⟩⟩,hk⟩
theorem Qnx (f:FuncId) (args:List A) (env:List (Nat × V)):Sg P n0 js lg (.call f args) (.b true) true env h K=Ub P n0 js lg ((args.map (A.ev env)).flatMap V.ids2) f (args.map (A.ev env)) h K:=by simp[Sg,Xa]
theorem Qo0 (f:FuncId) (args:List A) (env:List (Nat × V)):Sg P n0 js lg (.call f args) (.b false) false env h K=Ub P n0 js lg ((args.map (A.ev env)).flatMap V.ids2) f (args.map (A.ev env)) h K:=by simp[Sg,Xa]
theorem Qny (f:FuncId) (args:List A) (env:List (Nat × V)):Sg P n0 js lg (.call f args) (.b true) false env h K=K ([],[]) (.t []) h:=by simp[Sg,Xa]
theorem Qnz (f:FuncId) (args:List A) (env:List (Nat × V)):Sg P n0 js lg (.call f args) (.b false) true env h K=K ([],[]) (.t []) h:=by simp[Sg,Xa]
end
attribute [go_sem] Qnx Qo0 Qny Qnz
attribute [go_sem] WkE Weak_mk Ia  DoneN_n DoneN_r DoneN_e V.noT V.sh V.sh2 V.sh1 V.sh0 O.sh
end
end Go.Abs
namespace Go.Abs
open Go.RowKit
def keepE (l:List Nat) (env:List (Nat × V)):List (Nat × V):=l.map λt=>(t,get t env)
section
variable {P:Program}
def Qbl (n:Nat) (rs:List Rr) (R:V->List O->Prop) (x:X) (σ:St):Prop :=
 match x with
 | .e _=>False
 | _=>∃vs h1,rs.mapM (X6 σ)=some vs/\vs.all V.noT=true/\vs.all (V.cl h1.length)=true/\n<=h1.length/\h1.length<=σ.h.length/\WeakH h1.length σ.h h1/\R (Yx vs) h1
theorem Q87 {n:Nat} {rs:List Rr} {R:V->List O->Prop} {σ:St}:Qbl n rs R .r σ=∃vs h1,rs.mapM (X6 σ)=some vs/\vs.all V.noT=true/\vs.all (V.cl h1.length)=true/\n<=h1.length/\h1.length<=σ.h.length/\WeakH h1.length σ.h h1/\R (Yx vs) h1:=Rfl rfl
@[congr] theorem DoneA_congr {n:Nat} {rs:List Rr} {R:V->List O->Prop} {x x':X} {σ σ':St} (hx:x=x') (hh:σ=σ'):Qbl n rs R x σ=Qbl n rs R x' σ':=by rw[hx,hh]
attribute [go_sem]  Q87
theorem Ev.takeE {n k:Nat} {J J':Nat->Prop} {m m':List Ent} {w w':World} (hev:Ev n J m w J' m' w') (hk:n<=k):Ev n J m w J' (m'.take k) w' where
 os:=hev.os
 tape:=hev.tape
 output:=hev.output
 drawn:=hev.drawn
 size:=hev.size
 keep:=hev.keep
 fresh:=λid e B h1 h2=>by
  rw[jf]at h1
  split at h1
  ·exact hev.fresh id e B h1 h2
  ·simp at h1
 sub:=hev.sub
 jnew:=hev.jnew
 ents:=λid e hn h1=>by
  obtain⟨e',h2,h3,h4⟩:=hev.ents id e hn h1;exact⟨e',by rw[jf,if_pos (by omega)];exact h2,h3,h4⟩
theorem Uw (hmix:P.follows .mixedOrders=true) {f:FuncId} {c:C} {rs:List Rr} {N:Nat} (hfn:Q5 P f c rs N)
  {vs:List V} (hn:vs.length<=N) {h:List O} {R:V->List O->Prop} (hbody:AS P h.length c ⟨Z9 0 vs,h⟩ (Qbl h.length rs R)):ACall P f vs h R:=by
 obtain⟨fn,code,hf,hb,hc,hrs,rfl⟩:=hfn;intro J m w cargs hr hp;refine calls_of_wp hf hb ?_;have hcl:cargs.length<=fn.ntmps:=by rw[<- hp.1];exact hn
 have hrel:RelF fn.ntmps J m (λt=>get t (Z9 0 vs)) h { tmps:=cargs.toArray++Array.replicate (fn.ntmps-cargs.toArray.size) undef,defers:=[] } w:=by
  refine⟨λt=>?_,hr,rfl,by simp;omega⟩;simp only;rw[Yt,if_pos (Nat.zero_le _),Nat.sub_zero];cases hv:vs[t]? with
  | none=>trivial
  | some v =>
    obtain⟨cv,h1,h2⟩:=hp.get hv;have hlt:=(q8.1 h1).1;have:(cargs.toArray++Array.replicate (fn.ntmps-cargs.toArray.size) undef).getD t undef=cv:=by
     rw[Array.getD_eq_getD_getElem?,jw (by simpa using hlt)];simp[h1]
    rw[this];exact h2
 refine wp_mono (Qf9 hmix code c hc _ _ hbody J m _ w hrel) ?_;rintro e a' w' ⟨x,σ',J',m',hx,hD,hrel',hev⟩;have hret:(∃vs h1,rs.mapM (X6 σ')=some vs/\vs.all V.noT=true/\vs.all (V.cl h1.length)=true/\h.length<=h1.length/\h1.length<=σ'.h.length/\WeakH h1.length σ'.h h1/\R (Yx vs) h1) ->
   a'.defers=[]/\∃v,(results fn a'.tmps).run P w'=.ok v w'/\∃v0 r h' J'' m'',Ending.returned v=.returned v0/\R r h'/\RV J'' m'' w' r v0/\RS J'' h' m'' w'/\(∀n,Ev n J m w J'' m'' w')/\Ml m m'':=by
  rintro⟨us,h1,hus,hnt,hcls,hl1,hl2,hwk,hR⟩;refine⟨hrel'.defers,?_⟩;obtain⟨cs,hcs,hrun⟩:=Wy hrel' hrs hus;have htk:=hrel'.rs.take (τ:=h1) hl2 hwk;have hevt:Ev h.length J m w J' (m'.take h1.length) w':=hev.takeE hl1;have hml:Ml m (m'.take h1.length):=λid e h2=>hevt.ents id e (by rw[<- hr.len];exact(q8.1 h2).1) h2
  refine⟨_,hrun,_,Yx us,h1,J',m'.take h1.length,rfl,hR,?_,htk,λn=>⟨hevt.os,hevt.tape,hevt.output,hevt.drawn,hevt.size,hevt.keep,hevt.fresh,hevt.sub,hevt.jnew,λid e _ h2=>hml id e h2⟩,hml⟩;have hpa:Pw (RA J' (m'.take h1.length) w') us cs:=⟨hcs.1,λi v c hi hc=>by
   have hn:=qj.1 hnt v (qb hi);have hcl:=qj.1 hcls v (qb hi);exact Q4z hn (Qhq hcl (hcs.2 i v c hi hc))⟩
  have hl:=hpa.1
  match us,cs,hl,hpa with
  | [],[],_,hpa=>exact⟨#[],rfl,Pw.nil⟩
  | [v],[c],_,hpa =>
    simp only[Yx];have:(if h:([c]:List Value).toArray.size=1 then ([c]:List Value).toArray[0] else Value.tuple [c].toArray)=c:=by simp
    rw[this];exact Z7 hpa.head
  | v1::v2::vr,c1::c2::cr,_,hpa =>
    simp only[Yx];rw[dif_neg (by simp)];exact⟨_,rfl,by simpa using hpa⟩
 cases e<;>cases x<;>simp only at hx<;>(try exact hx.elim)<;>(try exact hD.elim)
 ·exact hret hD
 ·exact hret hD
def Qlb (rs:List Rr) (R:V->List O->Prop) (x:X) (σ:St):Prop :=
 match x with
 | .e _=>False
 | _=>∃vs,rs.mapM (X6 σ)=some vs/\vs.all V.noT=true/\R (Yx vs) σ.h
theorem DoneB_n {rs:List Rr} {R:V->List O->Prop} {σ:St}:Qlb rs R .n σ=∃vs,rs.mapM (X6 σ)=some vs/\vs.all V.noT=true/\R (Yx vs) σ.h:=Rfl rfl
theorem DoneB_r {rs:List Rr} {R:V->List O->Prop} {σ:St}:Qlb rs R .r σ=∃vs,rs.mapM (X6 σ)=some vs/\vs.all V.noT=true/\R (Yx vs) σ.h:=Rfl rfl
@[congr] theorem DoneB_congr {rs:List Rr} {R:V->List O->Prop} {x x':X} {σ σ':St} (hx:x=x') (hh:σ=σ'):Qlb rs R x σ=Qlb rs R x' σ':=by rw[hx,hh]
attribute [go_sem] DoneB_n DoneB_r
theorem B4 (hmix:P.follows .mixedOrders=true) {f:FuncId} {c:C} {rs:List Rr} {N:Nat} (hfn:Q5 P f c rs N)
  {vs:List V} (hn:vs.length<=N) {h:List O} {R:V->List O->Prop} (hbody:AS P h.length c ⟨Z9 0 vs,h⟩ (Qlb rs R)):ACall P f vs h R:=by
 obtain⟨fn,code,hf,hb,hc,hrs,rfl⟩:=hfn;intro J m w cargs hr hp;refine calls_of_wp hf hb ?_;have hcl:cargs.length<=fn.ntmps:=by rw[<- hp.1];exact hn
 have hrel:RelF fn.ntmps J m (λt=>get t (Z9 0 vs)) h { tmps:=cargs.toArray++Array.replicate (fn.ntmps-cargs.toArray.size) undef,defers:=[] } w:=by
  refine⟨λt=>?_,hr,rfl,by simp;omega⟩;simp only;rw[Yt,if_pos (Nat.zero_le _),Nat.sub_zero];cases hv:vs[t]? with
  | none=>trivial
  | some v =>
    obtain⟨cv,h1,h2⟩:=hp.get hv;have hlt:=(q8.1 h1).1;have:(cargs.toArray++Array.replicate (fn.ntmps-cargs.toArray.size) undef).getD t undef=cv:=by
     rw[Array.getD_eq_getD_getElem?,jw (by simpa using hlt)];simp[h1]
    rw[this];exact h2
 refine wp_mono (Qf9 hmix code c hc _ _ hbody J m _ w hrel) ?_;rintro e a' w' ⟨x,σ',J',m',hx,hD,hrel',hev⟩;have hret:(∃vs,rs.mapM (X6 σ')=some vs/\vs.all V.noT=true/\R (Yx vs) σ'.h) ->
   a'.defers=[]/\∃v,(results fn a'.tmps).run P w'=.ok v w'/\∃v0 r h' J'' m'',Ending.returned v=.returned v0/\R r h'/\RV J'' m'' w' r v0/\RS J'' h' m'' w'/\(∀n,Ev n J m w J'' m'' w')/\Ml m m'':=by
  rintro⟨us,hus,hnt,hR⟩;refine⟨hrel'.defers,?_⟩;obtain⟨cs,hcs,hrun⟩:=Wy hrel' hrs hus;have hevt:=hev;have hml:Ml m m':=λid e h2=>hevt.ents id e (by rw[<- hr.len];exact(q8.1 h2).1) h2
  refine⟨_,hrun,_,Yx us,σ'.h,J',m',rfl,hR,?_,hrel'.rs,λn=>⟨hevt.os,hevt.tape,hevt.output,hevt.drawn,hevt.size,hevt.keep,hevt.fresh,hevt.sub,hevt.jnew,λid e _ h2=>hml id e h2⟩,hml⟩;have hpa:Pw (RA J' m' w') us cs:=⟨hcs.1,λi v c hi hc=>by
   have hn:=qj.1 hnt v (qb hi);exact Q4z hn (hcs.2 i v c hi hc)⟩
  have hl:=hpa.1
  match us,cs,hl,hpa with
  | [],[],_,hpa=>exact⟨#[],rfl,Pw.nil⟩
  | [v],[c],_,hpa =>
    simp only[Yx];have:(if h:([c]:List Value).toArray.size=1 then ([c]:List Value).toArray[0] else Value.tuple [c].toArray)=c:=by simp
    rw[this];exact Z7 hpa.head
  | v1::v2::vr,c1::c2::cr,_,hpa =>
    simp only[Yx];rw[dif_neg (by simp)];exact⟨_,rfl,by simpa using hpa⟩
 cases e<;>cases x<;>simp only at hx<;>(try exact hx.elim)<;>(try exact hD.elim)
 ·exact hret hD
 ·exact hret hD
end
end Go.Abs
namespace Go.Abs
open Go.RowKit
section
variable (call:FuncId->List V->List O->Option (V × List O)) (callP:FuncId->List V->Option V)
def Z0 (g:Option (Nat × Bool)) (env:List (Nat × V)):Option Bool :=
 match g with
 | none=>some true
 | some (t,w)=>match get t env with
   | .b c=>some (c == w)
   | .t []=>some false
   | _=>none
end
end Go.Abs
namespace Go.Abs
open Go.RowKit
inductive Sch where
 | b
 | i (k:IntKind)
 | s
 | sl (el:List Sch)
mutual
def Sch.ok:Sch->V->Prop
 | .b,v=>∃x,v=.b x
 | .i k,v=>∃n,v=.i k n/\k.min<=n/\n<=k.max
 | .s,v=>∃l,v=.s l/\l.length<=9223372036854775807
 | .sl el,v=>∃els,v=.l el.length els/\els.length<=9223372036854775807/\∀e∈els,okL el e
def okL:List Sch->List V->Prop
 | [],vs=>vs=[]
 | c::cs,vs=>∃v r,vs=v::r/\c.ok v/\okL cs r
end
theorem Qgi:∀{ss:List Sch} {vs:List V},okL ss vs->vs.length=ss.length
 | [],vs,h=>by rw[okL]at h;subst h;rfl
 | c::cs,vs,h=>by rw[okL]at h;obtain⟨v,r,rfl,_,h2⟩:=h;simp[Qgi h2]
theorem Qoy {c:Sch} {v:V} (h:c.ok v):okL [c] [v]:=by
 rw[okL];exact⟨v,[],rfl,h,by rw[okL]⟩
theorem Q0r:∀{ss ts:List Sch} {vs us:List V},okL ss vs->okL ts us->okL (ss++ts) (vs++us)
 | [],ts,vs,us,h,k=>by rw[okL]at h;subst h;exact k
 | c::cs,ts,vs,us,h,k=>by
   rw[okL]at h
   obtain⟨v,r,rfl,h1,h2⟩:=h;rw[List.cons_append,okL];exact⟨v,r++us,rfl,h1,Q0r h2 k⟩
def Qj5 (P:Program) (g:TypeId->Option (List Sch)):List Field->Nat->Option (List Sch)
 | [],_=>some []
 | f::fs,acc=>match g f.type with
   | some ss=>if f.offset=acc/\P.cellsOf f.type=ss.length then (Qj5 P g fs (acc+ss.length)).map (ss++·) else none
   | none=>none
def Q1k (P:Program):Nat->TypeId->Option (List Sch)
 | 0,_=>none
 | d+1,T=>match P.underlying T with
   | some .bool=>some [.b]
   | some (.int k)=>some [.i k]
   | some .string=>some [.s]
   | some (.slice e)=>match Q1k P d e with
     | some el=>if P.cellsOf e=el.length/\0<el.length then some [.sl el] else none
     | none=>none
   | some (.struct fs)=>match Qj5 P (Q1k P d) fs.toList 0 with
     | some ss=>if P.cellsOf T=ss.length then some ss else none
     | none=>none
   | some (.array n e)=>match Q1k P d e with
     | some el=>if P.cellsOf e=el.length/\P.cellsOf T=n*el.length then some (List.replicate n el).flatten else none
     | none=>none
   | _=>none
section
variable {P:Program} {w:World} {H:Type} {enc:TypeId × Value->H} {sp:Nat->Bool} {held:Bool}
def Qi1 (P:Program) (w:World) {H:Type} (enc:TypeId × Value->H) (sp:Nat->Bool) (held:Bool) (d:Nat):Prop :=
 ∀T ss,Q1k P d T=some ss->∀fuel cs r,DataW.trod enc P w 0 sp held fuel T cs=some r->∃vs,Pw (RD (λk=>k<w.heap.size) w) vs cs/\okL ss vs
theorem Qj4 {d:Nat} (ih:Qi1 P w enc sp held d) {fuel:Nat} {cs:List Value}:∀(fs:List Field) (acc:Nat) (ss:List Sch),Qj5 P (Q1k P d) fs acc=some ss ->
  (∀f∈fs,∃y,DataW.trod enc P w 0 sp held fuel f.type ((cs.drop f.offset).take (P.cellsOf f.type))=some y)->∃vs,Pw (RD (λk=>k<w.heap.size) w) vs ((cs.drop acc).take ss.length)/\okL ss vs
 | [],acc,ss,h,_=>by
   simp only[Qj5,Option.some.injEq]at h;subst h;exact⟨[],by simpa using Pw.nil,by rw[okL]⟩
 | f::fs,acc,ss,h,hy=>by
   simp only[Qj5]at h;split at h
   ·rename_i s1 hs1;split at h
    ·rename_i hc;obtain⟨rfl,hc⟩:=hc;simp only[qa]at h;obtain⟨s2,hs2,rfl⟩:=h;obtain⟨y,hy1⟩:=hy f (by simp);rw[hc]at hy1
     obtain⟨v1,hp1,ho1⟩:=ih f.type s1 hs1 fuel _ y hy1;obtain⟨v2,hp2,ho2⟩:=Qj4 ih fs _ s2 hs2 (λg hg=>hy g (by simp[hg]));refine⟨v1++v2,?_,Q0r ho1 ho2⟩;have:(cs.drop f.offset).take (s1++s2).length=(cs.drop f.offset).take s1.length++(cs.drop (f.offset+s1.length)).take s2.length:=by
      rw[j7,List.take_add,List.drop_drop]
     rw[this];exact hp1.append hp2
    ·simp at h
   ·simp at h
theorem Qzp {d:Nat} (ih:Qi1 P w enc sp held d) {fuel:Nat} {cs:List Value} {e:TypeId} {el:List Sch} (he:Q1k P d e=some el):∀k:Nat,
  (∀i,i<k->∃y,DataW.trod enc P w 0 sp held fuel e ((cs.drop (i*el.length)).take el.length)=some y)->∃vs,Pw (RD (λk=>k<w.heap.size) w) vs (cs.take (k*el.length))/\okL (List.replicate k el).flatten vs
 | 0,_=>⟨[],by simpa using Pw.nil,by simp[okL]⟩
 | k+1,hy=>by
   obtain⟨v1,hp1,ho1⟩:=Qzp ih he k (λi hi=>hy i (by omega));obtain⟨y,hy1⟩:=hy k (by omega);obtain⟨v2,hp2,ho2⟩:=ih e el he fuel _ y hy1;refine⟨v1++v2,?_,?_⟩
   ·rw[Nat.add_mul,Nat.one_mul,List.take_add];exact hp1.append hp2
   ·rw[List.replicate_succ',List.flatten_append];simpa using Q0r ho1 ho2
theorem Qe2 {α β:Type} {R:Nat->α->Prop}:∀n:Nat,(∀i,i<n->∃x,R i x)->∃xs:List α,xs.length=n/\∀i x,xs[i]?=some x->R i x
 | 0,_=>⟨[],rfl,by simp⟩
 | n+1,h=>by
   obtain⟨xs,h1,h2⟩:=Qe2 (β:=β) n (λi hi=>h i (by omega));obtain⟨x,hx⟩:=h n (by omega);refine⟨xs++[x],by simp[h1],λi y hy=>?_⟩;by_cases hi:i<xs.length
   ·rw[qd hi]at hy;exact h2 i y hy
   ·rw[qf (by omega)]at hy
    have:i-xs.length=0:=by
     rcases Nat.eq_zero_or_pos (i-xs.length) with h0 | h0
     ·exact h0
     ·rw[show i-xs.length=(i-xs.length-1)+1 by omega]at hy;simp at hy
    rw[this]at hy
    simp at hy;subst hy;have:i=n:=by omega
    subst this;exact hx
theorem Q9j:∀d,Qi1 P w enc sp held d
 | 0=>λT ss h=>by simp[Q1k]at h
 | d+1=>by
   intro T ss hs fuel cs r hr;have ih:Qi1 P w enc sp held d:=Q9j d;simp only[Q1k]at hs;split at hs<;>rename_i hu
   ·obtain rfl:=Option.some.inj hs;obtain⟨x,rfl,_⟩:=DataW.trod_bool hu hr;exact⟨[.b x],Pw.cons (.b x) Pw.nil,Qoy (by rw[Sch.ok];exact⟨x,rfl⟩)⟩
   ·rename_i k;obtain rfl:=Option.some.inj hs;obtain⟨n,rfl,_,hw⟩:=DataW.trod_int hu hr;simp only[Lit.wf,Bool.and_eq_true,decide_eq_true_eq]at hw;exact⟨[.i k n],Pw.cons (.i k n) Pw.nil,Qoy (by rw[Sch.ok];exact⟨n,rfl,hw.1,hw.2⟩)⟩
   ·obtain rfl:=Option.some.inj hs;obtain⟨x,rfl,_,hl⟩:=DataW.trod_string hu hr;refine⟨[.s x.data.toList],Pw.cons ?_ Pw.nil,?_⟩
    ·have:=RD.s (J:=λk=>k<w.heap.size) (w:=w) x.data.toList;simpa using this
    ·simp only[okL,Sch.ok];refine⟨_,_,rfl,⟨_,rfl,?_⟩,rfl⟩;have:x.data.toList.length=x.size:=Array.length_toList;rw[this];exact hl
   ·rename_i e;split at hs
    ·rename_i el hel;split at hs
     ·rename_i hc;obtain⟨hc,hpos⟩:=hc;obtain rfl:=Option.some.inj hs;rcases DataW.trod_slice hu hr with⟨rfl,_⟩ | ⟨a,len,cap,elems,rest,n,_,rfl,_,_,hlc,hcm,hel2,hget,_,_⟩
      ·exact⟨[.l el.length []],Pw.cons (.l0 _) Pw.nil,by simp[okL,Sch.ok]⟩
      ·rw[hc]at hget
       have hex:∀i,i<len->∃(u:List V),∃csi,w.cells? 0 (a.add (i*el.length)) el.length=some csi/\Pw (RD (λk=>k<w.heap.size) w) u csi/\okL el u:=by
        intro i hi;have h1:=hget i hi;obtain⟨y,hy⟩:∃y,elems[i]?=some y:=⟨_,q9 (by omega)⟩
        rw[hy]at h1
        simp only[qr]at h1;obtain⟨csi,hcsi,hyi⟩:=h1;obtain⟨u,hu1,hu2⟩:=ih e el hel n csi y hyi;exact⟨u,csi,hcsi,hu1,hu2⟩
       obtain⟨els,hlen,hels⟩:=Qe2 (β:=Unit) len hex;refine⟨[.l el.length els],Pw.cons ?_ Pw.nil,?_⟩
       ·by_cases h0:len=0
        ·have:els=[]:=ql (by omega);subst this;subst h0;exact .l1 _ _ _
        ·have hblk:a.block<w.heap.size:=by
          obtain⟨u,csi,hcsi,_⟩:=hex 0 (by omega);have:=World.cells?_block hcsi hpos
          rwa [Addr.add_block]at this
         have key:∀i u j,els[i]?=some u->j<el.length->∃c,w.cell? (a.add (i*el.length+j))=some c/\∀v,u[j]?=some v->RD (λk=>k<w.heap.size) w v c:=by
          intro i u j hi hj;obtain⟨csi,hcsi,hp,_⟩:=hels i u hi;obtain⟨_,hl1,hg⟩:=World.cells?_some hcsi;have h2:=hg j hj;rw[Addr.add_add]at h2
          obtain⟨c,hcj⟩:∃c,csi[j]?=some c:=⟨_,q9 (by omega)⟩
          exact⟨c,by rw[h2,hcj],λv hv=>hp.2 j v c hv hcj⟩
         have:=RD.l (J:=λk=>k<w.heap.size) (w:=w) el.length els a cap (λi j=>(w.cell? (a.add (i*el.length+j))).getD undef) hblk (by omega)
          (λi u hi=>by obtain⟨_,_,_,ho⟩:=hels i u hi;exact Qgi ho)
          (λi j hi hj=>by
           obtain⟨u,hu⟩:∃u,els[i]?=some u:=⟨_,q9 hi⟩
           obtain⟨c,hc1,_⟩:=key i u j hu hj;rw[hc1];rfl)
          (λi u j v hi hv=>by
           have hj:j<el.length:=by
            obtain⟨_,_,_,ho⟩:=hels i u hi;rw[<- Qgi ho];exact(q8.1 hv).1
           obtain⟨c,hc1,hc2⟩:=key i u j hi hj;rw[hc1];exact hc2 v hv)
         rw[hlen]at this
         exact this
       ·simp only[okL,Sch.ok];refine⟨_,_,rfl,⟨els,rfl,?_,λu hu=>?_⟩,rfl⟩
        ·have:cap<=9223372036854775807:=by simpa[maxLen]using hcm
         omega
        ·obtain⟨i,hi,rfl⟩:=List.getElem_of_mem hu;obtain⟨_,_,_,ho⟩:=hels i _ (q9 hi);exact ho
     ·simp at hs
    ·simp at hs
   ·rename_i fs;split at hs
    ·rename_i s1 hs1;split at hs
     ·rename_i hc;obtain rfl:=Option.some.inj hs;obtain⟨xs,n,_,_,hl,hxl,hget⟩:=DataW.trod_struct hu hr;obtain⟨vs,hp,ho⟩:=Qj4 ih (fuel:=n) (cs:=cs) fs.toList 0 s1 hs1 (λf hf=>by
       obtain⟨i,hi,rfl⟩:=List.getElem_of_mem hf;have hi':i<fs.size:=by simpa using hi
       have h1:=hget i fs[i] (Array.getElem?_eq_getElem hi');refine⟨xs[i]'(by omega),?_⟩;rw[Array.getElem_toList,h1];exact q9 _)
      rw[List.drop_zero,<- hc,<- hl,qi]at hp
      exact⟨vs,hp,ho⟩
     ·simp at hs
    ·simp at hs
   ·rename_i n e;split at hs
    ·rename_i el hel;split at hs
     ·rename_i hc;obtain⟨hc1,hc2⟩:=hc;obtain rfl:=Option.some.inj hs;obtain⟨xs,m,_,_,hl,hxl,hget⟩:=DataW.trod_array hu hr;obtain⟨vs,hp,ho⟩:=Qzp ih (fuel:=m) (cs:=cs) hel n (λi hi=>by
       have h1:=hget i hi;rw[hc1]at h1
       refine⟨xs[i]'(by omega),?_⟩;rw[h1];exact q9 _)
      rw[<- hc2,<- hl,qi]at hp
      exact⟨vs,hp,ho⟩
     ·simp at hs
    ·simp at hs
   ·simp at hs
end
end Go.Abs
