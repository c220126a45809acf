/- Part of the library on which the proof stands: an abstract machine, its values and its soundness against the model; or what functions of the program do to such values. -/
import Derived.Test.YtnaehggpjfdenaaGreatAbsT
set_option linter.unusedVariables false
set_option linter.unusedSimpArgs false
namespace Go.Abs
open Go.RowKit
attribute [go_sem] Lk_n Lk_e Lk_r  Done_r  Qpf Yt frz X1 Y9 Yh List.mapM_cons List.mapM_nil Option.bind_eq_bind Option.pure_def WeakH O.cl Z5
 AS_skip AS_reg AS_drw AS_seq AS_ite AS_blk AS_exit AS_ret Sq_n Sq_e Sq_r Bk_n Bk_r Bk_e AO_nil AO_cons Qv1 Nx_mk Nx_no AD_nil AD_cons Qv3 Qv4 Qo7 Ax_mk Ax_no Ax0_mk Ax0_no Sx_call Qtk Gq_ot Gq_of
 Qu9 Qua Opt_ite    Quy Qts   Gq_u     Quq  Qur  Qpb Qlf pk_true Qpm pk_or pk_and Qlr Qh1 Gq_tt Qum Qug Gq_ft Gd_true Qus Gd_some Gd_ite Qpc Qlg
attribute [go_sem]
 St1_mv Qto St1_ld St1_st Qo3 St1_box St1_fa St1_ia St1_iaa St1_ix St1_bin  St1_eqa St1_un St1_cvi St1_len St1_mx St1_mn Qo2
 St1_bsi St1_bso St1_mks St1_app  St1_ext St1_nck St1_mkm St1_lk  Qtq St1_est Qtr Qtp St1_men St1_mnx St1_isn Qo1  Isn_l0 Isn_l1 Qgl
attribute [go_sem]
 Gq_t_mv  Gq_t_ld    Gq_t_fa Gq_t_ia   Quk Qui  Gq_t_un  Quh
  Gq_t_mn   Quj       Gq_t_lk     Gq_f_mv
 Qo6 Gq_f_ld    Gq_f_fa Gq_f_ia   Qup   Gq_f_un  Qun Gq_f_mx
  Quo
attribute [go_sem]
 Qov Qgk Qoy Qos Qds Ql6 Qp1 Qp0 Qky Qoz Ql7 Ql1 Ql2 Qor Ql3
 Qkx Qou Qow Qdr Ql5 Ql4 Qkt Ql8 Qkp Qkz Qkr Qku Qox
 Qks Qgm Ql0 Qgn ev_t ev_c get_nil Qri put_nil Qpk         Qnz V_okA_b
    V_cl_b Qny V_okA_i V_isD_i  idx_i  V_cl1_i V_cl_i
     Qth Qnx V_okA_l     V_cl1_l V_cl_l Qg0 Qnv
   Qtg        V_cl_p
         V_cl_mp
        V_cl_f Qo0 V_okA_a
  V_cl_a Qnw V_okA_t   idx_t    Qid Qnc Qh3 Qh2  elsOf_l Qn2 binV_i  Qnt
 Qni Qnm Qnk Qnj Qns   Qnr Qnl Qnn Qno Qnp Qnq  Qgs
   unV_not unV_neg
attribute [go_sem] List.map_cons List.map_nil Option.map_some Option.map_none Option.bind_some Option.bind_none
 List.getElem?_cons_zero List.getElem?_cons_succ List.getElem?_nil List.cons_append List.nil_append List.append_nil List.length_cons List.length_nil Nat.zero_add
 reduceCtorEq if_true if_false ite_true ite_false Nat.succ_ne_zero J3
 true_and and_true false_and and_false false_or or_false true_or or_true not_true_eq_false not_false_eq_true Bool.not_true Bool.not_false List.drop_zero List.drop_succ_cons List.drop_nil List.head?_cons List.head?_nil List.take_zero List.take_succ_cons List.take_nil Nat.le_refl Nat.lt_irrefl Nat.not_lt_zero Nat.zero_le implies_true forall_const
 List.set_cons_zero List.set_cons_succ
attribute [go_sem] Jy Qen Et Xy bnd Zf Q52
attribute [go_sem]
  Qpx foot_mv Qh9 Qmp
 Qpz foot_ld Qpv foot_st Qem Qhv
 Qq1 foot_fa Qq0 foot_ia
  Qm3 Qry
 Qm0 Qrv Qpu foot_un
 Qly Qrs Qpw foot_mx
 Qel Qhu Qm2 Qrx Qm1 Qrw
 Qm4 Qrz Qlv Qrp
 Qlz Qru Qlw Qrq
  Qpy foot_lk Qlx Qrr
    Qha Qek
   ids1_i ids2_i       ids0_l
  Qrc   ids0_p   ids0_ip
  ids2_a
attribute [go_sem]
  Sx_mv Sg_mv Sx_pick Sg_pick Sx_ld Sg_ld Sx_st
 Qtm    Sx_fa Sg_fa Sx_ia Sg_ia
  Sx_bin Sg_bin   Sx_eqa Sg_eqa Sx_un Sg_un
  Sx_len Sg_len Sx_mx
 Qtl Qtt Sx_bsi  Sx_bso    Sx_app
 Sx_slc  Sx_ext  Sx_nck
  Sx_lk  Sx_mup
attribute [go_sem] chk Q6a Dis V.empt List.headD_cons List.headD_nil List.tail_cons List.tail_nil List.flatMap_cons List.flatMap_nil List.drop_left' List.drop_left
attribute [go_sem] St1_sla   Qkq      Qib Qic
attribute [go_sem] Qkv
attribute [go_sem] Qhr Qf5 Qrg Qrh Option.bind_some Option.some.injEq exists_eq_left' exists_eq_left
end Go.Abs
namespace Go.Abs
open Go.RowKit
def V.sh0 (n:Nat):V->V
 | .own id g off len=>.own (n+id) g off len
 | .p id g e j=>.p (n+id) g e j
 | .mp id=>.mp (n+id)
 | v=>v
def V.sh1 (n:Nat):V->V
 | .f fn caps=>.f fn (caps.map (V.sh0 n))
 | v=>v.sh0 n
def V.sh2 (n:Nat):V->V
 | .a cs=>.a (cs.map (V.sh1 n))
 | v=>v.sh1 n
def V.sh (n:Nat):V->V
 | .t vs=>.t (vs.map (V.sh2 n))
 | v=>v.sh2 n
def O.sh (n:Nat):O->O
 | .arr g sz els=>.arr g sz (els.map λel=>el.map (V.sh1 n))
 | .mp es=>.mp (es.map λe=>(e.1.sh2 n,e.2.sh2 n))
 | .md es=>.md (es.map λe=>(e.1.sh2 n,e.2.sh2 n))
 | .it mid since seen=>.it (mid.map (n+·)) since seen
 | .dead=>.dead
section
variable {P:Program} {J:Nat->Prop} {m:List Ent} {w:World} {h:List O}
theorem Pw.map_sh {R R':V->Value->Prop} {f:V->V} (hR:∀v c,R v c->R' (f v) c) {vs:List V} {cs:List Value} (hp:Pw R vs cs):Pw R' (vs.map f) cs:=by
 refine⟨by rw[List.length_map,hp.1],λi v c h1 h2=>?_⟩
 rw[qp,qa]at h1
 obtain⟨u,hu,rfl⟩:=h1
 exact hR u c (hp.2 i u c hu h2)
theorem Qca {ma mb:List Ent} {id:Nat} {e:Ent} (he:mb[id]?=some e):(ma++mb)[ma.length+id]?=some e:=by
 rw[qf (Nat.le_add_right _ _),Nat.add_sub_cancel_left];exact he
theorem RL.sh (ma:List Ent) {v:V} {c:Value} (hv:RL J m w v c):RL J (ma++m) w (v.sh0 ma.length) c:=by
 cases v<;>simp only[V.sh0,RL]at hv ⊢
 case own=>obtain⟨h0,e,h1,h2⟩:=hv;exact⟨h0,e,Qca h1,h2⟩
 case p=>obtain⟨h0,e,h1,h2⟩:=hv;exact⟨h0,e,Qca h1,h2⟩
 case mp=>obtain⟨h0,e,h1,h2⟩:=hv;exact⟨h0,e,Qca h1,h2⟩
 all_goals exact hv
theorem RC.sh (ma:List Ent) {v:V} {c:Value} (hv:RC J m w v c):RC J (ma++m) w (v.sh1 ma.length) c:=by
 cases v
 case f fn caps =>
  obtain⟨cs,h1,h2⟩:=hv
  exact⟨cs,h1,h2.map_sh λ_ _ h=>RL.sh ma h⟩
 all_goals
  simp only[RC]at hv
  exact RL.sh (w:=w) ma hv
theorem RA.sh (ma:List Ent) {v:V} {c:Value} (hv:RA J m w v c):RA J (ma++m) w (v.sh2 ma.length) c:=by
 cases v
 case any=>trivial
 case a cs =>
  obtain⟨arr,h1,h2⟩:=hv
  exact⟨arr,h1,h2.map_sh λ_ _ h=>RC.sh ma h⟩
 all_goals
  simp only[RA]at hv
  exact RC.sh (w:=w) ma hv
theorem RV.sh (ma:List Ent) {v:V} {c:Value} (hv:RV J m w v c):RV J (ma++m) w (v.sh ma.length) c:=by
 cases v
 case t vs =>
  obtain⟨arr,h1,h2⟩:=hv
  exact⟨arr,h1,h2.map_sh λ_ _ h=>RA.sh ma h⟩
 all_goals
  simp only[RV]at hv
  exact RA.sh (w:=w) ma hv
theorem RO.sh (ma:List Ent) {e:Ent} {o:O} (hv:RO J m w e o):RO J (ma++m) w e (o.sh ma.length):=by
 cases o with
 | dead=>trivial
 | mp es =>
   obtain⟨h1,B,h2,es',h3,h4,h5⟩:=hv
   refine⟨h1,B,h2,es',h3,by simp[h4],λi k v hi=>?_⟩
   rw[qp,qa]at hi
   obtain⟨⟨k0,v0⟩,hu,hkv⟩:=hi
   simp only[Prod.mk.injEq]at hkv
   obtain⟨rfl,rfl⟩:=hkv
   obtain⟨en,h6,h7,h8,h9⟩:=h5 i k0 v0 hu
   exact⟨en,h6,h7,RA.sh ma h8,RA.sh ma h9⟩
 | md es =>
   obtain⟨h1,B,h2,es',c,h3,h4,h5⟩:=hv
   refine⟨h1,B,h2,es',c,h3,by simp[h4],λi k v hi=>?_⟩
   rw[qp,qa]at hi
   obtain⟨⟨k0,v0⟩,hu,hkv⟩:=hi
   simp only[Prod.mk.injEq]at hkv
   obtain⟨rfl,rfl⟩:=hkv
   obtain⟨en,h6,h8,h9⟩:=h5 i k0 v0 hu
   exact⟨en,h6,RA.sh ma h8,RA.sh ma h9⟩
 | it mid since seen =>
   obtain⟨h1,h2,h3,B,h4,mb,h5,h6⟩:=hv
   refine⟨h1,h2,h3,B,h4,mb,h5,?_⟩
   cases mid with
   | none=>exact h6
   | some i =>
     obtain⟨e',h7,h8⟩:=h6
     exact⟨e',Qca h7,h8⟩
 | arr g sz els =>
   obtain⟨h1,h2,h3,h4⟩:=hv
   refine⟨h1,h2,λi el hi=>?_,?_⟩
   ·rw[qp,qa]at hi
    obtain⟨u,hu,rfl⟩:=hi
    rw[List.length_map];exact h3 i u hu
   ·cases hb:e.blk with
    | none =>
      rw[hb]at h4
      obtain⟨rfl,h5⟩:=h4
      exact⟨rfl,h5⟩
    | some B =>
      rw[hb]at h4
      obtain⟨h5,h6,c,ty,fz,h7,h8,h9,h10⟩:=h4
      refine⟨by simpa using h5,h6,c,ty,fz,h7,h8,h9,λi el j x hi hj=>?_⟩
      rw[qp,qa]at hi
      obtain⟨u,hu,rfl⟩:=hi
      rw[qp,qa]at hj
      obtain⟨y,hy,rfl⟩:=hj
      obtain⟨cv,h11,h12⟩:=h10 i u j y hu hy
      exact⟨cv,h11,RC.sh ma h12⟩
theorem RS.join {m0:List Ent} {h0:List O} (hr:RS J h m w) (hr0:RS J h0 m0 w) (hd:∀(id id':Nat) (e e':Ent) (B:Nat),m[id]?=some e->m0[id']?=some e'->e.blk=some B->e'.blk≠some B) :
  RS J (h++h0.map (O.sh h.length)) (m++m0) w:=by
 have hcase:∀(id:Nat) (e:Ent),(m++m0)[id]?=some e->m[id]?=some e∨(m.length<=id/\m0[id-m.length]?=some e):=by
  intro id e he
  by_cases hlt:id<m.length
  ·rw[qd hlt]at he;exact .inl he
  ·rw[qf (by omega)]at he;exact .inr ⟨by omega,he⟩
 refine⟨by simp[hr.len,hr0.len],hr.jlt,λid e B he hb=>?_,λid id' e e' B he he' hb hb'=>?_,λid e o he ho=>?_⟩
 ·rcases hcase id e he with h1 | ⟨_,h1⟩
  ·exact hr.dis id e B h1 hb
  ·exact hr0.dis _ e B h1 hb
 ·rcases hcase id e he with h1 | ⟨g1,h1⟩<;>rcases hcase id' e' he' with h2 | ⟨g2,h2⟩
  ·exact hr.inj id id' e e' B h1 h2 hb hb'
  ·exact absurd hb' (hd _ _ e e' B h1 h2 hb)
  ·exact absurd hb (hd _ _ e' e B h2 h1 hb')
  ·have:=hr0.inj _ _ e e' B h1 h2 hb hb';omega
 ·by_cases hlt:id<m.length
  ·rw[qd hlt]at he
   rw[qd (by rw[<- hr.len];exact hlt)]at ho
   have:=hr.obj id e o he ho
   exact RO.mono (λ_ h=>h) (λ_ _=>rfl) (Ml.app m m0) (λ_ _=>rfl) this
  ·rw[qf (by omega)]at he
   rw[qf (by rw[<- hr.len];omega),qp,qa]at ho
   obtain⟨o0,ho0,rfl⟩:=ho
   rw[<- hr.len]at ho0 ⊢
   exact(hr0.obj _ e o0 he ho0).sh m
def NewC (P:Program) (f:FuncId) (vs:List V) (R:V->List O->Prop):Prop:=ACall P f vs [] R
theorem Ev.join {n:Nat} {J J':Nat->Prop} {m0:List Ent} {w':World} (hev:Ev n J m w J' m w') (hf:∀(id:Nat) (e:Ent) (B:Nat),m0[id]?=some e->e.blk=some B->w.heap.size<=B):Ev n J m w J' (m++m0) w' where
 os:=hev.os
 tape:=hev.tape
 output:=hev.output
 drawn:=hev.drawn
 size:=hev.size
 keep:=hev.keep
 fresh:=λid e B he hb=>by
  by_cases hlt:id<m.length
  ·rw[qd hlt]at he;exact hev.fresh id e B he hb
  ·rw[qf (by omega)]at he;exact .inl (hf _ e B he hb)
 sub:=hev.sub
 jnew:=hev.jnew
 ents:=λid e _ he=>Ml.app m m0 id e he
theorem NewC.lift {f:FuncId} {vs:List V} {R:V->List O->Prop} (hp:NewC P f vs R) (hcl:vs.all (V.cl 0)=true) (h:List O) :
  ACall P f vs h (λr h'=>∃r0 h0,R r0 h0/\r=r0.sh h.length/\h'=h++h0.map (O.sh h.length)):=by
 intro J m w cargs hr hpw
 have hpw0:Pw (RV J [] w) vs cargs:=⟨hpw.1,λi v c hv hc=>by
  have:=Qcg (n:=0) (qj.1 hcl v (qb hv)) (hpw.2 i v c hv hc)
  simpa using this⟩
 refine (hp J [] w cargs ⟨rfl,hr.jlt,by simp,by simp,by simp⟩ hpw0).mono ?_
 rintro e w' ⟨v,r,h0,J',m0,rfl,hR,hv,hrs,hev,_⟩
 have hkeep:∀k,k<w.heap.size->w'.heap[k]?=w.heap[k]?:=λk hk=>(hev 0).keep k hk (by simp)
 have hjn:∀k,J' k->J k∨w.heap.size<=k:=λk hk=>by
  rcases (hev 0).jnew k hk with h1 | h1 | ⟨_,_,h1,_⟩
  ·exact .inl h1
  ·exact .inr h1
  ·simp at h1
 have hfr:∀(id:Nat) (e:Ent) (B:Nat),m0[id]?=some e->e.blk=some B->w.heap.size<=B:=λid e B h1 h2=>by
  rcases (hev 0).fresh id e B h1 h2 with h3 | ⟨_,_,h3,_⟩
  ·exact h3
  ·simp at h3
 have hr':RS J' h m w':=RS.same hr (hev 0).sub hjn hrs.jlt hkeep (hev 0).size
 have hj:=RS.join hr' hrs (λid id' e e' B h1 h2 h3 h4=>by
  have h5:=(hr.dis id e B h1 h3).2
  have h6:=hfr id' e' B h2 h4
  omega)
 have hl:=hr.len
 exact⟨v,r.sh h.length,_,J',m++m0,rfl,⟨r,h0,hR,rfl,rfl⟩,by rw[<- hl];exact RV.sh m hv,hj,
  λn=>Ev.join (Ev.same (hev 0).sub hjn hkeep (hev 0).size (hev 0).os (hev 0).tape (hev 0).output (hev 0).drawn) hfr,Ml.app m m0⟩
def Q79 (rs:List Rr) (R:V->List O->Prop) (x:X) (σ:St):Prop :=
 match x with
 | .e _=>False
 | _=>∃vs h1,rs.mapM (Yt σ)=some vs/\vs.all V.noT=true/\h1.length=σ.h.length/\WeakH σ.h.length σ.h h1/\R (Yh vs) h1
theorem DoneN_n {rs:List Rr} {R:V->List O->Prop} {σ:St}:Q79 rs R .n σ=∃vs h1,rs.mapM (Yt σ)=some vs/\vs.all V.noT=true/\h1.length=σ.h.length/\WeakH σ.h.length σ.h h1/\R (Yh vs) h1:=rfl
theorem DoneN_r {rs:List Rr} {R:V->List O->Prop} {σ:St}:Q79 rs R .r σ=∃vs h1,rs.mapM (Yt σ)=some vs/\vs.all V.noT=true/\h1.length=σ.h.length/\WeakH σ.h.length σ.h h1/\R (Yh vs) h1:=rfl
theorem DoneN_e {rs:List Rr} {R:V->List O->Prop} {σ:St} (id:Nat):Q79 rs R (.e id) σ=False:=rfl
@[congr] theorem DoneN_congr {rs:List Rr} {R:V->List O->Prop} {x x':X} {σ σ':St} (hx:x=x') (hh:σ=σ'):Q79 rs R x σ=Q79 rs R x' σ':=by rw[hx,hh]
theorem Q24 {v:V} {c:Value} (hn:v.noT=true) (hv:RV J m w v c):RA J m w v c:=by
 cases v<;>first | (simp[V.noT]at hn;done) | exact hv
theorem Qlu (hmix:P.follows .mixedOrders=true) {f:FuncId} {fn:Func} {code:Code} {c:C} {rs:List Rr} (hf:P.funcs[f]?=some fn) (hb:fn.body=some code) (hc:Yg P fn.ntmps code=some c) (hrs:E1 P fn=some rs)
  {vs:List V} (hn:vs.length<=fn.ntmps) {R:V->List O->Prop} (hbody:AS P 0 c ⟨Z5 0 vs,[]⟩ (Q79 rs R)):NewC P f vs R:=by
 intro J m w cargs hr hp
 have hm:m=[]:=ql (by rw[hr.len];rfl)
 subst hm
 refine calls_of_wp hf hb ?_
 have hcl:cargs.length<=fn.ntmps:=by rw[<- hp.1];exact hn
 have hrel:RelF fn.ntmps J [] (λt=>get t (Z5 0 vs)) [] { tmps:=cargs.toArray++Array.replicate (fn.ntmps-cargs.toArray.size) undef,defers:=[] } w:=by
  refine⟨λt=>?_,hr,rfl,by simp;omega⟩
  simp only
  rw[Yf,if_pos (Nat.zero_le _),Nat.sub_zero]
  cases hv:vs[t]? with
  | none=>trivial
  | some v =>
    obtain⟨cv,h1,h2⟩:=hp.get hv
    have hlt:=(q8.1 h1).1
    have:(cargs.toArray++Array.replicate (fn.ntmps-cargs.toArray.size) undef).getD t undef=cv:=by
     rw[Array.getD_eq_getD_getElem?,jv (by simpa using hlt)]
     simp[h1]
    rw[this]
    exact h2
 refine wp_mono (Qa8 hmix code c hc _ _ hbody J [] _ w hrel) ?_
 rintro e a' w' ⟨x,σ',J',m',hx,hD,hrel',hev⟩
 have hret:(∃vs h1,rs.mapM (Yt σ')=some vs/\vs.all V.noT=true/\h1.length=σ'.h.length/\WeakH σ'.h.length σ'.h h1/\R (Yh vs) h1) ->
   a'.defers=[]/\∃v,(results fn a'.tmps).run P w'=.ok v w'/\∃v0 r h' J'' m'',Ending.returned v=.returned v0/\R r h'/\RV J'' m'' w' r v0/\RS J'' h' m'' w'/\(∀n,Ev n J [] w J'' m'' w')/\Ml [] m'':=by
  rintro⟨us,h1,hus,hnt,hl,hwk,hR⟩
  refine⟨hrel'.defers,?_⟩
  obtain⟨cs,hcs,hrun⟩:=Kq hrel' hrs hus
  have htk:=hrel'.rs.take (τ:=h1) (by omega) (by rw[hl];exact hwk)
  rw[hl,<- hrel'.rs.len,qi]at htk
  refine⟨_,hrun,_,Yh us,h1,J',m',rfl,hR,?_,htk,λn=>?_,Ml.nil _⟩
  ·have hpa:Pw (RA J' m' w') us cs:=⟨hcs.1,λi v c hi hc=>Q24 (qj.1 hnt v (qb hi)) (hcs.2 i v c hi hc)⟩
   have hl:=hpa.1
   match us,cs,hl,hpa with
   | [],[],_,hpa=>exact⟨#[],rfl,Pw.nil⟩
   | [v],[c],_,hpa =>
     simp only[Yh]
     have:(if h:([c]:List Value).toArray.size=1 then ([c]:List Value).toArray[0] else Value.tuple [c].toArray)=c:=by simp
     rw[this]
     exact Z2 hpa.head
   | v1::v2::vr,c1::c2::cr,_,hpa =>
     simp only[Yh]
     rw[dif_neg (by simp)]
     exact⟨_,rfl,by simpa using hpa⟩
  ·exact⟨hev.os,hev.tape,hev.output,hev.drawn,hev.size,hev.keep,hev.fresh,hev.sub,hev.jnew,by simp⟩
 cases e<;>cases x<;>simp only at hx<;>(try exact hx.elim)<;>(try exact hD.elim)
 ·exact hret hD
 ·exact hret hD
theorem Qpt (hmix:P.follows .mixedOrders=true) {f:FuncId} {c:C} {rs:List Rr} {n:Nat} (hf:Q9 P f c rs n) {vs:List V} (hn:vs.length<=n) {R:V->List O->Prop}
  (hb:AS P 0 c ⟨Z5 0 vs,[]⟩ (Q79 rs R)):NewC P f vs R:=by
 obtain⟨fn,code,h1,h2,h3,h4,rfl⟩:=hf
 exact Qlu hmix h1 h2 h3 h4 hn hb
theorem Qa9 {f:FuncId} {vs:List V} {h h0:List O} {r0:V} {k:V->List O->Prop} (hp:NewC P f vs (λr h=>r=r0/\h=h0)) (hcl:vs.all (V.cl 0)=true)
  (hk:k (r0.sh h.length) (h++h0.map (O.sh h.length))):ACall P f vs h k :=
 (hp.lift hcl h).mono λr' h' hh=>by obtain⟨r1,h1,⟨rfl,rfl⟩,rfl,rfl⟩:=hh;exact hk
theorem B5 {f:FuncId} {vs us:List V} {h:List O} {r0:V} {k:V->List O->Prop} (hu:Y9 h us=some vs) (hp:PureC P f vs (·=r0)) (hsc:r0.scal=true)
  (hk:k r0 h):ACall P f us h k :=
 (PureC.lend hu hp (λr hh=>by rw[hh];exact hsc)).mono λr' h' hh=>by rw[hh.1,hh.2];exact hk
def WkE (env:List (Nat × V)) (n:Nat):List (Nat × V)->Prop
 | []=>True
 | p::r=>(p.2=.any∨(get p.1 env=p.2/\p.2.cl n=true))/\WkE env n r
theorem Qkb {env:List (Nat × V)} {n:Nat}:∀{l:List (Nat × V)},WkE env n l↔∀p∈l,p.2=.any∨(get p.1 env=p.2/\p.2.cl n=true)
 | []=>by simp[WkE]
 | p::r=>by
   have h:=@Qkb env n r
   simp only[WkE,List.mem_cons,forall_eq_or_imp]
   rw[h]
theorem Weak_mk (n:Nat) (env env':List (Nat × V)) (h h':List O):Weak n ⟨env,h⟩ ⟨env',h'⟩=(n<=h'.length/\h'.length<=h.length/\WkE env h'.length env'/\WeakH h'.length h h'):=by
 unfold Weak
 simp only
 rw[Qkb]
theorem Ug:∀l:List UInt8,Jf (l.map Yl)=some l
 | []=>rfl
 | b::l=>by
   have hb:UInt8.ofNat b.toNat=b:=UInt8.ofNat_toNat
   simp[Jf,Yl,Ug l,hb]
theorem Qk8 (n:Nat) (b:UInt8):Jf (List.replicate n [.i .u8 (b.toNat:Int)])=some (List.replicate n b):=by
 have:=Ug (List.replicate n b)
 simpa[Yl]using this
section
variable {n0:Nat} {js:List Nat} {lg:List (List Nat × List Nat)} {al:List Nat} {K:List Nat × List Nat->V->List O->Prop}
theorem Qg {f:FuncId} {vs:List V} {r:V} (hc:CallIs P f vs r) (hk:K ([],[]) r h):W0 P n0 js lg al f vs h K :=
 ⟨[],[],r,h,Qk7 _ _,⟨Nat.le_refl _,by simp,by simp,λ_ _ _=>rfl,λh2 _ _=>⟨r,[],by rw[Wt,List.append_nil];exact hc h2,.inl ⟨rfl,rfl,rfl⟩⟩⟩,hk⟩
theorem Qa6 {f:FuncId} {vs:List V} {r:V} {id:Nat} {o o':O} (ho:h[id]?=some o) (hp:∀h2:List O,h2[id]?=some o->ACall P f vs h2 (λr' h'=>r'=r/\h'=h2.set id o')) (hal:id<n0∨id∈al) (hc:chk js lg ([id],[id])=true)
  (hk:K ([id],[id]) r (h.set id o')):W0 P n0 js lg al f vs h K :=
 ⟨[id],[id],r,_,hc,⟨by simp,by simpa using ⟨Qu ho,hal⟩,by simp,λi _ hi=>Q90 hi,λh2 hle ha=>⟨r,[],
  (hp h2 ((ha id (by simp)).trans ho)).mono λr' h' hh=>by rw[Qdj (Qu ho) hle,List.append_nil];exact hh,.inl ⟨rfl,rfl,by simp⟩⟩⟩,hk⟩
theorem Qil (f:FuncId) (args:List A) (env:List (Nat × V)):Sg P n0 js lg (.call f args) (.b true) true env h K=W0 P n0 js lg ((args.map (A.ev env)).flatMap V.ids2) f (args.map (A.ev env)) h K:=by simp[Sg,Yo]
theorem Qio (f:FuncId) (args:List A) (env:List (Nat × V)):Sg P n0 js lg (.call f args) (.b false) false env h K=W0 P n0 js lg ((args.map (A.ev env)).flatMap V.ids2) f (args.map (A.ev env)) h K:=by simp[Sg,Yo]
theorem Qim (f:FuncId) (args:List A) (env:List (Nat × V)):Sg P n0 js lg (.call f args) (.b true) false env h K=K ([],[]) (.t []) h:=by simp[Sg,Yo]
theorem Qin (f:FuncId) (args:List A) (env:List (Nat × V)):Sg P n0 js lg (.call f args) (.b false) true env h K=K ([],[]) (.t []) h:=by simp[Sg,Yo]
end
attribute [go_sem] Qil Qio Qim Qin
attribute [go_sem] WkE Weak_mk Ug  DoneN_n DoneN_r DoneN_e V.noT V.sh V.sh2 V.sh1 V.sh0 O.sh
end
end Go.Abs
namespace Go.Abs
open Go.RowKit
def keepE (l:List Nat) (env:List (Nat × V)):List (Nat × V):=l.map λt=>(t,get t env)
section
variable {P:Program}
def Qa5 (n:Nat) (rs:List Rr) (R:V->List O->Prop) (x:X) (σ:St):Prop :=
 match x with
 | .e _=>False
 | _=>∃vs h1,rs.mapM (Yt σ)=some vs/\vs.all V.noT=true/\vs.all (V.cl h1.length)=true/\n<=h1.length/\h1.length<=σ.h.length/\WeakH h1.length σ.h h1/\R (Yh vs) h1
theorem Qd3 {n:Nat} {rs:List Rr} {R:V->List O->Prop} {σ:St}:Qa5 n rs R .r σ=∃vs h1,rs.mapM (Yt σ)=some vs/\vs.all V.noT=true/\vs.all (V.cl h1.length)=true/\n<=h1.length/\h1.length<=σ.h.length/\WeakH h1.length σ.h h1/\R (Yh vs) h1:=Rfl rfl
@[congr] theorem DoneA_congr {n:Nat} {rs:List Rr} {R:V->List O->Prop} {x x':X} {σ σ':St} (hx:x=x') (hh:σ=σ'):Qa5 n rs R x σ=Qa5 n rs R x' σ':=by rw[hx,hh]
attribute [go_sem]  Qd3
theorem Ev.takeE {n k:Nat} {J J':Nat->Prop} {m m':List Ent} {w w':World} (hev:Ev n J m w J' m' w') (hk:n<=k):Ev n J m w J' (m'.take k) w' where
 os:=hev.os
 tape:=hev.tape
 output:=hev.output
 drawn:=hev.drawn
 size:=hev.size
 keep:=hev.keep
 fresh:=λid e B h1 h2=>by
  rw[jf]at h1
  split at h1
  ·exact hev.fresh id e B h1 h2
  ·simp at h1
 sub:=hev.sub
 jnew:=hev.jnew
 ents:=λid e hn h1=>by
  obtain⟨e',h2,h3,h4⟩:=hev.ents id e hn h1
  exact⟨e',by rw[jf,if_pos (by omega)];exact h2,h3,h4⟩
theorem Q76 (hmix:P.follows .mixedOrders=true) {f:FuncId} {c:C} {rs:List Rr} {N:Nat} (hfn:Q9 P f c rs N)
  {vs:List V} (hn:vs.length<=N) {h:List O} {R:V->List O->Prop} (hbody:AS P h.length c ⟨Z5 0 vs,h⟩ (Qa5 h.length rs R)):ACall P f vs h R:=by
 obtain⟨fn,code,hf,hb,hc,hrs,rfl⟩:=hfn
 intro J m w cargs hr hp
 refine calls_of_wp hf hb ?_
 have hcl:cargs.length<=fn.ntmps:=by rw[<- hp.1];exact hn
 have hrel:RelF fn.ntmps J m (λt=>get t (Z5 0 vs)) h { tmps:=cargs.toArray++Array.replicate (fn.ntmps-cargs.toArray.size) undef,defers:=[] } w:=by
  refine⟨λt=>?_,hr,rfl,by simp;omega⟩
  simp only
  rw[Yf,if_pos (Nat.zero_le _),Nat.sub_zero]
  cases hv:vs[t]? with
  | none=>trivial
  | some v =>
    obtain⟨cv,h1,h2⟩:=hp.get hv
    have hlt:=(q8.1 h1).1
    have:(cargs.toArray++Array.replicate (fn.ntmps-cargs.toArray.size) undef).getD t undef=cv:=by
     rw[Array.getD_eq_getD_getElem?,jv (by simpa using hlt)]
     simp[h1]
    rw[this]
    exact h2
 refine wp_mono (Qa8 hmix code c hc _ _ hbody J m _ w hrel) ?_
 rintro e a' w' ⟨x,σ',J',m',hx,hD,hrel',hev⟩
 have hret:(∃vs h1,rs.mapM (Yt σ')=some vs/\vs.all V.noT=true/\vs.all (V.cl h1.length)=true/\h.length<=h1.length/\h1.length<=σ'.h.length/\WeakH h1.length σ'.h h1/\R (Yh vs) h1) ->
   a'.defers=[]/\∃v,(results fn a'.tmps).run P w'=.ok v w'/\∃v0 r h' J'' m'',Ending.returned v=.returned v0/\R r h'/\RV J'' m'' w' r v0/\RS J'' h' m'' w'/\(∀n,Ev n J m w J'' m'' w')/\Ml m m'':=by
  rintro⟨us,h1,hus,hnt,hcls,hl1,hl2,hwk,hR⟩
  refine⟨hrel'.defers,?_⟩
  obtain⟨cs,hcs,hrun⟩:=Kq hrel' hrs hus
  have htk:=hrel'.rs.take (τ:=h1) hl2 hwk
  have hevt:Ev h.length J m w J' (m'.take h1.length) w':=hev.takeE hl1
  have hml:Ml m (m'.take h1.length):=λid e h2=>hevt.ents id e (by rw[<- hr.len];exact(q8.1 h2).1) h2
  refine⟨_,hrun,_,Yh us,h1,J',m'.take h1.length,rfl,hR,?_,htk,λn=>⟨hevt.os,hevt.tape,hevt.output,hevt.drawn,hevt.size,hevt.keep,hevt.fresh,hevt.sub,hevt.jnew,λid e _ h2=>hml id e h2⟩,hml⟩
  have hpa:Pw (RA J' (m'.take h1.length) w') us cs:=⟨hcs.1,λi v c hi hc=>by
   have hn:=qj.1 hnt v (qb hi)
   have hcl:=qj.1 hcls v (qb hi)
   exact Q24 hn (Qcg hcl (hcs.2 i v c hi hc))⟩
  have hl:=hpa.1
  match us,cs,hl,hpa with
  | [],[],_,hpa=>exact⟨#[],rfl,Pw.nil⟩
  | [v],[c],_,hpa =>
    simp only[Yh]
    have:(if h:([c]:List Value).toArray.size=1 then ([c]:List Value).toArray[0] else Value.tuple [c].toArray)=c:=by simp
    rw[this]
    exact Z2 hpa.head
  | v1::v2::vr,c1::c2::cr,_,hpa =>
    simp only[Yh]
    rw[dif_neg (by simp)]
    exact⟨_,rfl,by simpa using hpa⟩
 cases e<;>cases x<;>simp only at hx<;>(try exact hx.elim)<;>(try exact hD.elim)
 ·exact hret hD
 ·exact hret hD
def Qg8 (rs:List Rr) (R:V->List O->Prop) (x:X) (σ:St):Prop :=
 match x with
 | .e _=>False
 | _=>∃vs,rs.mapM (Yt σ)=some vs/\vs.all V.noT=true/\R (Yh vs) σ.h
theorem DoneB_n {rs:List Rr} {R:V->List O->Prop} {σ:St}:Qg8 rs R .n σ=∃vs,rs.mapM (Yt σ)=some vs/\vs.all V.noT=true/\R (Yh vs) σ.h:=Rfl rfl
theorem DoneB_r {rs:List Rr} {R:V->List O->Prop} {σ:St}:Qg8 rs R .r σ=∃vs,rs.mapM (Yt σ)=some vs/\vs.all V.noT=true/\R (Yh vs) σ.h:=Rfl rfl
@[congr] theorem DoneB_congr {rs:List Rr} {R:V->List O->Prop} {x x':X} {σ σ':St} (hx:x=x') (hh:σ=σ'):Qg8 rs R x σ=Qg8 rs R x' σ':=by rw[hx,hh]
attribute [go_sem] DoneB_n DoneB_r
theorem E4 (hmix:P.follows .mixedOrders=true) {f:FuncId} {c:C} {rs:List Rr} {N:Nat} (hfn:Q9 P f c rs N)
  {vs:List V} (hn:vs.length<=N) {h:List O} {R:V->List O->Prop} (hbody:AS P h.length c ⟨Z5 0 vs,h⟩ (Qg8 rs R)):ACall P f vs h R:=by
 obtain⟨fn,code,hf,hb,hc,hrs,rfl⟩:=hfn
 intro J m w cargs hr hp
 refine calls_of_wp hf hb ?_
 have hcl:cargs.length<=fn.ntmps:=by rw[<- hp.1];exact hn
 have hrel:RelF fn.ntmps J m (λt=>get t (Z5 0 vs)) h { tmps:=cargs.toArray++Array.replicate (fn.ntmps-cargs.toArray.size) undef,defers:=[] } w:=by
  refine⟨λt=>?_,hr,rfl,by simp;omega⟩
  simp only
  rw[Yf,if_pos (Nat.zero_le _),Nat.sub_zero]
  cases hv:vs[t]? with
  | none=>trivial
  | some v =>
    obtain⟨cv,h1,h2⟩:=hp.get hv
    have hlt:=(q8.1 h1).1
    have:(cargs.toArray++Array.replicate (fn.ntmps-cargs.toArray.size) undef).getD t undef=cv:=by
     rw[Array.getD_eq_getD_getElem?,jv (by simpa using hlt)]
     simp[h1]
    rw[this]
    exact h2
 refine wp_mono (Qa8 hmix code c hc _ _ hbody J m _ w hrel) ?_
 rintro e a' w' ⟨x,σ',J',m',hx,hD,hrel',hev⟩
 have hret:(∃vs,rs.mapM (Yt σ')=some vs/\vs.all V.noT=true/\R (Yh vs) σ'.h) ->
   a'.defers=[]/\∃v,(results fn a'.tmps).run P w'=.ok v w'/\∃v0 r h' J'' m'',Ending.returned v=.returned v0/\R r h'/\RV J'' m'' w' r v0/\RS J'' h' m'' w'/\(∀n,Ev n J m w J'' m'' w')/\Ml m m'':=by
  rintro⟨us,hus,hnt,hR⟩
  refine⟨hrel'.defers,?_⟩
  obtain⟨cs,hcs,hrun⟩:=Kq hrel' hrs hus
  have hevt:=hev
  have hml:Ml m m':=λid e h2=>hevt.ents id e (by rw[<- hr.len];exact(q8.1 h2).1) h2
  refine⟨_,hrun,_,Yh us,σ'.h,J',m',rfl,hR,?_,hrel'.rs,λn=>⟨hevt.os,hevt.tape,hevt.output,hevt.drawn,hevt.size,hevt.keep,hevt.fresh,hevt.sub,hevt.jnew,λid e _ h2=>hml id e h2⟩,hml⟩
  have hpa:Pw (RA J' m' w') us cs:=⟨hcs.1,λi v c hi hc=>by
   have hn:=qj.1 hnt v (qb hi)
   exact Q24 hn (hcs.2 i v c hi hc)⟩
  have hl:=hpa.1
  match us,cs,hl,hpa with
  | [],[],_,hpa=>exact⟨#[],rfl,Pw.nil⟩
  | [v],[c],_,hpa =>
    simp only[Yh]
    have:(if h:([c]:List Value).toArray.size=1 then ([c]:List Value).toArray[0] else Value.tuple [c].toArray)=c:=by simp
    rw[this]
    exact Z2 hpa.head
  | v1::v2::vr,c1::c2::cr,_,hpa =>
    simp only[Yh]
    rw[dif_neg (by simp)]
    exact⟨_,rfl,by simpa using hpa⟩
 cases e<;>cases x<;>simp only at hx<;>(try exact hx.elim)<;>(try exact hD.elim)
 ·exact hret hD
 ·exact hret hD
end
end Go.Abs
namespace Go.Abs
open Go.RowKit
section
variable (call:FuncId->List V->List O->Option (V × List O)) (callP:FuncId->List V->Option V)
def Z0 (g:Option (Nat × Bool)) (env:List (Nat × V)):Option Bool :=
 match g with
 | none=>some true
 | some (t,w)=>match get t env with
   | .b c=>some (c == w)
   | .t []=>some false
   | _=>none
end
end Go.Abs
