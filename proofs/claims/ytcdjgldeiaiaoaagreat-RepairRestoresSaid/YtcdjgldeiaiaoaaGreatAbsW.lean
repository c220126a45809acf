/- Part of the library on which the proof stands: an abstract machine, its values and its soundness against the model; or what functions of the program do to such values. -/
import Derived.Test.YtcdjgldeiaiaoaaGreatAbsT
set_option linter.unusedVariables false
set_option linter.unusedSimpArgs false
namespace Go.Abs
open Go.RowKit
attribute [go_sem] Lk_n Lk_e Lk_r  Done_r  Qhn Y7 frz Jd Yq Y6 List.mapM_cons List.mapM_nil Option.bind_eq_bind Option.pure_def WeakH O.cl Z7
 AS_skip AS_reg AS_drw AS_seq AS_ite AS_blk AS_exit AS_ret Sq_n Sq_e Sq_r Bk_n Bk_r Bk_e AO_nil AO_cons Qln Nx_mk Nx_no AD_nil AD_cons Qlp Qlq Qgm Ax_mk Ax_no Ax0_mk Ax0_no Sx_call  Gq_ot Gq_of
 Ql0 Ql1 Opt_ite    Qll Qks   Gq_u     Qle  Qlf  Qhl Qei pk_true Qhs pk_or pk_and Qep Qaj Gq_tt Gq_ff Gq_tf Gq_ft Gd_true Qlg Gd_some  Qhm Qej
attribute [go_sem]
 St1_mv Qkp St1_ld St1_st Qgj St1_box St1_fa St1_ia St1_iaa St1_ix St1_bin St1_eqa St1_un St1_len St1_mx St1_mn Qgi
 St1_bsi St1_bso St1_mks St1_app St1_slc St1_ext St1_nck St1_mkf St1_mkm St1_lk St1_mup Qkr St1_est Qkq St1_men St1_mnx St1_isn Qgh  Isn_l0 Isn_l1 Qa6
attribute [go_sem]
 Gq_t_mv  Gq_t_ld    Gq_t_fa Gq_t_ia   Qla Ql8 Gq_t_un Ql7
  Gq_t_mn Qca  Ql9            Gq_f_mv
  Gq_f_ld    Gq_f_fa    Qld  Gq_f_un Qlb Gq_f_mx
   Qlc
attribute [go_sem]
 Qh7 Qa5 Qha Qh4 Q7x Qec Qhd Qhc Qe6 Qhb Qed Qe9 Qh3
 Qe5 Qh6 Qh8 Q7w Qeb Qea Qe0 Qee Qdw Qe7 Qdy Qe2 Qe1 Qh9
 Qdz Qa7 Qe8 ev_t ev_c get_nil Qiy put_nil Qhr         Qge V_okA_b
    V_cl_b Qgc V_okA_i V_isD_i  idx_i  V_cl1_i V_cl_i
     Qkk Qgb V_okA_l      V_cl_l Q9p Qg8
   Qkj    Qg9  V_cl0_p  V_cl_p
          V_cl_mp
    Qgd V_okA_f      V_cl_f Qgf V_okA_a
  V_cl_a Qga V_okA_t   idx_t    Qbw Qft Qal Qak  elsOf_l Qfo binV_i  Qg7
 Qfy Qg0   Qg6   Qg5 Qfz Qg1 Qg2 Qg3 Qg4  Qac
   unV_not unV_neg
attribute [go_sem] List.map_cons List.map_nil Option.map_some Option.map_none Option.bind_some Option.bind_none
 List.getElem?_cons_zero List.getElem?_cons_succ List.getElem?_nil List.cons_append List.nil_append List.append_nil List.length_cons List.length_nil Nat.zero_add
 reduceCtorEq if_true if_false ite_true ite_false Nat.succ_ne_zero Xq
 true_and and_true false_and and_false false_or or_false true_or or_true not_true_eq_false not_false_eq_true Bool.not_true Bool.not_false List.drop_zero List.drop_succ_cons List.drop_nil List.head?_cons List.head?_nil List.take_zero List.take_succ_cons List.take_nil Nat.le_refl Nat.lt_irrefl Nat.not_lt_zero Nat.zero_le implies_true forall_const
 List.set_cons_zero List.set_cons_succ
attribute [go_sem] J9 Q8e Uf Xo bnd Z3 Er
attribute [go_sem]
  Qi5 foot_mv Qas Qfc
 Qi7 foot_ld Qi4 foot_st Q8c Qbe
 Qi9 foot_fa Qi8 foot_ia
  Qey Qja
 Qew Qj8
 Qev Qj6
 Q8b Qbd Qex Qj9
 Qez Qjb
  Qet Qj4
  Qi6 foot_lk Qeu Qj5
   Qat
       ids0_l
    ids0_p   ids0_ip
attribute [go_sem]
  Sx_mv Sg_mv Sx_pick Sg_pick Sx_ld Sg_ld Sx_st
 Qkn    Sx_fa Sg_fa Sx_ia Sg_ia
  Sx_bin Sg_bin Sx_eqa Sg_eqa
 Sx_len Sg_len
 Qkm Qkt Sx_bsi      Sx_app
   Sx_nck
  Sx_lk Sg_lk Sx_mup
attribute [go_sem] chk Q2h Dis V.empt List.headD_cons List.headD_nil List.tail_cons List.tail_nil List.flatMap_cons List.flatMap_nil List.drop_left' List.drop_left
attribute [go_sem] St1_sla   Qdx      Qbu Qbv
attribute [go_sem] Qe3
attribute [go_sem] Qba Q8u Qiw Qix Option.bind_some Option.some.injEq exists_eq_left' exists_eq_left
end Go.Abs
namespace Go.Abs
open Go.RowKit
def V.sh0 (n:Nat):V->V
 | .own id g off len=>.own (n+id) g off len
 | .p id g e j=>.p (n+id) g e j
 | .mp id=>.mp (n+id)
 | v=>v
def V.sh1 (n:Nat):V->V
 | .f fn caps=>.f fn (caps.map (V.sh0 n))
 | v=>v.sh0 n
def V.sh2 (n:Nat):V->V
 | .a cs=>.a (cs.map (V.sh1 n))
 | v=>v.sh1 n
def V.sh (n:Nat):V->V
 | .t vs=>.t (vs.map (V.sh2 n))
 | v=>v.sh2 n
def O.sh (n:Nat):O->O
 | .arr g sz els=>.arr g sz (els.map λel=>el.map (V.sh1 n))
 | .mp es=>.mp (es.map λe=>(e.1.sh2 n,e.2.sh2 n))
 | .md es=>.md (es.map λe=>(e.1.sh2 n,e.2.sh2 n))
 | .it mid since seen=>.it (mid.map (n+·)) since seen
 | .dead=>.dead
section
variable {P:Program} {J:Nat->Prop} {m:List Ent} {w:World} {h:List O}
theorem Pw.map_sh {R R':V->Value->Prop} {f:V->V} (hR:∀v c,R v c->R' (f v) c) {vs:List V} {cs:List Value} (hp:Pw R vs cs):Pw R' (vs.map f) cs:=by
 refine⟨by rw[List.length_map,hp.1],λi v c h1 h2=>?_⟩
 rw[qq,qa]at h1
 obtain⟨u,hu,rfl⟩:=h1
 exact hR u c (hp.2 i u c hu h2)
theorem Q6w {ma mb:List Ent} {id:Nat} {e:Ent} (he:mb[id]?=some e):(ma++mb)[ma.length+id]?=some e:=by
 rw[qf (Nat.le_add_right _ _),Nat.add_sub_cancel_left];exact he
theorem RL.sh (ma:List Ent) {v:V} {c:Value} (hv:RL J m w v c):RL J (ma++m) w (v.sh0 ma.length) c:=by
 cases v<;>simp only[V.sh0,RL]at hv ⊢
 case own=>obtain⟨h0,e,h1,h2⟩:=hv;exact⟨h0,e,Q6w h1,h2⟩
 case p=>obtain⟨h0,e,h1,h2⟩:=hv;exact⟨h0,e,Q6w h1,h2⟩
 case mp=>obtain⟨h0,e,h1,h2⟩:=hv;exact⟨h0,e,Q6w h1,h2⟩
 all_goals exact hv
theorem RC.sh (ma:List Ent) {v:V} {c:Value} (hv:RC J m w v c):RC J (ma++m) w (v.sh1 ma.length) c:=by
 cases v
 case f fn caps =>
  obtain⟨cs,h1,h2⟩:=hv
  exact⟨cs,h1,h2.map_sh λ_ _ h=>RL.sh ma h⟩
 all_goals
  simp only[RC]at hv
  exact RL.sh (w:=w) ma hv
theorem RA.sh (ma:List Ent) {v:V} {c:Value} (hv:RA J m w v c):RA J (ma++m) w (v.sh2 ma.length) c:=by
 cases v
 case any=>trivial
 case a cs =>
  obtain⟨arr,h1,h2⟩:=hv
  exact⟨arr,h1,h2.map_sh λ_ _ h=>RC.sh ma h⟩
 all_goals
  simp only[RA]at hv
  exact RC.sh (w:=w) ma hv
theorem RV.sh (ma:List Ent) {v:V} {c:Value} (hv:RV J m w v c):RV J (ma++m) w (v.sh ma.length) c:=by
 cases v
 case t vs =>
  obtain⟨arr,h1,h2⟩:=hv
  exact⟨arr,h1,h2.map_sh λ_ _ h=>RA.sh ma h⟩
 all_goals
  simp only[RV]at hv
  exact RA.sh (w:=w) ma hv
theorem RO.sh (ma:List Ent) {e:Ent} {o:O} (hv:RO J m w e o):RO J (ma++m) w e (o.sh ma.length):=by
 cases o with
 | dead=>trivial
 | mp es =>
   obtain⟨h1,B,h2,es',h3,h4,h5⟩:=hv
   refine⟨h1,B,h2,es',h3,by simp[h4],λi k v hi=>?_⟩
   rw[qq,qa]at hi
   obtain⟨⟨k0,v0⟩,hu,hkv⟩:=hi
   simp only[Prod.mk.injEq]at hkv
   obtain⟨rfl,rfl⟩:=hkv
   obtain⟨en,h6,h7,h8,h9⟩:=h5 i k0 v0 hu
   exact⟨en,h6,h7,RA.sh ma h8,RA.sh ma h9⟩
 | md es =>
   obtain⟨h1,B,h2,es',c,h3,h4,h5⟩:=hv
   refine⟨h1,B,h2,es',c,h3,by simp[h4],λi k v hi=>?_⟩
   rw[qq,qa]at hi
   obtain⟨⟨k0,v0⟩,hu,hkv⟩:=hi
   simp only[Prod.mk.injEq]at hkv
   obtain⟨rfl,rfl⟩:=hkv
   obtain⟨en,h6,h8,h9⟩:=h5 i k0 v0 hu
   exact⟨en,h6,RA.sh ma h8,RA.sh ma h9⟩
 | it mid since seen =>
   obtain⟨h1,h2,h3,B,h4,mb,h5,h6⟩:=hv
   refine⟨h1,h2,h3,B,h4,mb,h5,?_⟩
   cases mid with
   | none=>exact h6
   | some i =>
     obtain⟨e',h7,h8⟩:=h6
     exact⟨e',Q6w h7,h8⟩
 | arr g sz els =>
   obtain⟨h1,h2,h3,h4⟩:=hv
   refine⟨h1,h2,λi el hi=>?_,?_⟩
   ·rw[qq,qa]at hi
    obtain⟨u,hu,rfl⟩:=hi
    rw[List.length_map];exact h3 i u hu
   ·cases hb:e.blk with
    | none =>
      rw[hb]at h4
      obtain⟨rfl,h5⟩:=h4
      exact⟨rfl,h5⟩
    | some B =>
      rw[hb]at h4
      obtain⟨h5,h6,c,ty,fz,h7,h8,h9,h10⟩:=h4
      refine⟨by simpa using h5,h6,c,ty,fz,h7,h8,h9,λi el j x hi hj=>?_⟩
      rw[qq,qa]at hi
      obtain⟨u,hu,rfl⟩:=hi
      rw[qq,qa]at hj
      obtain⟨y,hy,rfl⟩:=hj
      obtain⟨cv,h11,h12⟩:=h10 i u j y hu hy
      exact⟨cv,h11,RC.sh ma h12⟩
theorem RS.join {m0:List Ent} {h0:List O} (hr:RS J h m w) (hr0:RS J h0 m0 w) (hd:∀(id id':Nat) (e e':Ent) (B:Nat),m[id]?=some e->m0[id']?=some e'->e.blk=some B->e'.blk≠some B) :
  RS J (h++h0.map (O.sh h.length)) (m++m0) w:=by
 have hcase:∀(id:Nat) (e:Ent),(m++m0)[id]?=some e->m[id]?=some e∨(m.length<=id/\m0[id-m.length]?=some e):=by
  intro id e he
  by_cases hlt:id<m.length
  ·rw[qd hlt]at he;exact .inl he
  ·rw[qf (by omega)]at he;exact .inr ⟨by omega,he⟩
 refine⟨by simp[hr.len,hr0.len],hr.jlt,λid e B he hb=>?_,λid id' e e' B he he' hb hb'=>?_,λid e o he ho=>?_⟩
 ·rcases hcase id e he with h1 | ⟨_,h1⟩
  ·exact hr.dis id e B h1 hb
  ·exact hr0.dis _ e B h1 hb
 ·rcases hcase id e he with h1 | ⟨g1,h1⟩<;>rcases hcase id' e' he' with h2 | ⟨g2,h2⟩
  ·exact hr.inj id id' e e' B h1 h2 hb hb'
  ·exact absurd hb' (hd _ _ e e' B h1 h2 hb)
  ·exact absurd hb (hd _ _ e' e B h2 h1 hb')
  ·have:=hr0.inj _ _ e e' B h1 h2 hb hb';omega
 ·by_cases hlt:id<m.length
  ·rw[qd hlt]at he
   rw[qd (by rw[<- hr.len];exact hlt)]at ho
   have:=hr.obj id e o he ho
   exact RO.mono (λ_ h=>h) (λ_ _=>rfl) (Ml.app m m0) (λ_ _=>rfl) this
  ·rw[qf (by omega)]at he
   rw[qf (by rw[<- hr.len];omega),qq,qa]at ho
   obtain⟨o0,ho0,rfl⟩:=ho
   rw[<- hr.len]at ho0 ⊢
   exact(hr0.obj _ e o0 he ho0).sh m
def NewC (P:Program) (f:FuncId) (vs:List V) (R:V->List O->Prop):Prop:=ACall P f vs [] R
theorem Ev.join {n:Nat} {J J':Nat->Prop} {m0:List Ent} {w':World} (hev:Ev n J m w J' m w') (hf:∀(id:Nat) (e:Ent) (B:Nat),m0[id]?=some e->e.blk=some B->w.heap.size<=B):Ev n J m w J' (m++m0) w' where
 os:=hev.os
 tape:=hev.tape
 output:=hev.output
 drawn:=hev.drawn
 size:=hev.size
 keep:=hev.keep
 fresh:=λid e B he hb=>by
  by_cases hlt:id<m.length
  ·rw[qd hlt]at he;exact hev.fresh id e B he hb
  ·rw[qf (by omega)]at he;exact .inl (hf _ e B he hb)
 sub:=hev.sub
 jnew:=hev.jnew
 ents:=λid e _ he=>Ml.app m m0 id e he
theorem NewC.lift {f:FuncId} {vs:List V} {R:V->List O->Prop} (hp:NewC P f vs R) (hcl:vs.all (V.cl 0)=true) (h:List O) :
  ACall P f vs h (λr h'=>∃r0 h0,R r0 h0/\r=r0.sh h.length/\h'=h++h0.map (O.sh h.length)):=by
 intro J m w cargs hr hpw
 have hpw0:Pw (RV J [] w) vs cargs:=⟨hpw.1,λi v c hv hc=>by
  have:=Q72 (n:=0) (qj.1 hcl v (qb hv)) (hpw.2 i v c hv hc)
  simpa using this⟩
 refine (hp J [] w cargs ⟨rfl,hr.jlt,by simp,by simp,by simp⟩ hpw0).mono ?_
 rintro e w' ⟨v,r,h0,J',m0,rfl,hR,hv,hrs,hev,_⟩
 have hkeep:∀k,k<w.heap.size->w'.heap[k]?=w.heap[k]?:=λk hk=>(hev 0).keep k hk (by simp)
 have hjn:∀k,J' k->J k∨w.heap.size<=k:=λk hk=>by
  rcases (hev 0).jnew k hk with h1 | h1 | ⟨_,_,h1,_⟩
  ·exact .inl h1
  ·exact .inr h1
  ·simp at h1
 have hfr:∀(id:Nat) (e:Ent) (B:Nat),m0[id]?=some e->e.blk=some B->w.heap.size<=B:=λid e B h1 h2=>by
  rcases (hev 0).fresh id e B h1 h2 with h3 | ⟨_,_,h3,_⟩
  ·exact h3
  ·simp at h3
 have hr':RS J' h m w':=RS.same hr (hev 0).sub hjn hrs.jlt hkeep (hev 0).size
 have hj:=RS.join hr' hrs (λid id' e e' B h1 h2 h3 h4=>by
  have h5:=(hr.dis id e B h1 h3).2
  have h6:=hfr id' e' B h2 h4
  omega)
 have hl:=hr.len
 exact⟨v,r.sh h.length,_,J',m++m0,rfl,⟨r,h0,hR,rfl,rfl⟩,by rw[<- hl];exact RV.sh m hv,hj,
  λn=>Ev.join (Ev.same (hev 0).sub hjn hkeep (hev 0).size (hev 0).os (hev 0).tape (hev 0).output (hev 0).drawn) hfr,Ml.app m m0⟩
def Q3i (rs:List Rr) (R:V->List O->Prop) (x:X) (σ:St):Prop :=
 match x with
 | .e _=>False
 | _=>∃vs h1,rs.mapM (Y7 σ)=some vs/\vs.all V.noT=true/\h1.length=σ.h.length/\WeakH σ.h.length σ.h h1/\R (Y6 vs) h1
theorem DoneN_n {rs:List Rr} {R:V->List O->Prop} {σ:St}:Q3i rs R .n σ=∃vs h1,rs.mapM (Y7 σ)=some vs/\vs.all V.noT=true/\h1.length=σ.h.length/\WeakH σ.h.length σ.h h1/\R (Y6 vs) h1:=rfl
theorem DoneN_r {rs:List Rr} {R:V->List O->Prop} {σ:St}:Q3i rs R .r σ=∃vs h1,rs.mapM (Y7 σ)=some vs/\vs.all V.noT=true/\h1.length=σ.h.length/\WeakH σ.h.length σ.h h1/\R (Y6 vs) h1:=rfl
theorem DoneN_e {rs:List Rr} {R:V->List O->Prop} {σ:St} (id:Nat):Q3i rs R (.e id) σ=False:=rfl
@[congr] theorem DoneN_congr {rs:List Rr} {R:V->List O->Prop} {x x':X} {σ σ':St} (hx:x=x') (hh:σ=σ'):Q3i rs R x σ=Q3i rs R x' σ':=by rw[hx,hh]
theorem Bv {v:V} {c:Value} (hn:v.noT=true) (hv:RV J m w v c):RA J m w v c:=by
 cases v<;>first | (simp[V.noT]at hn;done) | exact hv
theorem Qes (hmix:P.follows .mixedOrders=true) {f:FuncId} {fn:Func} {code:Code} {c:C} {rs:List Rr} (hf:P.funcs[f]?=some fn) (hb:fn.body=some code) (hc:Yg P fn.ntmps code=some c) (hrs:Ih P fn=some rs)
  {vs:List V} (hn:vs.length<=fn.ntmps) {R:V->List O->Prop} (hbody:AS P 0 c ⟨Z7 0 vs,[]⟩ (Q3i rs R)):NewC P f vs R:=by
 intro J m w cargs hr hp
 have hm:m=[]:=qm (by rw[hr.len];rfl)
 subst hm
 refine calls_of_wp hf hb ?_
 have hcl:cargs.length<=fn.ntmps:=by rw[<- hp.1];exact hn
 have hrel:RelF fn.ntmps J [] (λt=>get t (Z7 0 vs)) [] { tmps:=cargs.toArray++Array.replicate (fn.ntmps-cargs.toArray.size) undef,defers:=[] } w:=by
  refine⟨λt=>?_,hr,rfl,by simp;omega⟩
  simp only
  rw[Yv,if_pos (Nat.zero_le _),Nat.sub_zero]
  cases hv:vs[t]? with
  | none=>trivial
  | some v =>
    obtain⟨cv,h1,h2⟩:=hp.get hv
    have hlt:=(q8.1 h1).1
    have:(cargs.toArray++Array.replicate (fn.ntmps-cargs.toArray.size) undef).getD t undef=cv:=by
     rw[Array.getD_eq_getD_getElem?,jk (by simpa using hlt)]
     simp[h1]
    rw[this]
    exact h2
 refine wp_mono (Q9x hmix code c hc _ _ hbody J [] _ w hrel) ?_
 rintro e a' w' ⟨x,σ',J',m',hx,hD,hrel',hev⟩
 have hret:(∃vs h1,rs.mapM (Y7 σ')=some vs/\vs.all V.noT=true/\h1.length=σ'.h.length/\WeakH σ'.h.length σ'.h h1/\R (Y6 vs) h1) ->
   a'.defers=[]/\∃v,(results fn a'.tmps).run P w'=.ok v w'/\∃v0 r h' J'' m'',Ending.returned v=.returned v0/\R r h'/\RV J'' m'' w' r v0/\RS J'' h' m'' w'/\(∀n,Ev n J [] w J'' m'' w')/\Ml [] m'':=by
  rintro⟨us,h1,hus,hnt,hl,hwk,hR⟩
  refine⟨hrel'.defers,?_⟩
  obtain⟨cs,hcs,hrun⟩:=W6 hrel' hrs hus
  have htk:=hrel'.rs.take (τ:=h1) (by omega) (by rw[hl];exact hwk)
  rw[hl,<- hrel'.rs.len,qi]at htk
  refine⟨_,hrun,_,Y6 us,h1,J',m',rfl,hR,?_,htk,λn=>?_,Ml.nil _⟩
  ·have hpa:Pw (RA J' m' w') us cs:=⟨hcs.1,λi v c hi hc=>Bv (qj.1 hnt v (qb hi)) (hcs.2 i v c hi hc)⟩
   have hl:=hpa.1
   match us,cs,hl,hpa with
   | [],[],_,hpa=>exact⟨#[],rfl,Pw.nil⟩
   | [v],[c],_,hpa =>
     simp only[Y6]
     have:(if h:([c]:List Value).toArray.size=1 then ([c]:List Value).toArray[0] else Value.tuple [c].toArray)=c:=by simp
     rw[this]
     exact Qw hpa.head
   | v1::v2::vr,c1::c2::cr,_,hpa =>
     simp only[Y6]
     rw[dif_neg (by simp)]
     exact⟨_,rfl,by simpa using hpa⟩
  ·exact⟨hev.os,hev.tape,hev.output,hev.drawn,hev.size,hev.keep,hev.fresh,hev.sub,hev.jnew,by simp⟩
 cases e<;>cases x<;>simp only at hx<;>(try exact hx.elim)<;>(try exact hD.elim)
 ·exact hret hD
 ·exact hret hD
theorem Qi3 (hmix:P.follows .mixedOrders=true) {f:FuncId} {c:C} {rs:List Rr} {n:Nat} (hf:Qb P f c rs n) {vs:List V} (hn:vs.length<=n) {R:V->List O->Prop}
  (hb:AS P 0 c ⟨Z7 0 vs,[]⟩ (Q3i rs R)):NewC P f vs R:=by
 obtain⟨fn,code,h1,h2,h3,h4,rfl⟩:=hf
 exact Qes hmix h1 h2 h3 h4 hn hb
theorem K7 {f:FuncId} {vs:List V} {h h0:List O} {r0:V} {k:V->List O->Prop} (hp:NewC P f vs (λr h=>r=r0/\h=h0)) (hcl:vs.all (V.cl 0)=true)
  (hk:k (r0.sh h.length) (h++h0.map (O.sh h.length))):ACall P f vs h k :=
 (hp.lift hcl h).mono λr' h' hh=>by obtain⟨r1,h1,⟨rfl,rfl⟩,rfl,rfl⟩:=hh;exact hk
theorem Qcf {f:FuncId} {vs us:List V} {h:List O} {r0:V} {k:V->List O->Prop} (hu:Yq h us=some vs) (hp:PureC P f vs (·=r0)) (hsc:r0.scal=true)
  (hk:k r0 h):ACall P f us h k :=
 (PureC.lend hu hp (λr hh=>by rw[hh];exact hsc)).mono λr' h' hh=>by rw[hh.1,hh.2];exact hk
def WkE (env:List (Nat × V)) (n:Nat):List (Nat × V)->Prop
 | []=>True
 | p::r=>(p.2=.any∨(get p.1 env=p.2/\p.2.cl n=true))/\WkE env n r
theorem Qdk {env:List (Nat × V)} {n:Nat}:∀{l:List (Nat × V)},WkE env n l↔∀p∈l,p.2=.any∨(get p.1 env=p.2/\p.2.cl n=true)
 | []=>by simp[WkE]
 | p::r=>by
   have h:=@Qdk env n r
   simp only[WkE,List.mem_cons,forall_eq_or_imp]
   rw[h]
theorem Weak_mk (n:Nat) (env env':List (Nat × V)) (h h':List O):Weak n ⟨env,h⟩ ⟨env',h'⟩=(n<=h'.length/\h'.length<=h.length/\WkE env h'.length env'/\WeakH h'.length h h'):=by
 unfold Weak
 simp only
 rw[Qdk]
theorem Wm:∀l:List UInt8,Xx (l.map Yi)=some l
 | []=>rfl
 | b::l=>by
   have hb:UInt8.ofNat b.toNat=b:=UInt8.ofNat_toNat
   simp[Xx,Yi,Wm l,hb]
theorem Qdh (n:Nat) (b:UInt8):Xx (List.replicate n [.i .u8 (b.toNat:Int)])=some (List.replicate n b):=by
 have:=Wm (List.replicate n b)
 simpa[Yi]using this
theorem Q2k (L s id:Nat):mvN L s (L+id)=s+id:=by unfold mvN;rw[if_neg (by omega)];omega
theorem sh0_mv (L s:Nat) (v:V):(v.sh0 L).mv0 L s=v.sh0 s:=by cases v<;>simp[V.sh0,V.mv0,Q2k]
theorem Qae (L s:Nat) (v:V):(v.sh1 L).mv1 L s=v.sh1 s:=by
 cases v
 case f fn caps=>simp only[V.sh1,V.mv1,List.map_map];congr 1;exact ji λx _=>sh0_mv L s x
 all_goals simp only[V.sh1,V.sh0,V.mv1,V.mv0,Q2k]
theorem Q1r (L s:Nat) (v:V):(v.sh2 L).mv2 L s=v.sh2 s:=by
 cases v
 case a cs=>simp only[V.sh2,V.mv2,List.map_map];congr 1;exact ji λx _=>Qae L s x
 case f fn caps=>exact Qae L s (.f fn caps)
 all_goals simp only[V.sh2,V.sh1,V.sh0,V.mv2,V.mv1,V.mv0,Q2k]
theorem sh_mv (L s:Nat) (v:V):(v.sh L).mv L s=v.sh s:=by
 cases v
 case t vs=>simp only[V.sh,V.mv,List.map_map];congr 1;exact ji λx _=>Q1r L s x
 case f fn caps=>exact Q1r L s (.f fn caps)
 case a cs=>exact Q1r L s (.a cs)
 all_goals simp only[V.sh,V.sh2,V.sh1,V.sh0,V.mv,V.mv2,V.mv1,V.mv0,Q2k]
theorem Osh_mv (L s:Nat) (o:O):(o.sh L).mv L s=o.sh s:=by
 cases o with
 | dead=>rfl
 | it mid since seen=>cases mid<;>simp[O.sh,O.mv,Q2k]
 | mp es=>simp only[O.sh,O.mv,List.map_map];congr 1;exact ji λe _=>by simp[Q1r]
 | md es=>simp only[O.sh,O.mv,List.map_map];congr 1;exact ji λe _=>by simp[Q1r]
 | arr g sz els=>simp only[O.sh,O.mv,List.map_map];congr 1;exact ji λel _=>by simp[Qae]
section
variable {n0:Nat} {js:List Nat} {lg:List (List Nat × List Nat)} {al:List Nat} {K:List Nat × List Nat->V->List O->Prop}
theorem Qp {f:FuncId} {vs:List V} {r:V} (hc:CallIs P f vs r) (hk:K ([],[]) r h):K4 P n0 js lg al f vs h K :=
 ⟨[],[],r,h,Q73 _ _,⟨Nat.le_refl _,by simp,by simp,λ_ _ _=>rfl,λh2 _ _=>⟨r,[],by rw[Ju,List.append_nil];exact hc h2,.inl ⟨rfl,rfl,rfl⟩⟩⟩,hk⟩
theorem K3 {f:FuncId} {vs:List V} {h0:List O} {r0:V} (hp:NewC P f vs (λr h=>r=r0/\h=h0)) (hcl:vs.all (V.cl 0)=true) (hk:K ([],[]) (r0.sh h.length) (h++h0.map (O.sh h.length))):K4 P n0 js lg al f vs h K :=
 ⟨[],[],_,_,Q73 _ _,⟨by simp,by simp,by simp,λid hid _=>qd hid,λh2 _ _=>⟨r0.sh h2.length,h0.map (O.sh h2.length),
  (hp.lift hcl h2).mono λr' h' hh=>by obtain⟨r1,h1,⟨rfl,rfl⟩,rfl,rfl⟩:=hh;exact⟨rfl,by rw[Ju]⟩,
  .inr ⟨rfl,sh_mv _ _ _,by rw[List.drop_left,List.map_map];exact ji λo _=>Osh_mv _ _ o⟩⟩⟩,hk⟩
theorem Qc3 (f:FuncId) (args:List A) (env:List (Nat × V)):Sg P n0 js lg (.call f args) (.b true) true env h K=K4 P n0 js lg ((args.map (A.ev env)).flatMap V.ids2) f (args.map (A.ev env)) h K:=by simp[Sg,Yn]
theorem Qc6 (f:FuncId) (args:List A) (env:List (Nat × V)):Sg P n0 js lg (.call f args) (.b false) false env h K=K4 P n0 js lg ((args.map (A.ev env)).flatMap V.ids2) f (args.map (A.ev env)) h K:=by simp[Sg,Yn]
theorem Qc4 (f:FuncId) (args:List A) (env:List (Nat × V)):Sg P n0 js lg (.call f args) (.b true) false env h K=K ([],[]) (.t []) h:=by simp[Sg,Yn]
theorem Qc5 (f:FuncId) (args:List A) (env:List (Nat × V)):Sg P n0 js lg (.call f args) (.b false) true env h K=K ([],[]) (.t []) h:=by simp[Sg,Yn]
end
attribute [go_sem] Qc3 Qc6 Qc4 Qc5
attribute [go_sem] WkE Weak_mk Wm  DoneN_n DoneN_r DoneN_e V.noT V.sh V.sh2 V.sh1 V.sh0 O.sh
end
end Go.Abs
namespace Go.Abs
open Go.RowKit
def keepE (l:List Nat) (env:List (Nat × V)):List (Nat × V):=l.map λt=>(t,get t env)
section
variable {P:Program}
def Ir (n:Nat) (rs:List Rr) (R:V->List O->Prop) (x:X) (σ:St):Prop :=
 match x with
 | .e _=>False
 | _=>∃vs h1,rs.mapM (Y7 σ)=some vs/\vs.all V.noT=true/\vs.all (V.cl h1.length)=true/\n<=h1.length/\h1.length<=σ.h.length/\WeakH h1.length σ.h h1/\R (Y6 vs) h1
theorem U4 {n:Nat} {rs:List Rr} {R:V->List O->Prop} {σ:St}:Ir n rs R .r σ=∃vs h1,rs.mapM (Y7 σ)=some vs/\vs.all V.noT=true/\vs.all (V.cl h1.length)=true/\n<=h1.length/\h1.length<=σ.h.length/\WeakH h1.length σ.h h1/\R (Y6 vs) h1:=Rfl rfl
@[congr] theorem DoneA_congr {n:Nat} {rs:List Rr} {R:V->List O->Prop} {x x':X} {σ σ':St} (hx:x=x') (hh:σ=σ'):Ir n rs R x σ=Ir n rs R x' σ':=by rw[hx,hh]
attribute [go_sem]  U4
theorem Ev.takeE {n k:Nat} {J J':Nat->Prop} {m m':List Ent} {w w':World} (hev:Ev n J m w J' m' w') (hk:n<=k):Ev n J m w J' (m'.take k) w' where
 os:=hev.os
 tape:=hev.tape
 output:=hev.output
 drawn:=hev.drawn
 size:=hev.size
 keep:=hev.keep
 fresh:=λid e B h1 h2=>by
  rw[jb]at h1
  split at h1
  ·exact hev.fresh id e B h1 h2
  ·simp at h1
 sub:=hev.sub
 jnew:=hev.jnew
 ents:=λid e hn h1=>by
  obtain⟨e',h2,h3,h4⟩:=hev.ents id e hn h1
  exact⟨e',by rw[jb,if_pos (by omega)];exact h2,h3,h4⟩
theorem Jj (hmix:P.follows .mixedOrders=true) {f:FuncId} {c:C} {rs:List Rr} {N:Nat} (hfn:Qb P f c rs N)
  {vs:List V} (hn:vs.length<=N) {h:List O} {R:V->List O->Prop} (hbody:AS P h.length c ⟨Z7 0 vs,h⟩ (Ir h.length rs R)):ACall P f vs h R:=by
 obtain⟨fn,code,hf,hb,hc,hrs,rfl⟩:=hfn
 intro J m w cargs hr hp
 refine calls_of_wp hf hb ?_
 have hcl:cargs.length<=fn.ntmps:=by rw[<- hp.1];exact hn
 have hrel:RelF fn.ntmps J m (λt=>get t (Z7 0 vs)) h { tmps:=cargs.toArray++Array.replicate (fn.ntmps-cargs.toArray.size) undef,defers:=[] } w:=by
  refine⟨λt=>?_,hr,rfl,by simp;omega⟩
  simp only
  rw[Yv,if_pos (Nat.zero_le _),Nat.sub_zero]
  cases hv:vs[t]? with
  | none=>trivial
  | some v =>
    obtain⟨cv,h1,h2⟩:=hp.get hv
    have hlt:=(q8.1 h1).1
    have:(cargs.toArray++Array.replicate (fn.ntmps-cargs.toArray.size) undef).getD t undef=cv:=by
     rw[Array.getD_eq_getD_getElem?,jk (by simpa using hlt)]
     simp[h1]
    rw[this]
    exact h2
 refine wp_mono (Q9x hmix code c hc _ _ hbody J m _ w hrel) ?_
 rintro e a' w' ⟨x,σ',J',m',hx,hD,hrel',hev⟩
 have hret:(∃vs h1,rs.mapM (Y7 σ')=some vs/\vs.all V.noT=true/\vs.all (V.cl h1.length)=true/\h.length<=h1.length/\h1.length<=σ'.h.length/\WeakH h1.length σ'.h h1/\R (Y6 vs) h1) ->
   a'.defers=[]/\∃v,(results fn a'.tmps).run P w'=.ok v w'/\∃v0 r h' J'' m'',Ending.returned v=.returned v0/\R r h'/\RV J'' m'' w' r v0/\RS J'' h' m'' w'/\(∀n,Ev n J m w J'' m'' w')/\Ml m m'':=by
  rintro⟨us,h1,hus,hnt,hcls,hl1,hl2,hwk,hR⟩
  refine⟨hrel'.defers,?_⟩
  obtain⟨cs,hcs,hrun⟩:=W6 hrel' hrs hus
  have htk:=hrel'.rs.take (τ:=h1) hl2 hwk
  have hevt:Ev h.length J m w J' (m'.take h1.length) w':=hev.takeE hl1
  have hml:Ml m (m'.take h1.length):=λid e h2=>hevt.ents id e (by rw[<- hr.len];exact(q8.1 h2).1) h2
  refine⟨_,hrun,_,Y6 us,h1,J',m'.take h1.length,rfl,hR,?_,htk,λn=>⟨hevt.os,hevt.tape,hevt.output,hevt.drawn,hevt.size,hevt.keep,hevt.fresh,hevt.sub,hevt.jnew,λid e _ h2=>hml id e h2⟩,hml⟩
  have hpa:Pw (RA J' (m'.take h1.length) w') us cs:=⟨hcs.1,λi v c hi hc=>by
   have hn:=qj.1 hnt v (qb hi)
   have hcl:=qj.1 hcls v (qb hi)
   exact Bv hn (Q72 hcl (hcs.2 i v c hi hc))⟩
  have hl:=hpa.1
  match us,cs,hl,hpa with
  | [],[],_,hpa=>exact⟨#[],rfl,Pw.nil⟩
  | [v],[c],_,hpa =>
    simp only[Y6]
    have:(if h:([c]:List Value).toArray.size=1 then ([c]:List Value).toArray[0] else Value.tuple [c].toArray)=c:=by simp
    rw[this]
    exact Qw hpa.head
  | v1::v2::vr,c1::c2::cr,_,hpa =>
    simp only[Y6]
    rw[dif_neg (by simp)]
    exact⟨_,rfl,by simpa using hpa⟩
 cases e<;>cases x<;>simp only at hx<;>(try exact hx.elim)<;>(try exact hD.elim)
 ·exact hret hD
 ·exact hret hD
def Q9v (rs:List Rr) (R:V->List O->Prop) (x:X) (σ:St):Prop :=
 match x with
 | .e _=>False
 | _=>∃vs,rs.mapM (Y7 σ)=some vs/\vs.all V.noT=true/\R (Y6 vs) σ.h
theorem DoneB_n {rs:List Rr} {R:V->List O->Prop} {σ:St}:Q9v rs R .n σ=∃vs,rs.mapM (Y7 σ)=some vs/\vs.all V.noT=true/\R (Y6 vs) σ.h:=Rfl rfl
theorem DoneB_r {rs:List Rr} {R:V->List O->Prop} {σ:St}:Q9v rs R .r σ=∃vs,rs.mapM (Y7 σ)=some vs/\vs.all V.noT=true/\R (Y6 vs) σ.h:=Rfl rfl
@[congr] theorem DoneB_congr {rs:List Rr} {R:V->List O->Prop} {x x':X} {σ σ':St} (hx:x=x') (hh:σ=σ'):Q9v rs R x σ=Q9v rs R x' σ':=by rw[hx,hh]
attribute [go_sem] DoneB_n DoneB_r
theorem Bp (hmix:P.follows .mixedOrders=true) {f:FuncId} {c:C} {rs:List Rr} {N:Nat} (hfn:Qb P f c rs N)
  {vs:List V} (hn:vs.length<=N) {h:List O} {R:V->List O->Prop} (hbody:AS P h.length c ⟨Z7 0 vs,h⟩ (Q9v rs R)):ACall P f vs h R:=by
 obtain⟨fn,code,hf,hb,hc,hrs,rfl⟩:=hfn
 intro J m w cargs hr hp
 refine calls_of_wp hf hb ?_
 have hcl:cargs.length<=fn.ntmps:=by rw[<- hp.1];exact hn
 have hrel:RelF fn.ntmps J m (λt=>get t (Z7 0 vs)) h { tmps:=cargs.toArray++Array.replicate (fn.ntmps-cargs.toArray.size) undef,defers:=[] } w:=by
  refine⟨λt=>?_,hr,rfl,by simp;omega⟩
  simp only
  rw[Yv,if_pos (Nat.zero_le _),Nat.sub_zero]
  cases hv:vs[t]? with
  | none=>trivial
  | some v =>
    obtain⟨cv,h1,h2⟩:=hp.get hv
    have hlt:=(q8.1 h1).1
    have:(cargs.toArray++Array.replicate (fn.ntmps-cargs.toArray.size) undef).getD t undef=cv:=by
     rw[Array.getD_eq_getD_getElem?,jk (by simpa using hlt)]
     simp[h1]
    rw[this]
    exact h2
 refine wp_mono (Q9x hmix code c hc _ _ hbody J m _ w hrel) ?_
 rintro e a' w' ⟨x,σ',J',m',hx,hD,hrel',hev⟩
 have hret:(∃vs,rs.mapM (Y7 σ')=some vs/\vs.all V.noT=true/\R (Y6 vs) σ'.h) ->
   a'.defers=[]/\∃v,(results fn a'.tmps).run P w'=.ok v w'/\∃v0 r h' J'' m'',Ending.returned v=.returned v0/\R r h'/\RV J'' m'' w' r v0/\RS J'' h' m'' w'/\(∀n,Ev n J m w J'' m'' w')/\Ml m m'':=by
  rintro⟨us,hus,hnt,hR⟩
  refine⟨hrel'.defers,?_⟩
  obtain⟨cs,hcs,hrun⟩:=W6 hrel' hrs hus
  have hevt:=hev
  have hml:Ml m m':=λid e h2=>hevt.ents id e (by rw[<- hr.len];exact(q8.1 h2).1) h2
  refine⟨_,hrun,_,Y6 us,σ'.h,J',m',rfl,hR,?_,hrel'.rs,λn=>⟨hevt.os,hevt.tape,hevt.output,hevt.drawn,hevt.size,hevt.keep,hevt.fresh,hevt.sub,hevt.jnew,λid e _ h2=>hml id e h2⟩,hml⟩
  have hpa:Pw (RA J' m' w') us cs:=⟨hcs.1,λi v c hi hc=>by
   have hn:=qj.1 hnt v (qb hi)
   exact Bv hn (hcs.2 i v c hi hc)⟩
  have hl:=hpa.1
  match us,cs,hl,hpa with
  | [],[],_,hpa=>exact⟨#[],rfl,Pw.nil⟩
  | [v],[c],_,hpa =>
    simp only[Y6]
    have:(if h:([c]:List Value).toArray.size=1 then ([c]:List Value).toArray[0] else Value.tuple [c].toArray)=c:=by simp
    rw[this]
    exact Qw hpa.head
  | v1::v2::vr,c1::c2::cr,_,hpa =>
    simp only[Y6]
    rw[dif_neg (by simp)]
    exact⟨_,rfl,by simpa using hpa⟩
 cases e<;>cases x<;>simp only at hx<;>(try exact hx.elim)<;>(try exact hD.elim)
 ·exact hret hD
 ·exact hret hD
end
end Go.Abs
namespace Go.Abs
open Go.RowKit
section
variable (call:FuncId->List V->List O->Option (V × List O)) (callP:FuncId->List V->Option V)
def Qs (g:Option (Nat × Bool)) (env:List (Nat × V)):Option Bool :=
 match g with
 | none=>some true
 | some (t,w)=>match get t env with
   | .b c=>some (c == w)
   | .t []=>some false
   | _=>none
end
end Go.Abs
