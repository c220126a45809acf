/- Part of the library on which the proof stands: an abstract machine, its values and its soundness against the model; or what functions of the program do to such values. -/
import Derived.Test.YtnaehggpjfdenaaGreatAbsS
set_option linter.unusedVariables false
set_option linter.unusedSimpArgs false
namespace Go.Abs
open Go.RowKit
def Q5 (P:Program) (f:FuncId) (c:C) (rs:List Rr) (n:Nat):Prop :=
 ∃fn code,P.funcs[f]?=some fn/\fn.body=some code/\Yu P fn.ntmps code=some c/\B1 P fn=some rs/\fn.ntmps=n
def Qtv (rs:List Rr) (R:V->Prop) (x:X) (σ:St):Prop :=
 match x with
 | .e _=>False
 | _=>∃r,Qvb rs σ=some r/\R r
theorem Wg {P:Program} (hmix:P.follows .mixedOrders=true) {f:FuncId} {c:C} {rs:List Rr} {n:Nat} (hf:Q5 P f c rs n) {vs:List V} (hn:vs.length<=n) {R:V->Prop}
  (hb:AS P 0 c ⟨Z9 0 vs,[]⟩ (Qtv rs R)):PureC P f vs R:=by
 obtain⟨fn,code,h1,h2,h3,h4,rfl⟩:=hf;refine Qm5 hmix h1 h2 h3 h4 hn ?_;refine (congrArg (AS P 0 c ⟨Z9 0 vs,[]⟩) (funext λx=>funext λσ=>propext ?_)).mpr hb;cases x<;>simp[Qtv]
theorem PI {P:Program} (hmix:P.follows .mixedOrders=true) {f:FuncId} {c:C} {rs:List Rr} {n:Nat} (hf:Q5 P f c rs n) {vs:List V} {r:V} (hb:AS P 0 c ⟨Z9 0 vs,[]⟩ (Qtv rs (·=r))) (hn:vs.length<=n:=by exact qh rfl) (hc:vs.all (V.cl 0)=true:=by exact rfl):CallIs P f vs r:=PureC.is (Wg hmix hf hn hb) hc
def Sq (P:Program) (n:Nat) (b:C) (κ:X->St->Prop) (x:X) (τ:St):Prop :=
 match x with | .n=>AS P n b τ κ | .e id=>κ (.e id) τ | .r=>κ .r τ
def Bk (id:Nat) (κ:X->St->Prop) (x:X) (τ:St):Prop :=
 match x with | .e id'=>if id'=id then κ .n τ else κ (.e id') τ | .n=>κ .n τ | .r=>κ .r τ
def Lk (n:Nat) {α:Type} (φ:α->Prop) (S:α->St) (μ:α->Nat) (x:α) (κ:X->St->Prop) (y:X) (τ:St):Prop :=
 match y with | .n=>∃x',φ x'/\μ x'<μ x/\Weak n τ (S x') | .e id=>κ (.e id) τ | .r=>κ .r τ
def Nx (P:Program) (d:Option Nat) (env:List (Nat × V)) (l:List Ins) (κ:St->Prop) (r:V) (h:List O):Prop:=AO P l ⟨Qp d r env,h⟩ κ
def V.sel (c:Bool) (x y:V):V:=bif c then x else y
def V.sen (c:Bool) (x y:V):V:=bif c then y else x
def V.pk (c:Bool) (x y:V):V:=if c then x else y
def Gq (v:V) (b:Bool) (F:(V->List O->Prop)->Prop) (h:List O) (k:V->List O->Prop):Prop:=Xa v b (F k) (k (.t []) h)
def Gd (c:Bool) (o:Option (V × List O)) (h:List O) (k:V->List O->Prop):Prop:=bif c then Opt o k else k (.t []) h
def I.plain:I->Bool
 | .call _ _ | .callv _ _ | .isn _ _ | .mnx _ | .men _=>false
 | _=>true
def St1 (P:Program) (i:I) (σ:St) (k:V->List O->Prop):Prop :=
 match i with
 | .call f args=>ACall P f (args.map (A.ev σ.env)) σ.h k
 | .callv c args=>match A.ev σ.env c with
   | .f f caps=>Qx P f=true/\ACall P f (args.map (A.ev σ.env)++caps) σ.h k
   | _=>False
 | .isn neg y=>match (A.ev σ.env y).empt with
   | true=>k (.b true) σ.h/\k (.b false) σ.h
   | false=>Opt (Q3 (.isn neg y) (A.ev σ.env) σ.h) k
 | .mnx y=>Mnx (A.ev σ.env y) σ.h k
 | i=>Opt (Q3 i (A.ev σ.env) σ.h) k
def Sx (P:Program) (n0:Nat) (js:List Nat) (lg:List (List Nat × List Nat)) (i:I) (env:List (Nat × V)) (h:List O) (K:List Nat × List Nat->V->List O->Prop):Prop :=
 match i with
 | .call f args=>Ub P n0 js lg ((args.map (A.ev env)).flatMap V.ids2) f (args.map (A.ev env)) h K
 | .callv c args=>E1 P n0 js lg (A.ev env c) (args.map (A.ev env)) h K
 | .mnx _=>False
 | .men _=>False
 | i=>chk js lg (i.foot (A.ev env))=true/\Opt (Q3 i (A.ev env) h) (K (i.foot (A.ev env)))
def Sg (P:Program) (n0:Nat) (js:List Nat) (lg:List (List Nat × List Nat)) (i:I) (v:V) (b:Bool) (env:List (Nat × V)) (h:List O) (K:List Nat × List Nat->V->List O->Prop):Prop :=
 match i with
 | .call f args=>Xa v b (Ub P n0 js lg ((args.map (A.ev env)).flatMap V.ids2) f (args.map (A.ev env)) h K) (K ([],[]) (.t []) h)
 | .callv c args=>Xa v b (E1 P n0 js lg (A.ev env c) (args.map (A.ev env)) h K) (K ([],[]) (.t []) h)
 | .mnx _=>False
 | .men _=>False
 | i=>chk js lg (i.foot (A.ev env))=true/\Gq v b (Opt (Q3 i (A.ev env) h)) h (K (i.foot (A.ev env)))
def Ax (P:Program) (n0:Nat) (i:I) (d:Option Nat) (env:List (Nat × V)) (h0:List O) (l:List Ins) (ps:List (List Nat)) (lg:List (List Nat × List Nat)) (κ:St->Prop) (fp:List Nat × List Nat) (r:V) (h:List O):Prop :=
 Z2 i h0 h/\AD P n0 l ps (lg++[fp]) ⟨Qp d r env,h⟩ κ
def Ax0 (P:Program) (n0:Nat) (i:I) (d:Option Nat) (env:List (Nat × V)) (h0:List O) (l:List Ins) (κ:St->Prop) (fp:List Nat × List Nat) (r:V) (h:List O):Prop :=
 Z2 i h0 h/\AD P n0 l [] [] ⟨Qp d r env,h⟩ κ
section
variable {P:Program} {n:Nat} {κ:X->St->Prop} {σ:St} {env:List (Nat × V)} {h:List O} {k:V->List O->Prop} {κ':St->Prop} {ev:A->V}
@[congr] theorem AS_congr {c:C} {σ σ':St} (hh:σ=σ'):AS P n c σ κ=AS P n c σ' κ:=by rw[hh]
@[congr] theorem AO_congr {l:List Ins} {σ σ':St} (hh:σ=σ'):AO P l σ κ'=AO P l σ' κ':=by rw[hh]
@[congr] theorem AD_congr {n0:Nat} {l:List Ins} {ps:List (List Nat)} {lg lg':List (List Nat × List Nat)} {σ σ':St} (hl:lg=lg') (hh:σ=σ'):AD P n0 l ps lg σ κ'=AD P n0 l ps lg' σ' κ':=by rw[hl,hh]
@[congr] theorem St1_congr {i:I} {σ σ':St} (hh:σ=σ'):St1 P i σ k=St1 P i σ' k:=by rw[hh]
@[congr] theorem Opt_congr {o o':Option (V × List O)} (hh:o=o'):Opt o k=Opt o' k:=by rw[hh]
@[congr] theorem Branch_congr {v v':V} {p q:Prop} (hh:v=v'):Q55 v p q=Q55 v' p q:=by rw[hh]
@[congr] theorem Gq_congr {v v':V} {t:Bool} {F:(V->List O->Prop)->Prop} (hh:v=v'):Gq v t F h k=Gq v' t F h k:=by rw[hh]
@[congr] theorem Gd_congr {c c':Bool} {o o':Option (V × List O)} (hc:c=c') (ho:c'=true->o=o'):Gd c o h k=Gd c' o' h k:=by
 subst hc;cases c
 ·rfl
 ·rw[ho rfl]
def Gdn (c:Bool) (o:Option (V × List O)) (h:List O) (k:V->List O->Prop):Prop:=bif c then k (.t []) h else Opt o k
@[congr] theorem Gdn_congr {c c':Bool} {o o':Option (V × List O)} (hc:c=c') (ho:c'=false->o=o'):Gdn c o h k=Gdn c' o' h k:=by
 subst hc;cases c
 ·rw[ho rfl]
 ·rfl
@[congr] theorem DCall_congr {n0:Nat} {js:List Nat} {lg:List (List Nat × List Nat)} {al al':List Nat} {f:FuncId} {vs vs':List V} {h h':List O} {K:List Nat × List Nat->V->List O->Prop} (h0:al=al') (hh:vs=vs') (h2:h=h'):Ub P n0 js lg al f vs h K=Ub P n0 js lg al' f vs' h' K:=by rw[h0,hh,h2]
@[congr] theorem DCallv_congr {n0:Nat} {js:List Nat} {lg:List (List Nat × List Nat)} {c c':V} {vs vs':List V} {h h':List O} {K:List Nat × List Nat->V->List O->Prop} (h0:c=c') (hh:vs=vs') (h2:h=h'):E1 P n0 js lg c vs h K=E1 P n0 js lg c' vs' h' K:=by rw[h0,hh,h2]
@[congr] theorem ACall_congr {f:FuncId} {vs vs':List V} {h h':List O} (hh:vs=vs') (h2:h=h'):ACall P f vs h k=ACall P f vs' h' k:=by rw[hh,h2]
@[congr] theorem Sq_congr {b:C} {x x':X} {σ σ':St} (hx:x=x') (hh:σ=σ'):Sq P n b κ x σ=Sq P n b κ x' σ':=by rw[hx,hh]
@[congr] theorem Bk_congr {id:Nat} {x x':X} {σ σ':St} (hx:x=x') (hh:σ=σ'):Bk id κ x σ=Bk id κ x' σ':=by rw[hx,hh]
@[congr] theorem Lk_congr {α:Type} {φ:α->Prop} {S:α->St} {μ:α->Nat} {a:α} {x x':X} {σ σ':St} (hx:x=x') (hh:σ=σ'):Lk n φ S μ a κ x σ=Lk n φ S μ a κ x' σ':=by rw[hx,hh]
@[congr] theorem Nx_congr {d:Option Nat} {l:List Ins} {r r':V} {h h':List O} (hr:r=r') (hh:h=h'):Nx P d env l κ' r h=Nx P d env l κ' r' h':=by rw[hr,hh]
@[congr] theorem Ax_congr {n0:Nat} {i:I} {d:Option Nat} {h0:List O} {l:List Ins} {ps:List (List Nat)} {lg:List (List Nat × List Nat)} {fp:List Nat × List Nat} {r r':V} {h h':List O} (hr:r=r') (hh:h=h'):Ax P n0 i d env h0 l ps lg κ' fp r h=Ax P n0 i d env h0 l ps lg κ' fp r' h':=by rw[hr,hh]
@[congr] theorem Ax0_congr {n0:Nat} {i:I} {d:Option Nat} {h0:List O} {l:List Ins} {fp:List Nat × List Nat} {r r':V} {h h':List O} (hr:r=r') (hh:h=h'):Ax0 P n0 i d env h0 l κ' fp r h=Ax0 P n0 i d env h0 l κ' fp r' h':=by rw[hr,hh]
@[congr] theorem Done_congr {rs:List Rr} {R:V->Prop} {x x':X} {σ σ':St} (hx:x=x') (hh:σ=σ'):Qtv rs R x σ=Qtv rs R x' σ':=by rw[hx,hh]
theorem Done_r (rs:List Rr) (R:V->Prop):Qtv rs R .r σ=∃r,Qvb rs σ=some r/\R r:=Rfl rfl
theorem AS_skip:AS P n .skip σ κ=κ .n σ:=Rfl rfl
theorem AS_reg (l:List Ins):AS P n (.reg l) σ κ=AO P l σ (κ .n):=Rfl rfl
theorem AS_drw (l:List Ins) (ps:List (List Nat)):AS P n (.drw l ps) σ κ=AD P σ.h.length l ps [] σ (κ .n):=Rfl rfl
theorem AS_seq (a b:C):AS P n (.seq a b) σ κ=AS P n a σ (Sq P n b κ):=Rfl rfl
theorem AS_ite (c:A) (a b:C):AS P n (.ite c a b) ⟨env,h⟩ κ=Q55 (A.ev env c) (AS P n a ⟨env,h⟩ κ) (AS P n b ⟨env,h⟩ κ):=Rfl rfl
theorem AS_blk (id:Nat) (c:C):AS P n (.blk id c) σ κ=AS P n c σ (Bk id κ):=Rfl rfl
theorem AS_exit (id:Nat):AS P n (.exit id) σ κ=κ (.e id) σ:=Rfl rfl
theorem AS_ret:AS P n .ret σ κ=κ .r σ:=Rfl rfl
theorem Q8 {c:C} {α:Type} (φ:α->Prop) (S:α->St) (μ:α->Nat) (x:α) (hx:φ x) (hw:Weak n σ (S x)) (hs:∀x,φ x->AS P n c (S x) (Lk n φ S μ x κ)):AS P n (.loop c) σ κ :=
 ⟨α,φ,S,μ,⟨x,hx,[],σ,rfl,hw⟩,hs⟩
theorem Qi {c:C} (gs:List Gho) {α:Type} (φ:α->Prop) (S:α->St) (μ:α->Nat) (x:α) (hx:φ x) (hw:∃σ',I2 gs σ=some σ'/\Weak n σ' (S x)) (hs:∀x,φ x->AS P n c (S x) (Lk n φ S μ x κ)):AS P n (.loop c) σ κ :=
 ⟨α,φ,S,μ,⟨x,hx,gs,hw⟩,hs⟩
theorem Qn1:I2 [] σ=some σ:=Rfl rfl
theorem Qk8 (g:Gho) (gs:List Gho):I2 (g::gs) σ=(Q0y g σ).bind (I2 gs):=Rfl rfl
theorem Qxt (t sz:Nat):Q0y (.t t sz) ⟨env,h⟩=match get t env with
  | .nil=>some ⟨put t (.own h.length 1 0 0) env,h++[.arr 1 sz []]⟩
  | _=>none:=Rfl rfl
theorem Qxu (id i j sz:Nat):Q0y (.c id i j sz) ⟨env,h⟩=match h[id]? with
  | some (.arr g s els)=>match els[i]? with
    | some el=>match el[j]? with
      | some .nil=>some ⟨env,h.set id (.arr g s (els.set i (el.set j (.own h.length 1 0 0))))++[.arr 1 sz []]⟩
      | _=>none
    | none=>none
  | _=>none:=Rfl rfl
theorem Sq_n (b:C):Sq P n b κ .n σ=AS P n b σ κ:=Rfl rfl
theorem Sq_e (b:C) (id:Nat):Sq P n b κ (.e id) σ=κ (.e id) σ:=Rfl rfl
theorem Sq_r (b:C):Sq P n b κ .r σ=κ .r σ:=Rfl rfl
theorem Bk_n (id:Nat):Bk id κ .n σ=κ .n σ:=Rfl rfl
theorem Bk_r (id:Nat):Bk id κ .r σ=κ .r σ:=Rfl rfl
theorem Bk_e (id id':Nat):Bk id κ (.e id') σ=if id'=id then κ .n σ else κ (.e id') σ:=Rfl rfl
theorem Lk_n {α:Type} {φ:α->Prop} {S:α->St} {μ:α->Nat} {x:α}:Lk n φ S μ x κ .n σ=∃x',φ x'/\μ x'<μ x/\Weak n σ (S x'):=Rfl rfl
theorem Lk_r {α:Type} {φ:α->Prop} {S:α->St} {μ:α->Nat} {x:α}:Lk n φ S μ x κ .r σ=κ .r σ:=Rfl rfl
theorem Lk_e {α:Type} {φ:α->Prop} {S:α->St} {μ:α->Nat} {x:α} (id:Nat):Lk n φ S μ x κ (.e id) σ=κ (.e id) σ:=Rfl rfl
theorem AO_nil:AO P [] σ κ'=κ' σ:=Rfl rfl
theorem AO_cons (d:Option Nat) (i:I) (l:List Ins):AO P (⟨d,none,i⟩::l) ⟨env,h⟩ κ'=St1 P i ⟨env,h⟩ (Nx P d env l κ'):=by
 cases i<;>rfl
theorem Z1f (d:Option Nat) (t:Nat) (b:Bool) (i:I) (l:List Ins):AO P (⟨d,some (t,b),i⟩::l) ⟨env,h⟩ κ'=Gq (get t env) b (St1 P i ⟨env,h⟩) h (Nx P d env l κ'):=by
 cases i<;>rfl
theorem Nx_mk (d:Nat) (l:List Ins) (r:V):Nx P (some d) env l κ' r h=AO P l ⟨put d r env,h⟩ κ':=Rfl rfl
theorem Nx_no (l:List Ins) (r:V):Nx P none env l κ' r h=AO P l ⟨env,h⟩ κ':=Rfl rfl
theorem AD_nil (n0:Nat) (ps:List (List Nat)) (lg:List (List Nat × List Nat)):AD P n0 [] ps lg σ κ'=κ' σ:=by cases ps<;>rfl
theorem AD_cons (n0:Nat) (d:Option Nat) (i:I) (l:List Ins) (js:List Nat) (ps:List (List Nat)) (lg:List (List Nat × List Nat)) :
  AD P n0 (⟨d,none,i⟩::l) (js::ps) lg ⟨env,h⟩ κ'=Sx P n0 js lg i env h (Ax P n0 i d env h l ps lg κ'):=by
 cases i<;>first | rfl | (simp only[AD,Sx,GdC,Ax,Z2,I.news,true_and,List.headD_cons,List.tail_cons];done) | (simp only[AD,Sx,GdC,List.headD_cons,List.tail_cons];congr 1;funext fp r h';simp[Ax,Z2,I.news])
theorem Z1h (n0:Nat) (d:Option Nat) (t:Nat) (b:Bool) (i:I) (l:List Ins) (js:List Nat) (ps:List (List Nat)) (lg:List (List Nat × List Nat)) :
  AD P n0 (⟨d,some (t,b),i⟩::l) (js::ps) lg ⟨env,h⟩ κ'=Sg P n0 js lg i (get t env) b env h (Ax P n0 i d env h l ps lg κ'):=by
 cases i<;>first | rfl | (simp only[AD,Sg,GdC,List.headD_cons,List.tail_cons,Ax,Z2,I.news,true_and];done) | (simp only[AD,Sg,GdC,List.headD_cons,List.tail_cons];congr 1<;>(try congr 1)<;>(try (funext fp r h'))<;>simp[Ax,Z2,I.news])
theorem Qif (n0:Nat):∀(l:List Ins) (lg lg':List (List Nat × List Nat)) (σ:St) (κ':St->Prop),AD P n0 l [] lg σ κ'=AD P n0 l [] lg' σ κ'
 | [],_,_,_,_=>rfl
 | ⟨d,g,i⟩::l,lg,lg',σ,κ'=>by
   have hc:∀f,chk [] lg f=chk [] lg' f:=λf=>rfl
   have hk:∀(lg:List (List Nat × List Nat)) (fp:List Nat × List Nat) (r:V) h',AD P n0 l [] (lg++[fp]) ⟨Qp d r σ.env,h'⟩ κ'=AD P n0 l [] [] ⟨Qp d r σ.env,h'⟩ κ':=λlg fp r h'=>Qif n0 l _ _ _ κ'
   cases i<;>simp only[AD,GdC,GdP,List.headD_nil,List.tail_nil,Ub,E1,hc,hk]
theorem Z1e (n0:Nat) (i:I) (d:Option Nat) (h0:List O) (l:List Ins) (lg:List (List Nat × List Nat)):Ax P n0 i d env h0 l [] lg κ'=Ax0 P n0 i d env h0 l κ':=by
 funext fp r h;simp only[Ax,Ax0];rw[Qif n0 l _ []]
theorem Z1i (n0:Nat) (d:Option Nat) (i:I) (l:List Ins) (lg:List (List Nat × List Nat)) :
  AD P n0 (⟨d,none,i⟩::l) [] lg ⟨env,h⟩ κ'=Sx P n0 [] [] i env h (Ax0 P n0 i d env h l κ'):=by
 rw[Qif n0 _ lg [],<- Z1e n0 i d h l []];cases i<;>first | rfl | (simp only[AD,Sx,GdC,List.headD_nil,List.tail_nil];congr 1;funext fp r h';simp[Ax,Z2,I.news])
theorem Qu0 (n0:Nat) (d:Option Nat) (t:Nat) (b:Bool) (i:I) (l:List Ins) (lg:List (List Nat × List Nat)) :
  AD P n0 (⟨d,some (t,b),i⟩::l) [] lg ⟨env,h⟩ κ'=Sg P n0 [] [] i (get t env) b env h (Ax0 P n0 i d env h l κ'):=by
 rw[Qif n0 _ lg [],<- Z1e n0 i d h l []];cases i<;>first | rfl | (simp only[AD,Sg,GdC,List.headD_nil,List.tail_nil];congr 1<;>(try congr 1)<;>(try (funext fp r h'))<;>simp[Ax,Z2,I.news])
theorem Ax_mk (n0:Nat) (i:I) (d:Nat) (h0:List O) (l:List Ins) (ps:List (List Nat)) (lg:List (List Nat × List Nat)) (fp:List Nat × List Nat) (r:V):Ax P n0 i (some d) env h0 l ps lg κ' fp r h=(Z2 i h0 h/\AD P n0 l ps (lg++[fp]) ⟨put d r env,h⟩ κ'):=Rfl rfl
theorem Ax_no (n0:Nat) (i:I) (h0:List O) (l:List Ins) (ps:List (List Nat)) (lg:List (List Nat × List Nat)) (fp:List Nat × List Nat) (r:V):Ax P n0 i none env h0 l ps lg κ' fp r h=(Z2 i h0 h/\AD P n0 l ps (lg++[fp]) ⟨env,h⟩ κ'):=Rfl rfl
theorem Ax0_mk (n0:Nat) (i:I) (d:Nat) (h0:List O) (l:List Ins) (fp:List Nat × List Nat) (r:V):Ax0 P n0 i (some d) env h0 l κ' fp r h=(Z2 i h0 h/\AD P n0 l [] [] ⟨put d r env,h⟩ κ'):=Rfl rfl
theorem Ax0_no (n0:Nat) (i:I) (h0:List O) (l:List Ins) (fp:List Nat × List Nat) (r:V):Ax0 P n0 i none env h0 l κ' fp r h=(Z2 i h0 h/\AD P n0 l [] [] ⟨env,h⟩ κ'):=Rfl rfl
variable {n0:Nat} {js:List Nat} {lg:List (List Nat × List Nat)} {K:List Nat × List Nat->V->List O->Prop}
theorem Sx_call (f:FuncId) (args:List A):Sx P n0 js lg (.call f args) env h K=Ub P n0 js lg ((args.map (A.ev env)).flatMap V.ids2) f (args.map (A.ev env)) h K:=Rfl rfl
theorem Qzx (c:A) (args:List A):Sx P n0 js lg (.callv c args) env h K=E1 P n0 js lg (A.ev env c) (args.map (A.ev env)) h K:=Rfl rfl
theorem Gq_ot (c:Bool) (o:Option (V × List O)):Gq (.b c) true (Opt o) h k=Gd c o h k:=by cases c<;>simp[Gq,Xa,Gd]
theorem Gq_of (c:Bool) (o:Option (V × List O)):Gq (.b c) false (Opt o) h k=Gdn c o h k:=by cases c<;>simp[Gq,Xa,Gdn]
theorem Z0m (r:V) (h:List O):Opt (some (r,h)) k=k r h:=Rfl rfl
theorem Z0n:Opt none k=False:=Rfl rfl
theorem Opt_ite {c:Prop} [Decidable c] (r:V) (h:List O):Opt (if c then some (r,h) else none) k=(c/\k r h):=by
 by_cases hc:c<;>simp[hc,Opt]
theorem Z1c (c:Bool) (p q:Prop):Q55 (.b c) p q=((c=true->p)/\(c=false->q)):=Rfl rfl
theorem Gq_tt (F:(V->List O->Prop)->Prop):Gq (.b true) true F h k=F k:=by simp[Gq,Xa]
theorem Z10 (F:(V->List O->Prop)->Prop):Gq (.b false) false F h k=F k:=by simp[Gq,Xa]
theorem Z0u (F:(V->List O->Prop)->Prop):Gq (.b true) false F h k=k (.t []) h:=by simp[Gq,Xa]
theorem Gq_ft (F:(V->List O->Prop)->Prop):Gq (.b false) true F h k=k (.t []) h:=by simp[Gq,Xa]
theorem Gq_u (b:Bool) (F:(V->List O->Prop)->Prop):Gq (.t []) b F h k=k (.t []) h:=Rfl rfl
theorem Qf4 {i:I} (hi:i.plain=true):St1 P i ⟨env,h⟩ k=Opt (Q3 i (A.ev env) h) k:=by
 cases i<;>first | rfl | (simp[I.plain]at hi)
theorem Qbj (c:Bool) {i:I} (hi:i.plain=true):Gq (.b c) true (St1 P i ⟨env,h⟩) h k=Gd c (Q3 i (A.ev env) h) h k:=by
 cases c
 ·rw[Gq_ft];rfl
 ·rw[Gq_tt,Qf4 hi];rfl
theorem Qdj (c:Bool) {i:I} (hi:i.plain=true):Gq (.b c) false (St1 P i ⟨env,h⟩) h k=Gdn c (Q3 i (A.ev env) h) h k:=by
 cases c
 ·rw[Z10,Qf4 hi];rfl
 ·rw[Z0u];rfl
theorem Z14 (o:Option (V × List O)):Gdn true o h k=k (.t []) h:=Rfl rfl
theorem Z15 (c:Bool) (r:V):Gdn c (some (r,h)) h k=k (V.sen c r (.t [])) h:=by cases c<;>rfl
theorem Gdn_ite (c:Bool) {q:Prop} [Decidable q] (r:V):Gdn c (if q then some (r,h) else none) h k=((c=false->q)/\k (V.sen c r (.t [])) h):=by
 cases c
 ·by_cases hq:q<;>simp[Gdn,V.sen,hq,Opt]
 ·simp[Gdn,V.sen]
theorem Qv7 (x y:V):V.sen true x y=y:=Rfl rfl
theorem Qqy (x y:V):V.sen false x y=x:=Rfl rfl
theorem pk_true (x y:V):V.pk true x y=x:=Rfl rfl
theorem Qvj (x y:V):V.pk false x y=y:=Rfl rfl
theorem pk_or (c e:Bool):V.pk c (.b true) (.b e)=.b (c || e):=by cases c<;>rfl
theorem pk_and (c e:Bool):V.pk c (.b e) (.b false)=.b (c && e):=by cases c<;>rfl
theorem Qra (c e:Bool) (u:V):V.pk c (.b true) (V.sen c (.b e) u)=.b (c || e):=by cases c<;>rfl
theorem Qm6 (c e:Bool) (u:V):V.pk c (V.sel c (.b e) u) (.b false)=.b (c && e):=by cases c<;>rfl
theorem Gd_true (o:Option (V × List O)):Gd true o h k=Opt o k:=Rfl rfl
theorem Z16 (o:Option (V × List O)):Gd false o h k=k (.t []) h:=Rfl rfl
theorem Gd_some (c:Bool) (r:V):Gd c (some (r,h)) h k=k (V.sel c r (.t [])) h:=by cases c<;>rfl
theorem Gd_ite (c:Bool) {q:Prop} [Decidable q] (r:V):Gd c (if q then some (r,h) else none) h k=((c=true->q)/\k (V.sel c r (.t [])) h):=by
 cases c
 ·simp[Gd,V.sel]
 ·by_cases hq:q<;>simp[Gd,V.sel,hq,Opt]
theorem Z0z {c:Bool} {f:FuncId} {args:List A} {r:V} (hc:c=false->CallIs P f (args.map (A.ev env)) r) (hk:k (V.sen c r (.t [])) h):Gq (.b c) false (St1 P (.call f args) ⟨env,h⟩) h k:=by
 cases c
 ·rw[Z10];exact(hc rfl h).mono λr' h' hh=>by rw[hh.1,hh.2];exact hk
 ·rw[Z0u];exact hk
theorem Q2 {f:FuncId} {vs:List V} {r:V} (hc:CallIs P f vs r) (hk:k r h):ACall P f vs h k:=(hc h).mono λr' h' hh=>by rw[hh.1,hh.2];exact hk
theorem Qv8 (x y:V):V.sel true x y=x:=Rfl rfl
theorem Qqz (x y:V):V.sel false x y=y:=Rfl rfl
def Isn (v:V) (neg:Bool) (h:List O) (k:V->List O->Prop):Prop :=
 match v.empt with
 | true=>k (.b true) h/\k (.b false) h
 | false=>match v with
   | .l _ (_::_)=>k (.b neg) h
   | .own id g off len=>match h[id]? with
     | some (.arr g' _ _)=>(g=g'/\0<len)/\k (.b neg) h
     | _=>False
   | _=>False
theorem St1_isn (neg:Bool) (x:A):St1 P (.isn neg x) ⟨env,h⟩ k=Isn (A.ev env x) neg h k:=by
 simp only[St1,Isn,Q3];generalize A.ev env x=v;cases he:v.empt with
 | true=>rfl
 | false =>
   cases v<;>first | rfl | skip
   case l sz els=>cases els<;>first | rfl | (simp[V.empt]at he)
   case own id g off len =>
    cases hh:h[id]? with
    | none=>simp[hh,Opt]
    | some o =>
      cases o with
      | arr g' sz els=>by_cases hc:g=g'/\0<len<;>simp[hh,hc,Opt]
      | _=>simp[hh,Opt]
theorem Isn_l0 (sz:Nat) (neg:Bool):Isn (.l sz []) neg h k=(k (.b true) h/\k (.b false) h):=Rfl rfl
theorem Isn_l1 (sz:Nat) (neg:Bool) (e:List V) (es:List (List V)):Isn (.l sz (e::es)) neg h k=k (.b neg) h:=Rfl rfl
theorem Z01 (a0:A):St1 P (.mrng a0) ⟨env,h⟩ k=Opt (Q3 (.mrng a0) (A.ev env) h) k:=Rfl rfl
theorem St1_men (a0:A):St1 P (.men a0) ⟨env,h⟩ k=Opt (Q3 (.men a0) (A.ev env) h) k:=Rfl rfl
theorem St1_mnx (a0:A):St1 P (.mnx a0) ⟨env,h⟩ k=Mnx (A.ev env a0) h k:=Rfl rfl
theorem Qto (c:A) (args:List A):St1 P (.callv c args) ⟨env,h⟩ k=(match A.ev env c with | .f f caps=>Qx P f=true/\ACall P f (args.map (A.ev env)++caps) h k | _=>False):=Rfl rfl
theorem Qln (x:A):Q3 (.mrng x) ev h=(match ev x with
  | .mp id=>match h[id]? with
    | some (.mp es)=>some (.p h.length 1 0 0,h++[.it (some id) es.length []])
    | _=>none
  | .mnil=>some (.p h.length 1 0 0,h++[.it none 0 []])
  | _=>none):=Rfl rfl
theorem Qvz (a0:A) {h h':List O}:Z2 (.mv a0) h h'=True:=Rfl rfl
theorem foot_mv (a0:A) {ev:A->V}:I.foot (.mv a0) ev=([],[]):=Rfl rfl
theorem Qmf (a0:A) (a1:A) (a2:A) {h h':List O}:Z2 (.pick a0 a1 a2) h h'=True:=Rfl rfl
theorem Qsb (a0:A) (a1:A) (a2:A) {ev:A->V}:I.foot (.pick a0 a1 a2) ev=([],[]):=Rfl rfl
theorem Qw2 (a0:Option Nat) (a1:A) {h h':List O}:Z2 (.ld a0 a1) h h'=True:=Rfl rfl
theorem foot_ld (a0:Option Nat) (a1:A) {ev:A->V}:I.foot (.ld a0 a1) ev=((ev a1).ids0,[]):=Rfl rfl
theorem Qvx (a0:Nat) (a1:A) (a2:A) {h h':List O}:Z2 (.st a0 a1 a2) h h'=True:=Rfl rfl
theorem foot_st (a0:Nat) (a1:A) (a2:A) {ev:A->V}:I.foot (.st a0 a1 a2) ev=((ev a1).ids0,(ev a1).ids0):=Rfl rfl
theorem Qjq (a0:List V) {h h':List O}:Z2 (.alloc a0) h h'=(∀o∈h'.drop h.length,o.cl h.length):=Rfl rfl
theorem Qn5 (a0:List V) {ev:A->V}:I.foot (.alloc a0) ev=([],[]):=Rfl rfl
theorem Qw4 (a0:Nat) (a1:A) {h h':List O}:Z2 (.fa a0 a1) h h'=True:=Rfl rfl
theorem foot_fa (a0:Nat) (a1:A) {ev:A->V}:I.foot (.fa a0 a1) ev=((ev a1).ids0,[]):=Rfl rfl
theorem Qw3 (a0:Nat) (a1:A) (a2:A) {h h':List O}:Z2 (.ia a0 a1 a2) h h'=True:=Rfl rfl
theorem foot_ia (a0:Nat) (a1:A) (a2:A) {ev:A->V}:I.foot (.ia a0 a1 a2) ev=((ev a1).ids0,[]):=Rfl rfl
theorem Qrn (a0:BinOp) (a1:A) (a2:A) {h h':List O}:Z2 (.bin a0 a1 a2) h h'=True:=Rfl rfl
theorem Qyb (a0:BinOp) (a1:A) (a2:A) {ev:A->V}:I.foot (.bin a0 a1 a2) ev=([],[]):=Rfl rfl
theorem Qrk (a0:List Nat) (a1:Bool) (a2:A) (a3:A) {h h':List O}:Z2 (.eqa a0 a1 a2 a3) h h'=True:=Rfl rfl
theorem Qy8 (a0:List Nat) (a1:Bool) (a2:A) (a3:A) {ev:A->V}:I.foot (.eqa a0 a1 a2 a3) ev=([],[]):=Rfl rfl
theorem Qvw (a0:UnOp) (a1:A) {h h':List O}:Z2 (.un a0 a1) h h'=True:=Rfl rfl
theorem foot_un (a0:UnOp) (a1:A) {ev:A->V}:I.foot (.un a0 a1) ev=([],[]):=Rfl rfl
theorem Qri (a0:Nat) (a1:A) {h h':List O}:Z2 (.len a0 a1) h h'=True:=Rfl rfl
theorem Qy5 (a0:Nat) (a1:A) {ev:A->V}:I.foot (.len a0 a1) ev=((ev a1).ids0,[]):=Rfl rfl
theorem Qvy (a0:List A) {h h':List O}:Z2 (.mx a0) h h'=True:=Rfl rfl
theorem foot_mx (a0:List A) {ev:A->V}:I.foot (.mx a0) ev=([],[]):=Rfl rfl
theorem Qw0 (a0:List A) {h h':List O}:Z2 (.mn a0) h h'=True:=Rfl rfl
theorem foot_mn (a0:List A) {ev:A->V}:I.foot (.mn a0) ev=([],[]):=Rfl rfl
theorem Qjp (a0:List V) (a1:List (Nat × Nat × A)) {h h':List O}:Z2 (.build a0 a1) h h'=True:=Rfl rfl
theorem Qn4 (a0:List V) (a1:List (Nat × Nat × A)) {ev:A->V}:I.foot (.build a0 a1) ev=([],[]):=Rfl rfl
theorem Qrm (a0:Nat) (a1:Nat) (a2:List V) (a3:List (Nat × A)) {h h':List O}:Z2 (.bsi a0 a1 a2 a3) h h'=True:=Rfl rfl
theorem Qya (a0:Nat) (a1:Nat) (a2:List V) (a3:List (Nat × A)) {ev:A->V}:I.foot (.bsi a0 a1 a2 a3) ev=([],[]):=Rfl rfl
theorem Qrl (a0:Nat) (a1:Nat) (a2:List V) (a3:List (Nat × A)) {h h':List O}:Z2 (.bso a0 a1 a2 a3) h h'=(∀o∈h'.drop h.length,o.cl h.length):=Rfl rfl
theorem Qy9 (a0:Nat) (a1:Nat) (a2:List V) (a3:List (Nat × A)) {ev:A->V}:I.foot (.bso a0 a1 a2 a3) ev=([],[]):=Rfl rfl
theorem Qro (a0:Nat) (a1:Nat) (a2:A) (a3:A) {h h':List O}:Z2 (.app a0 a1 a2 a3) h h'=(∀o∈h'.drop h.length,o.cl h.length):=Rfl rfl
theorem Qyc (a0:Nat) (a1:Nat) (a2:A) (a3:A) {ev:A->V}:I.foot (.app a0 a1 a2 a3) ev=((ev a2).ids0++(ev a3).ids0,(ev a2).ids0):=Rfl rfl
theorem Qmg (a0:Nat) (a1:A) (a2:A) {h h':List O}:Z2 (.copy a0 a1 a2) h h'=True:=Rfl rfl
theorem Qsc (a0:Nat) (a1:A) (a2:A) {ev:A->V}:I.foot (.copy a0 a1 a2) ev=((ev a1).ids0++(ev a2).ids0,(ev a1).ids0):=Rfl rfl
theorem Qrf (a0:Nat) (a1:A) (a2:Option A) (a3:Option A) {h h':List O}:Z2 (.slc a0 a1 a2 a3) h h'=True:=Rfl rfl
theorem Qy2 (a0:Nat) (a1:A) (a2:Option A) (a3:Option A) {ev:A->V}:I.foot (.slc a0 a1 a2 a3) ev=((ev a1).ids0,[]):=Rfl rfl
theorem Qrj (a0:A) (a1:Nat) {h h':List O}:Z2 (.ext a0 a1) h h'=True:=Rfl rfl
theorem Qy7 (a0:A) (a1:Nat) {ev:A->V}:I.foot (.ext a0 a1) ev=([],[]):=Rfl rfl
theorem Qrg (a0:A) {h h':List O}:Z2 (.nck a0) h h'=True:=Rfl rfl
theorem Qy3 (a0:A) {ev:A->V}:I.foot (.nck a0) ev=((ev a0).ids0,[]):=Rfl rfl
theorem Qw1 (a0:List Nat) (a1:V) (a2:Bool) (a3:A) (a4:A) {h h':List O}:Z2 (.lk a0 a1 a2 a3 a4) h h'=True:=Rfl rfl
theorem foot_lk (a0:List Nat) (a1:V) (a2:Bool) (a3:A) (a4:A) {ev:A->V}:I.foot (.lk a0 a1 a2 a3 a4) ev=((ev a3).ids0,[]):=Rfl rfl
theorem Qrh (a0:List Nat) (a1:A) (a2:A) (a3:A) {h h':List O}:Z2 (.mup a0 a1 a2 a3) h h'=True:=Rfl rfl
theorem Qy4 (a0:List Nat) (a1:A) (a2:A) (a3:A) {ev:A->V}:I.foot (.mup a0 a1 a2 a3) ev=((ev a1).ids0,(ev a1).ids0):=Rfl rfl
theorem Qmh (f:FuncId) (l:List A) {h h':List O}:Z2 (.call f l) h h'=True:=Rfl rfl
theorem Qjo (f:A) (l:List A) {h h':List O}:Z2 (.callv f l) h h'=True:=Rfl rfl
theorem ids1_i (k:IntKind) (n:Int):V.ids1 (.i k n)=[]:=Rfl rfl
theorem ids2_i (k:IntKind) (n:Int):V.ids2 (.i k n)=[]:=Rfl rfl
theorem ids0_l (sz:Nat) (els:List (List V)):V.ids0 (.l sz els)=[]:=Rfl rfl
theorem Qxo (id g off len:Nat):V.ids0 (.own id g off len)=[id]:=Rfl rfl
theorem ids0_p (id g e j:Nat):V.ids0 (.p id g e j)=[id]:=Rfl rfl
theorem ids0_ip (cells:List V):V.ids0 (.ip cells)=[]:=Rfl rfl
theorem ids2_a (cs:List V):V.ids2 (.a cs)=cs.flatMap V.ids1:=Rfl rfl
theorem Sx_mv (a0:A):Sx P n0 js lg (.mv a0) env h K=(chk js lg (I.foot (.mv a0) (A.ev env))=true/\Opt (Q3 (.mv a0) (A.ev env) h) (K (I.foot (.mv a0) (A.ev env)))):=Rfl rfl
theorem Sg_mv (a0:A) {v:V} {b:Bool}:Sg P n0 js lg (.mv a0) v b env h K=(chk js lg (I.foot (.mv a0) (A.ev env))=true/\Gq v b (Opt (Q3 (.mv a0) (A.ev env) h)) h (K (I.foot (.mv a0) (A.ev env)))):=Rfl rfl
theorem Sx_pick (a0:A) (a1:A) (a2:A):Sx P n0 js lg (.pick a0 a1 a2) env h K=(chk js lg (I.foot (.pick a0 a1 a2) (A.ev env))=true/\Opt (Q3 (.pick a0 a1 a2) (A.ev env) h) (K (I.foot (.pick a0 a1 a2) (A.ev env)))):=Rfl rfl
theorem Sg_pick (a0:A) (a1:A) (a2:A) {v:V} {b:Bool}:Sg P n0 js lg (.pick a0 a1 a2) v b env h K=(chk js lg (I.foot (.pick a0 a1 a2) (A.ev env))=true/\Gq v b (Opt (Q3 (.pick a0 a1 a2) (A.ev env) h)) h (K (I.foot (.pick a0 a1 a2) (A.ev env)))):=Rfl rfl
theorem Sx_ld (a0:Option Nat) (a1:A):Sx P n0 js lg (.ld a0 a1) env h K=(chk js lg (I.foot (.ld a0 a1) (A.ev env))=true/\Opt (Q3 (.ld a0 a1) (A.ev env) h) (K (I.foot (.ld a0 a1) (A.ev env)))):=Rfl rfl
theorem Sg_ld (a0:Option Nat) (a1:A) {v:V} {b:Bool}:Sg P n0 js lg (.ld a0 a1) v b env h K=(chk js lg (I.foot (.ld a0 a1) (A.ev env))=true/\Gq v b (Opt (Q3 (.ld a0 a1) (A.ev env) h)) h (K (I.foot (.ld a0 a1) (A.ev env)))):=Rfl rfl
theorem Sx_st (a0:Nat) (a1:A) (a2:A):Sx P n0 js lg (.st a0 a1 a2) env h K=(chk js lg (I.foot (.st a0 a1 a2) (A.ev env))=true/\Opt (Q3 (.st a0 a1 a2) (A.ev env) h) (K (I.foot (.st a0 a1 a2) (A.ev env)))):=Rfl rfl
theorem Qzz (a0:List V):Sx P n0 js lg (.alloc a0) env h K=(chk js lg (I.foot (.alloc a0) (A.ev env))=true/\Opt (Q3 (.alloc a0) (A.ev env) h) (K (I.foot (.alloc a0) (A.ev env)))):=Rfl rfl
theorem Sx_fa (a0:Nat) (a1:A):Sx P n0 js lg (.fa a0 a1) env h K=(chk js lg (I.foot (.fa a0 a1) (A.ev env))=true/\Opt (Q3 (.fa a0 a1) (A.ev env) h) (K (I.foot (.fa a0 a1) (A.ev env)))):=Rfl rfl
theorem Sg_fa (a0:Nat) (a1:A) {v:V} {b:Bool}:Sg P n0 js lg (.fa a0 a1) v b env h K=(chk js lg (I.foot (.fa a0 a1) (A.ev env))=true/\Gq v b (Opt (Q3 (.fa a0 a1) (A.ev env) h)) h (K (I.foot (.fa a0 a1) (A.ev env)))):=Rfl rfl
theorem Sx_ia (a0:Nat) (a1:A) (a2:A):Sx P n0 js lg (.ia a0 a1 a2) env h K=(chk js lg (I.foot (.ia a0 a1 a2) (A.ev env))=true/\Opt (Q3 (.ia a0 a1 a2) (A.ev env) h) (K (I.foot (.ia a0 a1 a2) (A.ev env)))):=Rfl rfl
theorem Sg_ia (a0:Nat) (a1:A) (a2:A) {v:V} {b:Bool}:Sg P n0 js lg (.ia a0 a1 a2) v b env h K=(chk js lg (I.foot (.ia a0 a1 a2) (A.ev env))=true/\Gq v b (Opt (Q3 (.ia a0 a1 a2) (A.ev env) h)) h (K (I.foot (.ia a0 a1 a2) (A.ev env)))):=Rfl rfl
theorem Sx_bin (a0:BinOp) (a1:A) (a2:A):Sx P n0 js lg (.bin a0 a1 a2) env h K=(chk js lg (I.foot (.bin a0 a1 a2) (A.ev env))=true/\Opt (Q3 (.bin a0 a1 a2) (A.ev env) h) (K (I.foot (.bin a0 a1 a2) (A.ev env)))):=Rfl rfl
theorem Sg_bin (a0:BinOp) (a1:A) (a2:A) {v:V} {b:Bool}:Sg P n0 js lg (.bin a0 a1 a2) v b env h K=(chk js lg (I.foot (.bin a0 a1 a2) (A.ev env))=true/\Gq v b (Opt (Q3 (.bin a0 a1 a2) (A.ev env) h)) h (K (I.foot (.bin a0 a1 a2) (A.ev env)))):=Rfl rfl
theorem Sx_eqa (a0:List Nat) (a1:Bool) (a2:A) (a3:A):Sx P n0 js lg (.eqa a0 a1 a2 a3) env h K=(chk js lg (I.foot (.eqa a0 a1 a2 a3) (A.ev env))=true/\Opt (Q3 (.eqa a0 a1 a2 a3) (A.ev env) h) (K (I.foot (.eqa a0 a1 a2 a3) (A.ev env)))):=Rfl rfl
theorem Sg_eqa (a0:List Nat) (a1:Bool) (a2:A) (a3:A) {v:V} {b:Bool}:Sg P n0 js lg (.eqa a0 a1 a2 a3) v b env h K=(chk js lg (I.foot (.eqa a0 a1 a2 a3) (A.ev env))=true/\Gq v b (Opt (Q3 (.eqa a0 a1 a2 a3) (A.ev env) h)) h (K (I.foot (.eqa a0 a1 a2 a3) (A.ev env)))):=Rfl rfl
theorem Sx_un (a0:UnOp) (a1:A):Sx P n0 js lg (.un a0 a1) env h K=(chk js lg (I.foot (.un a0 a1) (A.ev env))=true/\Opt (Q3 (.un a0 a1) (A.ev env) h) (K (I.foot (.un a0 a1) (A.ev env)))):=Rfl rfl
theorem Sg_un (a0:UnOp) (a1:A) {v:V} {b:Bool}:Sg P n0 js lg (.un a0 a1) v b env h K=(chk js lg (I.foot (.un a0 a1) (A.ev env))=true/\Gq v b (Opt (Q3 (.un a0 a1) (A.ev env) h)) h (K (I.foot (.un a0 a1) (A.ev env)))):=Rfl rfl
theorem Sx_len (a0:Nat) (a1:A):Sx P n0 js lg (.len a0 a1) env h K=(chk js lg (I.foot (.len a0 a1) (A.ev env))=true/\Opt (Q3 (.len a0 a1) (A.ev env) h) (K (I.foot (.len a0 a1) (A.ev env)))):=Rfl rfl
theorem Sg_len (a0:Nat) (a1:A) {v:V} {b:Bool}:Sg P n0 js lg (.len a0 a1) v b env h K=(chk js lg (I.foot (.len a0 a1) (A.ev env))=true/\Gq v b (Opt (Q3 (.len a0 a1) (A.ev env) h)) h (K (I.foot (.len a0 a1) (A.ev env)))):=Rfl rfl
theorem Sx_mx (a0:List A):Sx P n0 js lg (.mx a0) env h K=(chk js lg (I.foot (.mx a0) (A.ev env))=true/\Opt (Q3 (.mx a0) (A.ev env) h) (K (I.foot (.mx a0) (A.ev env)))):=Rfl rfl
theorem Sx_mn (a0:List A):Sx P n0 js lg (.mn a0) env h K=(chk js lg (I.foot (.mn a0) (A.ev env))=true/\Opt (Q3 (.mn a0) (A.ev env) h) (K (I.foot (.mn a0) (A.ev env)))):=Rfl rfl
theorem Qzy (a0:List V) (a1:List (Nat × Nat × A)):Sx P n0 js lg (.build a0 a1) env h K=(chk js lg (I.foot (.build a0 a1) (A.ev env))=true/\Opt (Q3 (.build a0 a1) (A.ev env) h) (K (I.foot (.build a0 a1) (A.ev env)))):=Rfl rfl
theorem Z06 (a0:List V) (a1:List (Nat × Nat × A)) {v:V} {b:Bool}:Sg P n0 js lg (.build a0 a1) v b env h K=(chk js lg (I.foot (.build a0 a1) (A.ev env))=true/\Gq v b (Opt (Q3 (.build a0 a1) (A.ev env) h)) h (K (I.foot (.build a0 a1) (A.ev env)))):=Rfl rfl
theorem Sx_bsi (a0:Nat) (a1:Nat) (a2:List V) (a3:List (Nat × A)):Sx P n0 js lg (.bsi a0 a1 a2 a3) env h K=(chk js lg (I.foot (.bsi a0 a1 a2 a3) (A.ev env))=true/\Opt (Q3 (.bsi a0 a1 a2 a3) (A.ev env) h) (K (I.foot (.bsi a0 a1 a2 a3) (A.ev env)))):=Rfl rfl
theorem Sx_bso (a0:Nat) (a1:Nat) (a2:List V) (a3:List (Nat × A)):Sx P n0 js lg (.bso a0 a1 a2 a3) env h K=(chk js lg (I.foot (.bso a0 a1 a2 a3) (A.ev env))=true/\Opt (Q3 (.bso a0 a1 a2 a3) (A.ev env) h) (K (I.foot (.bso a0 a1 a2 a3) (A.ev env)))):=Rfl rfl
theorem Sx_app (a0:Nat) (a1:Nat) (a2:A) (a3:A):Sx P n0 js lg (.app a0 a1 a2 a3) env h K=(chk js lg (I.foot (.app a0 a1 a2 a3) (A.ev env))=true/\Opt (Q3 (.app a0 a1 a2 a3) (A.ev env) h) (K (I.foot (.app a0 a1 a2 a3) (A.ev env)))):=Rfl rfl
theorem Sx_copy (a0:Nat) (a1:A) (a2:A):Sx P n0 js lg (.copy a0 a1 a2) env h K=(chk js lg (I.foot (.copy a0 a1 a2) (A.ev env))=true/\Opt (Q3 (.copy a0 a1 a2) (A.ev env) h) (K (I.foot (.copy a0 a1 a2) (A.ev env)))):=Rfl rfl
theorem Sx_slc (a0:Nat) (a1:A) (a2:Option A) (a3:Option A):Sx P n0 js lg (.slc a0 a1 a2 a3) env h K=(chk js lg (I.foot (.slc a0 a1 a2 a3) (A.ev env))=true/\Opt (Q3 (.slc a0 a1 a2 a3) (A.ev env) h) (K (I.foot (.slc a0 a1 a2 a3) (A.ev env)))):=Rfl rfl
theorem Sx_ext (a0:A) (a1:Nat):Sx P n0 js lg (.ext a0 a1) env h K=(chk js lg (I.foot (.ext a0 a1) (A.ev env))=true/\Opt (Q3 (.ext a0 a1) (A.ev env) h) (K (I.foot (.ext a0 a1) (A.ev env)))):=Rfl rfl
theorem Sx_nck (a0:A):Sx P n0 js lg (.nck a0) env h K=(chk js lg (I.foot (.nck a0) (A.ev env))=true/\Opt (Q3 (.nck a0) (A.ev env) h) (K (I.foot (.nck a0) (A.ev env)))):=Rfl rfl
theorem Sx_lk (a0:List Nat) (a1:V) (a2:Bool) (a3:A) (a4:A):Sx P n0 js lg (.lk a0 a1 a2 a3 a4) env h K=(chk js lg (I.foot (.lk a0 a1 a2 a3 a4) (A.ev env))=true/\Opt (Q3 (.lk a0 a1 a2 a3 a4) (A.ev env) h) (K (I.foot (.lk a0 a1 a2 a3 a4) (A.ev env)))):=Rfl rfl
theorem Sx_mup (a0:List Nat) (a1:A) (a2:A) (a3:A):Sx P n0 js lg (.mup a0 a1 a2 a3) env h K=(chk js lg (I.foot (.mup a0 a1 a2 a3) (A.ev env))=true/\Opt (Q3 (.mup a0 a1 a2 a3) (A.ev env) h) (K (I.foot (.mup a0 a1 a2 a3) (A.ev env)))):=Rfl rfl
theorem Z04 (f:FuncId) (args:List A):St1 P (.call f args) ⟨env,h⟩ k=ACall P f (args.map (A.ev env)) h k:=Rfl rfl
theorem St1_mv (a0:A):St1 P (.mv a0) ⟨env,h⟩ k=Opt (Q3 (.mv a0) (A.ev env) h) k:=Rfl rfl
theorem Z00 (a0:A) (a1:A) (a2:A):St1 P (.pick a0 a1 a2) ⟨env,h⟩ k=Opt (Q3 (.pick a0 a1 a2) (A.ev env) h) k:=Rfl rfl
theorem St1_ld (a0:Option Nat) (a1:A):St1 P (.ld a0 a1) ⟨env,h⟩ k=Opt (Q3 (.ld a0 a1) (A.ev env) h) k:=Rfl rfl
theorem St1_st (a0:Nat) (a1:A) (a2:A):St1 P (.st a0 a1 a2) ⟨env,h⟩ k=Opt (Q3 (.st a0 a1 a2) (A.ev env) h) k:=Rfl rfl
theorem Qtq (a0:List V):St1 P (.alloc a0) ⟨env,h⟩ k=Opt (Q3 (.alloc a0) (A.ev env) h) k:=Rfl rfl
theorem St1_box (a0:A):St1 P (.box a0) ⟨env,h⟩ k=Opt (Q3 (.box a0) (A.ev env) h) k:=Rfl rfl
theorem St1_fa (a0:Nat) (a1:A):St1 P (.fa a0 a1) ⟨env,h⟩ k=Opt (Q3 (.fa a0 a1) (A.ev env) h) k:=Rfl rfl
theorem St1_ia (a0:Nat) (a1:A) (a2:A):St1 P (.ia a0 a1 a2) ⟨env,h⟩ k=Opt (Q3 (.ia a0 a1 a2) (A.ev env) h) k:=Rfl rfl
theorem St1_iaa (a0:Nat) (a1:Nat) (a2:A) (a3:A):St1 P (.iaa a0 a1 a2 a3) ⟨env,h⟩ k=Opt (Q3 (.iaa a0 a1 a2 a3) (A.ev env) h) k:=Rfl rfl
theorem St1_ix (a0:Nat) (a1:Nat) (a2:Option Nat) (a3:A) (a4:A):St1 P (.ix a0 a1 a2 a3 a4) ⟨env,h⟩ k=Opt (Q3 (.ix a0 a1 a2 a3 a4) (A.ev env) h) k:=Rfl rfl
theorem St1_bin (a0:BinOp) (a1:A) (a2:A):St1 P (.bin a0 a1 a2) ⟨env,h⟩ k=Opt (Q3 (.bin a0 a1 a2) (A.ev env) h) k:=Rfl rfl
theorem St1_eqa (a0:List Nat) (a1:Bool) (a2:A) (a3:A):St1 P (.eqa a0 a1 a2 a3) ⟨env,h⟩ k=Opt (Q3 (.eqa a0 a1 a2 a3) (A.ev env) h) k:=Rfl rfl
theorem St1_un (a0:UnOp) (a1:A):St1 P (.un a0 a1) ⟨env,h⟩ k=Opt (Q3 (.un a0 a1) (A.ev env) h) k:=Rfl rfl
theorem St1_cvi (a0:IntKind) (a1:A):St1 P (.cvi a0 a1) ⟨env,h⟩ k=Opt (Q3 (.cvi a0 a1) (A.ev env) h) k:=Rfl rfl
theorem St1_len (a0:Nat) (a1:A):St1 P (.len a0 a1) ⟨env,h⟩ k=Opt (Q3 (.len a0 a1) (A.ev env) h) k:=Rfl rfl
theorem St1_mx (a0:List A):St1 P (.mx a0) ⟨env,h⟩ k=Opt (Q3 (.mx a0) (A.ev env) h) k:=Rfl rfl
theorem St1_mn (a0:List A):St1 P (.mn a0) ⟨env,h⟩ k=Opt (Q3 (.mn a0) (A.ev env) h) k:=Rfl rfl
theorem Qtp (a0:List V) (a1:List (Nat × Nat × A)):St1 P (.build a0 a1) ⟨env,h⟩ k=Opt (Q3 (.build a0 a1) (A.ev env) h) k:=Rfl rfl
theorem St1_bsi (a0:Nat) (a1:Nat) (a2:List V) (a3:List (Nat × A)):St1 P (.bsi a0 a1 a2 a3) ⟨env,h⟩ k=Opt (Q3 (.bsi a0 a1 a2 a3) (A.ev env) h) k:=Rfl rfl
theorem St1_bso (a0:Nat) (a1:Nat) (a2:List V) (a3:List (Nat × A)):St1 P (.bso a0 a1 a2 a3) ⟨env,h⟩ k=Opt (Q3 (.bso a0 a1 a2 a3) (A.ev env) h) k:=Rfl rfl
theorem St1_mks (a0:Nat) (a1:Nat) (a2:List V) (a3:A):St1 P (.mks a0 a1 a2 a3) ⟨env,h⟩ k=Opt (Q3 (.mks a0 a1 a2 a3) (A.ev env) h) k:=Rfl rfl
theorem St1_app (a0:Nat) (a1:Nat) (a2:A) (a3:A):St1 P (.app a0 a1 a2 a3) ⟨env,h⟩ k=Opt (Q3 (.app a0 a1 a2 a3) (A.ev env) h) k:=Rfl rfl
theorem St1_sla (a0 a1:Nat) (a2:A):St1 P (.sla a0 a1 a2) ⟨env,h⟩ k=Opt (Q3 (.sla a0 a1 a2) (A.ev env) h) k:=Rfl rfl
theorem St1_ext (a0:A) (a1:Nat):St1 P (.ext a0 a1) ⟨env,h⟩ k=Opt (Q3 (.ext a0 a1) (A.ev env) h) k:=Rfl rfl
theorem St1_nck (a0:A):St1 P (.nck a0) ⟨env,h⟩ k=Opt (Q3 (.nck a0) (A.ev env) h) k:=Rfl rfl
theorem St1_mkm (a0:Option A):St1 P (.mkm a0) ⟨env,h⟩ k=Opt (Q3 (.mkm a0) (A.ev env) h) k:=Rfl rfl
theorem St1_lk (a0:List Nat) (a1:V) (a2:Bool) (a3:A) (a4:A):St1 P (.lk a0 a1 a2 a3 a4) ⟨env,h⟩ k=Opt (Q3 (.lk a0 a1 a2 a3 a4) (A.ev env) h) k:=Rfl rfl
theorem Z02 (a0:List Nat) (a1:V) (a2:A) (a3:A):St1 P (.ment a0 a1 a2 a3) ⟨env,h⟩ k=Opt (Q3 (.ment a0 a1 a2 a3) (A.ev env) h) k:=Rfl rfl
theorem St1_est (a0:A) (a1:A) (a2:A):St1 P (.est a0 a1 a2) ⟨env,h⟩ k=Opt (Q3 (.est a0 a1 a2) (A.ev env) h) k:=Rfl rfl
theorem Z03 (a0:List Nat) (a1:A) (a2:A):St1 P (.mdel a0 a1 a2) ⟨env,h⟩ k=Opt (Q3 (.mdel a0 a1 a2) (A.ev env) h) k:=Rfl rfl
theorem Gq_t_mv (c:Bool) (a0:A):Gq (.b c) true (St1 P (.mv a0) ⟨env,h⟩) h k=Gd c (Q3 (.mv a0) (A.ev env) h) h k:=Qbj c rfl
theorem Gq_f_mv (c:Bool) (a0:A):Gq (.b c) false (St1 P (.mv a0) ⟨env,h⟩) h k=Gdn c (Q3 (.mv a0) (A.ev env) h) h k:=Qdj c rfl
theorem Qtu (c:Bool) (a0:A) (a1:A) (a2:A):Gq (.b c) false (St1 P (.pick a0 a1 a2) ⟨env,h⟩) h k=Gdn c (Q3 (.pick a0 a1 a2) (A.ev env) h) h k:=Qdj c rfl
theorem Gq_t_ld (c:Bool) (a0:Option Nat) (a1:A):Gq (.b c) true (St1 P (.ld a0 a1) ⟨env,h⟩) h k=Gd c (Q3 (.ld a0 a1) (A.ev env) h) h k:=Qbj c rfl
theorem Gq_f_ld (c:Bool) (a0:Option Nat) (a1:A):Gq (.b c) false (St1 P (.ld a0 a1) ⟨env,h⟩) h k=Gdn c (Q3 (.ld a0 a1) (A.ev env) h) h k:=Qdj c rfl
theorem Gq_t_fa (c:Bool) (a0:Nat) (a1:A):Gq (.b c) true (St1 P (.fa a0 a1) ⟨env,h⟩) h k=Gd c (Q3 (.fa a0 a1) (A.ev env) h) h k:=Qbj c rfl
theorem Gq_f_fa (c:Bool) (a0:Nat) (a1:A):Gq (.b c) false (St1 P (.fa a0 a1) ⟨env,h⟩) h k=Gdn c (Q3 (.fa a0 a1) (A.ev env) h) h k:=Qdj c rfl
theorem Gq_t_ia (c:Bool) (a0:Nat) (a1:A) (a2:A):Gq (.b c) true (St1 P (.ia a0 a1 a2) ⟨env,h⟩) h k=Gd c (Q3 (.ia a0 a1 a2) (A.ev env) h) h k:=Qbj c rfl
theorem Gq_f_ia (c:Bool) (a0:Nat) (a1:A) (a2:A):Gq (.b c) false (St1 P (.ia a0 a1 a2) ⟨env,h⟩) h k=Gdn c (Q3 (.ia a0 a1 a2) (A.ev env) h) h k:=Qdj c rfl
theorem Z0y (c:Bool) (a0:BinOp) (a1:A) (a2:A):Gq (.b c) true (St1 P (.bin a0 a1 a2) ⟨env,h⟩) h k=Gd c (Q3 (.bin a0 a1 a2) (A.ev env) h) h k:=Qbj c rfl
theorem Z13 (c:Bool) (a0:BinOp) (a1:A) (a2:A):Gq (.b c) false (St1 P (.bin a0 a1 a2) ⟨env,h⟩) h k=Gdn c (Q3 (.bin a0 a1 a2) (A.ev env) h) h k:=Qdj c rfl
theorem Z0w (c:Bool) (a0:Bool) (a1:A) (a2:A):Gq (.b c) true (St1 P (.eqb a0 a1 a2) ⟨env,h⟩) h k=Gd c (Q3 (.eqb a0 a1 a2) (A.ev env) h) h k:=Qbj c rfl
theorem Gq_t_un (c:Bool) (a0:UnOp) (a1:A):Gq (.b c) true (St1 P (.un a0 a1) ⟨env,h⟩) h k=Gd c (Q3 (.un a0 a1) (A.ev env) h) h k:=Qbj c rfl
theorem Gq_f_un (c:Bool) (a0:UnOp) (a1:A):Gq (.b c) false (St1 P (.un a0 a1) ⟨env,h⟩) h k=Gdn c (Q3 (.un a0 a1) (A.ev env) h) h k:=Qdj c rfl
theorem Z0v (c:Bool) (a0:Nat) (a1:A):Gq (.b c) true (St1 P (.len a0 a1) ⟨env,h⟩) h k=Gd c (Q3 (.len a0 a1) (A.ev env) h) h k:=Qbj c rfl
theorem Z11 (c:Bool) (a0:Nat) (a1:A):Gq (.b c) false (St1 P (.len a0 a1) ⟨env,h⟩) h k=Gdn c (Q3 (.len a0 a1) (A.ev env) h) h k:=Qdj c rfl
theorem Gq_f_mx (c:Bool) (a0:List A):Gq (.b c) false (St1 P (.mx a0) ⟨env,h⟩) h k=Gdn c (Q3 (.mx a0) (A.ev env) h) h k:=Qdj c rfl
theorem Gq_t_mn (c:Bool) (a0:List A):Gq (.b c) true (St1 P (.mn a0) ⟨env,h⟩) h k=Gd c (Q3 (.mn a0) (A.ev env) h) h k:=Qbj c rfl
theorem Z12 (c:Bool) (a0:Nat) (a1:Nat) (a2:List V) (a3:List (Nat × A)):Gq (.b c) false (St1 P (.bsi a0 a1 a2 a3) ⟨env,h⟩) h k=Gdn c (Q3 (.bsi a0 a1 a2 a3) (A.ev env) h) h k:=Qdj c rfl
theorem Z0x (c:Bool) (a0:Nat) (a1:Nat) (a2:List V) (a3:List (Nat × A)):Gq (.b c) true (St1 P (.bso a0 a1 a2 a3) ⟨env,h⟩) h k=Gd c (Q3 (.bso a0 a1 a2 a3) (A.ev env) h) h k:=Qbj c rfl
theorem Gq_t_lk (c:Bool) (a0:List Nat) (a1:V) (a2:Bool) (a3:A) (a4:A):Gq (.b c) true (St1 P (.lk a0 a1 a2 a3 a4) ⟨env,h⟩) h k=Gd c (Q3 (.lk a0 a1 a2 a3 a4) (A.ev env) h) h k:=Qbj c rfl
theorem Quo (x:A):Q3 (.mv x) ev h=(some (ev x,h)):=Rfl rfl
theorem Qlm (c:A) (a:A) (b:A):Q3 (.pick c a b) ev h=( match ev c with
  | .b t=>some (V.pk t (ev a) (ev b),h)
  | _=>none):=Rfl rfl
theorem Qur (n:Option Nat) (x:A):Q3 (.ld n x) ev h=(((X0 h (ev x)).bind (Jm n)).map (·,h)):=Rfl rfl
theorem Qul (n:Nat) (x:A) (y:A):Q3 (.st n x y) ev h=( match ev x with
  | .p id g e j=>match h[id]? with
    | some (.arr g' sz els)=>match els[e]? with
      | some cs=>if g=g'/\(ev y).cells.length=n/\j+n<=cs.length/\(ev y).okA
        then some (.any,h.set id (.arr g' sz (els.set e (K0 cs j (ev y).cells)))) else none
      | none=>none
    | _=>none
  | _=>none):=Rfl rfl
theorem Qiw (zero:List V):Q3 (.alloc zero) ev h=(some (.p h.length 1 0 0,h++[.arr 1 zero.length [zero]])):=Rfl rfl
theorem Qqq (x:A):Q3 (.box x) ev h=( match ev x with
  | .any=>none
  | .t _=>none
  | v=>some (.p h.length 1 0 0,h++[.arr 1 v.cells.length [v.cells]])):=Rfl rfl
theorem Quu (off:Nat) (x:A):Q3 (.fa off x) ev h=( match ev x with
  | .p id g e j=>match h[id]? with
    | some (.arr g' _ _)=>if g=g' then some (.p id g e (j+off),h) else none
    | _=>none
  | .ip cs=>some (.ip (cs.drop off),h)
  | _=>none):=Rfl rfl
theorem Qut (es:Nat) (x:A) (i:A):Q3 (.ia es x i) ev h=( match idx (ev i),ev x with
  | some n,.l sz els=>if sz=es/\0<=n then (els[n.toNat]?).map λel=>(.ip el,h) else none
  | some n,.own id g off len=>match h[id]? with
    | some (.arr g' sz els)=>if g=g'/\sz=es/\0<=n/\n.toNat<len then some (.p id g (off+n.toNat) 0,h) else none
    | _=>none
  | _,_=>none):=Rfl rfl
theorem Qqi (len:Nat) (es:Nat) (x:A) (i:A):Q3 (.iaa len es x i) ev h=( match idx (ev i),ev x with
  | some n,.p id g e j=>match h[id]? with
    | some (.arr g' _ _)=>if g=g'/\0<=n/\n.toNat<len then some (.p id g e (j+n.toNat*es),h) else none
    | _=>none
  | some n,.ip cs=>if 0<=n/\n.toNat<len then some (.ip (cs.drop (n.toNat*es)),h) else none
  | _,_=>none):=Rfl rfl
theorem Qus (len:Nat) (es:Nat) (n:Option Nat) (x:A) (i:A):Q3 (.ix len es n x i) ev h=( match idx (ev i),ev x with
  | some k,.a cs=>if 0<=k/\k.toNat<len/\k.toNat*es<=cs.length then (Jm n (cs.drop (k.toNat*es))).map (·,h) else none
  | _,_=>none):=Rfl rfl
theorem Qqr (op:BinOp) (x:A) (y:A):Q3 (.bin op x y) ev h=((Qzg op (ev x) (ev y)).map (·,h)):=Rfl rfl
theorem Qql (neg:Bool) (x:A) (y:A):Q3 (.eqb neg x y) ev h=( match ev x,ev y with
  | .b p,.b q=>some (.b (if neg then !(p == q) else p == q),h)
  | _,_=>none):=Rfl rfl
theorem Qqm (ks:List Nat) (neg:Bool) (x:A) (y:A):Q3 (.eqa ks neg x y) ev h=( match ev x,ev y with
  | .a p,.a q=>(Zi ks p q).map λr=>(.b (if neg then !r else r),h)
  | _,_=>none):=Rfl rfl
theorem Quk (op:UnOp) (x:A):Q3 (.un op x) ev h=((unV op (ev x)).map (·,h)):=Rfl rfl
theorem Qqn (k:IntKind) (x:A):Q3 (.cvi k x) ev h=( match ev x with
  | .i _ n=>some (.i k (k.wrap n),h)
  | _=>none):=Rfl rfl
theorem Qqh (k:Nat) (x:A):Q3 (.len k x) ev h=( match ev x with
  | .s l=>if k=1 then some (.i .i64 l.length,h) else none
  | .l _ els=>if k=0 then some (.i .i64 els.length,h) else none
  | .own id g off len=>if k=0 then match h[id]? with
    | some (.arr g' _ _)=>if g=g' then some (.i .i64 len,h) else none
    | _=>none else none
  | .nil=>if k=0 then some (.i .i64 0,h) else none
  | .mp id=>if k=2 then match h[id]? with
    | some (.mp es)=>some (.i .i64 es.length,h)
    | _=>none else none
  | .mnil=>if k=2 then some (.i .i64 0,h) else none
  | _=>none):=Rfl rfl
theorem Qun (xs:List A):Q3 (.mx xs) ev h=((W4 true (xs.map ev)).map (·,h)):=Rfl rfl
theorem Qup (xs:List A):Q3 (.mn xs) ev h=((W4 false (xs.map ev)).map (·,h)):=Rfl rfl
theorem Qiv (zero:List V) (parts:List (Nat × Nat × A)):Q3 (.build zero parts) ev h=((Q06 zero (parts.map λ(o,s,x)=>(o,s,ev x))).map λcs=>(.a cs,h)):=Rfl rfl
theorem Qqp (sz:Nat) (len:Nat) (zero:List V) (parts:List (Nat × A)):Q3 (.bsi sz len zero parts) ev h=( (Jt sz (List.replicate len zero) (parts.map λ(i,x)=>(i,ev x))).bind λels =>
   if els.all (·.all V.isD) then some (.l sz els,h) else none):=Rfl rfl
theorem Qqo (sz:Nat) (len:Nat) (zero:List V) (parts:List (Nat × A)):Q3 (.bso sz len zero parts) ev h=( (Jt sz (List.replicate len zero) (parts.map λ(i,x)=>(i,ev x))).map λels =>
   if len=0 then (.nil,h) else (.own h.length 1 0 len,h++[.arr 1 sz els])):=Rfl rfl
theorem Qqd (sz:Nat) (bytes:Nat) (zero:List V) (n:A):Q3 (.mks sz bytes zero n) ev h=( match ev n with
  | .i .i64 k=>if 0<=k/\k*bytes<=140737488355328/\k<=9223372036854775807 then some (.own h.length 1 0 k.toNat,h++[.arr 1 sz (List.replicate k.toNat zero)]) else none
  | _=>none):=Rfl rfl
theorem Qqs (sz:Nat) (bytes:Nat) (s:A) (x:A):Q3 (.app sz bytes s x) ev h=( match Zr sz h (ev x) with
  | some news=>match ev s with
    | .nil=>if news.length*bytes<=140737488355328/\news.length<=9223372036854775807 then some (.own h.length 1 0 news.length,h++[.arr 1 sz news]) else none
    | .own id g off len=>match h[id]? with
      | some (.arr g' sz' els)=>if g=g'/\sz'=sz/\off+len<=els.length/\(len+news.length)*bytes<=140737488355328/\len+news.length<=9223372036854775807
        then some (.own id (g+1) 0 (len+news.length),h.set id (.arr (g+1) sz ((els.drop off).take len++news))) else none
      | _=>none
    | _=>none
  | none=>none):=Rfl rfl
theorem Qlq (sz:Nat) (x:A) (y:A):Q3 (.copy sz x y) ev h=( match ev x,(match ev y with | .s l=>if sz=1 then some (l.map Yv) else none | v=>Zr sz h v) with
  | .own id g off len,some src=>match h[id]? with
    | some (.arr g' sz' els)=>if g=g'/\sz'=sz/\off+len<=els.length
      then some (.i .i64 (min src.length len:Nat),h.set id (.arr g' sz (els.take off++src.take len++els.drop (off+min src.length len)))) else none
    | _=>none
  | _,_=>none):=Rfl rfl
theorem Qq9 (sz:Nat) (x:A) (lo:Option A) (hi:Option A):Q3 (.slc sz x lo hi) ev h=( match ev x with
  | .l sz' els=>match bnd (lo.map ev) 0,bnd (hi.map ev) els.length with
    | some a,some b=>if sz'=sz/\a<=b/\b<=els.length then some (.l sz ((els.take b).drop a),h) else none
    | _,_=>none
  | .own id g off len=>match bnd (lo.map ev) 0,bnd (hi.map ev) len,h[id]? with
    | some a,some b,some (.arr g' sz' els)=>if g=g'/\sz'=sz/\a<=b/\b<=len then some (.own id g (off+a) (b-a),h) else none
    | _,_,_=>none
  | .nil=>match bnd (lo.map ev) 0,bnd (hi.map ev) 0 with
    | some 0,some 0=>some (.nil,h)
    | _,_=>none
  | _=>none):=Rfl rfl
theorem Qqj (x:A) (i:Nat):Q3 (.ext x i) ev h=( match ev x with
  | .t vs=>(vs[i]?).map (·,h)
  | _=>none):=Rfl rfl
theorem Qqb (x:A):Q3 (.nck x) ev h=( match ev x with
  | .p id g e j=>match h[id]? with
    | some (.arr g' _ _)=>if g=g' then some (.p id g e j,h) else none
    | _=>none
  | .ip cs=>some (.ip cs,h)
  | .f f cs=>some (.f f cs,h)
  | _=>none):=Rfl rfl
theorem Qqe (x:Option A):Q3 (.mkm x) ev h=(match x.map ev with
  | none=>some (.mp h.length,h++[.mp []])
  | some (.i _ _)=>some (.mp h.length,h++[.mp []])
  | _=>none):=Rfl rfl
theorem Qqf (x:A):Q3 (.men x) ev h=(match ev x with
  | .p id g 0 0=>match h[id]? with
    | some (.it (some mid) since seen)=>match h[mid]? with
      | some (.mp es)=>if g=1/\es.length=since then (seen.getLast?.bind λi=>es[i]?).map λe=>(.t [e.1,e.2],h) else none
      | _=>none
    | _=>none
  | _=>none):=Rfl rfl
theorem Qqa (sz n:Nat) (x:A):Q3 (.sla sz n x) ev h=(match ev x with
  | .p id g 0 0=>match h[id]? with
    | some (.arr g' sz' [cells])=>if g=g'/\sz'=n*sz/\0<n/\cells.all V.isD=true then some (.l sz (Wa sz n cells),h.set id .dead) else none
    | _=>none
  | _=>none):=Rfl rfl
theorem Qnl (sz:Nat) (cs:List V):Wa sz 0 cs=[]:=Rfl rfl
theorem Qnm (sz n:Nat) (cs:List V):Wa sz (n+1) cs=cs.take sz::Wa sz n (cs.drop sz):=Rfl rfl
theorem Quq (ks:List Nat) (zero:V) (ok:Bool) (m:A) (k:A):Q3 (.lk ks zero ok m k) ev h=( match Zm h (ev m) with
  | some es=>match Qo ks (ev k) es with
    | some (some (_,v))=>some (if ok then .t [v,.b true] else v,h)
    | some none=>some (if ok then .t [zero,.b false] else zero,h)
    | none=>none
  | none=>none):=Rfl rfl
theorem Qqc (ks:List Nat) (m:A) (k:A) (v:A):Q3 (.mup ks m k v) ev h=( match ev m with
  | .mp id=>match h[id]? with
    | some (.mp es)=>if (ev v).isT=false then match Qo ks (ev k) es with
      | some (some (i,_))=>some (.any,h.set id (.mp (es.set i (ev k,ev v))))
      | some none=>some (.any,h.set id (.mp (es++[(ev k,ev v)])))
      | none=>none else none
    | some (.md es)=>if (ev v).isT=false then match Qo ks (ev k) es with
      | some (some (i,_))=>some (.any,h.set id (.md (es.set i (ev k,ev v))))
      | _=>none else none
    | _=>none
  | _=>none):=Rfl rfl
theorem Qlp (ks:List Nat) (m:A) (k:A):Q3 (.mdel ks m k) ev h=( match ev m with
  | .mp id=>match Zm h (.mp id) with
    | some es=>match Qo ks (ev k) es with
      | some (some (i,_))=>some (.t [],h.set id (.md (es.eraseIdx i)))
      | _=>none
    | none=>none
  | _=>none):=Rfl rfl
theorem Qlo (ks:List Nat) (zero:V) (m:A) (k:A):Q3 (.ment ks zero m k) ev h=( match ev m with
  | .mp id=>match h[id]? with
    | some (.mp es)=>match Qo ks (ev k) es with
      | some (some (i,v))=>some (.t [v,.i .i64 i],h.set id (.mp (es.set i (ev k,v))))
      | some none=>some (.t [zero,.i .i64 es.length],h.set id (.mp (es++[(ev k,zero)])))
      | none=>none
    | _=>none
  | _=>none):=Rfl rfl
theorem Qqk (m:A) (s:A) (v:A):Q3 (.est m s v) ev h=( match ev m,ev s with
  | .mp id,.i _ n=>match h[id]? with
    | some (.mp es)=>if 0<=n then match es[n.toNat]? with
      | some (k,_)=>if (ev v).isT=false then some (.any,h.set id (.mp (es.set n.toNat (k,ev v)))) else none
      | none=>none else none
    | _=>none
  | _,_=>none):=Rfl rfl
theorem ev_t (n:Nat):A.ev env (.t n)=get n env:=Rfl rfl
theorem ev_c (v:V):A.ev env (.c v)=v:=Rfl rfl
theorem get_nil (t:Nat):get t []=.any:=Rfl rfl
theorem Qxv (t s:Nat) (u:V) (r:List (Nat × V)):get t ((s,u)::r)=if t=s then u else get t r:=Rfl rfl
theorem put_nil (t:Nat) (v:V):put t v []=[(t,v)]:=Rfl rfl
theorem Qvg (t:Nat) (v:V) (s:Nat) (u:V) (r:List (Nat × V)):put t v ((s,u)::r)=if t<s then (t,v)::(s,u)::r else if t=s then (t,v)::r else (s,u)::put t v r:=Rfl rfl
theorem Qtl (x:Bool):V.cells (.b x)=([.b x]):=Rfl rfl
theorem V_okA_b (x:Bool):V.okA (.b x)=(true):=Rfl rfl
theorem V_cl_b (x:Bool) (N:Nat):V.cl N (.b x)=(true):=Rfl rfl
theorem Qtk (k:IntKind) (n:Int):V.cells (.i k n)=([.i k n]):=Rfl rfl
theorem V_okA_i (k:IntKind) (n:Int):V.okA (.i k n)=(true):=Rfl rfl
theorem V_isD_i (k:IntKind) (n:Int):V.isD (.i k n)=(true):=Rfl rfl
theorem idx_i (k:IntKind) (n:Int):idx (.i k n)=(some n):=Rfl rfl
theorem V_cl1_i (k:IntKind) (n:Int) (N:Nat):V.cl1 N (.i k n)=(true):=Rfl rfl
theorem V_cl_i (k:IntKind) (n:Int) (N:Nat):V.cl N (.i k n)=(true):=Rfl rfl
theorem Qzu  (N:Nat):V.cl N (.nil )=(true):=Rfl rfl
theorem Qtj (sz:Nat) (els:List (List V)):V.cells (.l sz els)=([.l sz els]):=Rfl rfl
theorem V_okA_l (sz:Nat) (els:List (List V)):V.okA (.l sz els)=(true):=Rfl rfl
theorem V_cl1_l (sz:Nat) (els:List (List V)) (N:Nat):V.cl1 N (.l sz els)=(true):=Rfl rfl
theorem V_cl_l (sz:Nat) (els:List (List V)) (N:Nat):V.cl N (.l sz els)=(true):=Rfl rfl
theorem Ql2 (id:Nat) (g:Nat) (off:Nat) (len:Nat):V.cells (.own id g off len)=([.own id g off len]):=Rfl rfl
theorem Qth (id:Nat) (g:Nat) (off:Nat) (len:Nat):V.okA (.own id g off len)=(true):=Rfl rfl
theorem Qzt (id:Nat) (g:Nat) (off:Nat) (len:Nat) (N:Nat):V.cl N (.own id g off len)=(decide (id<N)):=Rfl rfl
theorem V_cl_p (id:Nat) (g:Nat) (e:Nat) (j:Nat) (N:Nat):V.cl N (.p id g e j)=(decide (id<N)):=Rfl rfl
theorem V_cl_mp (id:Nat) (N:Nat):V.cl N (.mp id)=(decide (id<N)):=Rfl rfl
theorem V_cl_f (fn:FuncId) (caps:List V) (N:Nat):V.cl N (.f fn caps)=(caps.all (V.cl0 N)):=Rfl rfl
theorem Qtm (cs:List V):V.cells (.a cs)=(cs):=Rfl rfl
theorem V_okA_a (cs:List V):V.okA (.a cs)=(true):=Rfl rfl
theorem V_cl_a (cs:List V) (N:Nat):V.cl N (.a cs)=(cs.all (V.cl1 N)):=Rfl rfl
theorem Qti (vs:List V):V.cells (.t vs)=([.t vs]):=Rfl rfl
theorem V_okA_t (vs:List V):V.okA (.t vs)=(false):=Rfl rfl
theorem idx_t (vs:List V):idx (.t vs)=(none):=Rfl rfl
theorem Qnn (cs:List V):X0 h (.ip cs)=some cs:=Rfl rfl
theorem Qsz (id g e j:Nat):X0 h (.p id g e j)=(match h[id]? with
  | some (.arr g' _ els)=>if g=g' then (els[e]?).bind λcs=>if j<=cs.length then some (cs.drop j) else none else none
  | _=>none):=Rfl rfl
theorem Qm8 (cs:List V):Jm none cs=cs.head?:=Rfl rfl
theorem Qm7 (k:Nat) (cs:List V):Jm (some k) cs=if k<=cs.length then some (.a (cs.take k)) else none:=Rfl rfl
theorem elsOf_l (sz sz':Nat) (els:List (List V)):Zr sz h (.l sz' els)=if sz'=sz then some els else none:=Rfl rfl
theorem Qsp (sz id g off len:Nat):Zr sz h (.own id g off len)=(match h[id]? with
  | some (.arr g' sz' els)=>if g=g'/\sz'=sz/\off+len<=els.length then some ((els.drop off).take len) else none
  | _=>none):=Rfl rfl
theorem binV_i (op:BinOp) (k k':IntKind) (x y:Int):Qzg op (.i k x) (.i k' y)=(if op=.shl∨op=.shr then Qfj op k x y else if k=k' then Wb op k x y else none):=Rfl rfl
theorem Qtf (k:IntKind) (x y:Int):Wb .add k x y=(some (.i k (k.wrap (x+y)))):=Rfl rfl
theorem Qt4 (k:IntKind) (x y:Int):Wb .sub k x y=(some (.i k (k.wrap (x-y)))):=Rfl rfl
theorem Qt8 (k:IntKind) (x y:Int):Wb .mul k x y=(some (.i k (k.wrap (x*y)))):=Rfl rfl
theorem Qt6 (k:IntKind) (x y:Int):Wb .quo k x y=(if y=0 then none else some (.i k (k.wrap (x.tdiv y)))):=Rfl rfl
theorem Qt5 (k:IntKind) (x y:Int):Wb .rem k x y=(if y=0 then none else some (.i k (x.tmod y))):=Rfl rfl
theorem Qte (k:IntKind) (x y:Int):Wb .and k x y=(some (.i k (k.wrap ((BitVec.ofInt k.bits x &&& BitVec.ofInt k.bits y).toNat:Int)))):=Rfl rfl
theorem Qtd (k:IntKind) (x y:Int):Wb .eql k x y=(some (.b (x == y))):=Rfl rfl
theorem Qt7 (k:IntKind) (x y:Int):Wb .neq k x y=(some (.b (x != y))):=Rfl rfl
theorem Qt9 (k:IntKind) (x y:Int):Wb .lss k x y=(some (.b (x<y))):=Rfl rfl
theorem Qta (k:IntKind) (x y:Int):Wb .leq k x y=(some (.b (x<=y))):=Rfl rfl
theorem Qtb (k:IntKind) (x y:Int):Wb .gtr k x y=(some (.b (x > y))):=Rfl rfl
theorem Qtc (k:IntKind) (x y:Int):Wb .geq k x y=(some (.b (x≥y))):=Rfl rfl
theorem Qlw (k:IntKind) (x y:Int):Qfj .shr k x y=(if y<0 then none else some (.i k (x.fdiv (2^(min y.toNat k.bits))))):=Rfl rfl
theorem unV_not (x:Bool):unV .not (.b x)=some (.b (!x)):=Rfl rfl
theorem unV_neg (k:IntKind) (x:Int):unV .neg (.i k x)=some (.i k (k.wrap (0-x))):=Rfl rfl
theorem Q0 {z:Int} (h1:-9223372036854775808<=z) (h2:z<=9223372036854775807):IntKind.i64.wrap z=z:=by
 simp only[IntKind.wrap,IntKind.bits,IntKind.signed];simp;omega
end
end Go.Abs
