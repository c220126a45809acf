/- Part of the library on which the proof stands: an abstract machine, its values and its soundness against the model; or what functions of the program do to such values. -/
import Derived.Test.YtnaehggpjfdenaaGreatAbsN
set_option linter.unusedVariables false
set_option linter.unusedSimpArgs false
namespace Go.Abs
open Go.RowKit
/-! Regions that draw their order: the text's order serves all. -/
def Zw (q:Nat->Bool):Nat->Option Nat
 | 0=>none
 | n+1=>if q n then some n else Zw q n
theorem Yq {q q':Nat->Bool}:∀{n:Nat},(∀k,k<n->q k=q' k)->Zw q n=Zw q' n
 | 0,_=>rfl
 | n+1,h=>by
   simp only[Zw,h n (by omega)];rw[Yq (n:=n) (λk hk=>h k (by omega))]
theorem Qaq {q:Nat->Bool} {i:Nat}:∀{n:Nat},q i=true->i<n->(∀k,i<k->k<n->q k=false)->Zw q n=some i
 | 0,_,h,_=>by omega
 | n+1,h1,h2,h3=>by
   simp only[Zw];by_cases hn:i=n
   ·subst hn;simp[h1]
   ·rw[h3 n (by omega) (by omega)];simpa using Qaq (n:=n) h1 (by omega) (λk a b=>h3 k a (by omega))
theorem Jq {q:Nat->Bool} {j:Nat}:∀{n:Nat},j<=n->(∀k,j<=k->k<n->q k=false)->Zw q n=Zw q j
 | 0,h,_=>by have:j=0:=by omega
             subst this;rfl
 | n+1,h1,h2=>by
   by_cases hn:j=n+1
   ·subst hn;rfl
   ·simp only[Zw,h2 n (by omega) (by omega)];simpa using Jq (n:=n) (by omega) (λk a b=>h2 k a (by omega))
def Qal (o:Oper) (acc:List Nat):Nat :=
 o.after.toList.foldl (λs e=>if Region.binds .any e && decide (e.on<acc.length) then s ||| 2^e.on ||| acc.getD e.on 0 else s) 0
def Q16:List Oper->List Nat->List Nat
 | [],acc=>acc
 | o::l,acc=>Q16 l (acc++[Qal o acc])
theorem Qe8 {acc:List Nat} {i:Nat}:∀(es:List Edge) (s:Nat),(es.foldl (λs e=>if Region.binds .any e && decide (e.on<acc.length) then s ||| 2^e.on ||| acc.getD e.on 0 else s) s).testBit i=true ->
  s.testBit i=true∨∃e∈es,Region.binds .any e=true/\e.on<acc.length/\(i=e.on∨(acc.getD e.on 0).testBit i=true)
 | [],s,h=>.inl h
 | e::es,s,h=>by
   simp only[List.foldl_cons]at h;rcases Qe8 es _ h with h1 | ⟨e',h1,h2⟩
   ·split at h1
    ·rename_i hb;simp only[Bool.and_eq_true,decide_eq_true_eq]at hb;simp only[Nat.testBit_or,Bool.or_eq_true]at h1;rcases h1 with (h1 | h1) | h1
     ·exact .inl h1
     ·rw[Nat.testBit_two_pow]at h1
      exact .inr ⟨e,by simp,hb.1,hb.2,.inl (by simpa using h1:e.on=i).symm⟩
     ·exact .inr ⟨e,by simp,hb.1,hb.2,.inr h1⟩
    ·exact .inl h1
   ·exact .inr ⟨e',by simp[h1],h2⟩
def Qi4 (ops:List Oper) (acc:List Nat):Prop :=
 acc.length<=ops.length/\∀(j i:Nat),j<acc.length->(acc.getD j 0).testBit i=true ->
  ∃o,ops[j]?=some o/\∃e∈o.after.toList,Region.binds .any e=true/\(i=e.on∨(e.on<j/\(acc.getD e.on 0).testBit i=true))
theorem Qps:∀(l pre:List Oper) (acc:List Nat),acc.length=pre.length->Qi4 (pre++l) acc->Qi4 (pre++l) (Q16 l acc)
 | [],pre,acc,_,h=>h
 | o::l,pre,acc,hl,h=>by
   have:=Qps l (pre++[o]) (acc++[Qal o acc]) (by simp[hl]);simp only[j6,List.singleton_append]at this;refine this ⟨by simp[hl],λj i hj hb=>?_⟩;have hgetlt:∀k,k<acc.length->(acc++[Qal o acc]).getD k 0=acc.getD k 0:=by
    intro k hk;simp[List.getD_eq_getElem?_getD,qd hk]
   by_cases hjl:j<acc.length
   ·rw[hgetlt j hjl]at hb
    obtain⟨o',h1,e,h2,h3,h4⟩:=h.2 j i hjl hb;refine⟨o',h1,e,h2,h3,?_⟩;rcases h4 with h4 | ⟨h4,h5⟩
    ·exact .inl h4
    ·exact .inr ⟨h4,by rw[hgetlt _ (by omega)];exact h5⟩
   ·have hje:j=acc.length:=by simp at hj;omega
    subst hje;have hlast:(acc++[Qal o acc]).getD acc.length 0=Qal o acc:=by simp[List.getD_eq_getElem?_getD]
    rw[hlast]at hb
    refine⟨o,by rw[hl];simp,?_⟩;rcases Qe8 _ _ hb with h1 | ⟨e,h1,h2,h3,h4⟩
    ·simp at h1
    ·refine⟨e,h1,h2,?_⟩;rcases h4 with h4 | h4
     ·exact .inl h4
     ·exact .inr ⟨h3,by rw[hgetlt _ h3];exact h4⟩
theorem Q5d {ops:List Oper} {acc:List Nat} (hm:Qi4 ops acc) {S:Nat->Prop} (hS:∀(j:Nat) o,ops[j]?=some o->S j->∀e∈o.after.toList,Region.binds .any e=true->S e.on) :
  ∀(j:Nat),(∀o,ops[j]?=some o->∀e∈o.after.toList,Region.binds .any e=true->S e.on)->∀i,j<acc.length->(acc.getD j 0).testBit i=true->S i:=by
 intro j
 induction j using Nat.strongRecOn with
 | _ j ih =>
   intro hj i hjl hb;obtain⟨o,h1,e,h2,h3,h4⟩:=hm.2 j i hjl hb;have h5:=hj o h1 e h2 h3;rcases h4 with h4 | ⟨h4,h6⟩
   ·rw[h4];exact h5
   ·exact ih e.on h4 (λo' ho'=>hS e.on o' ho' h5) i (by omega) h6
def Q2s (a b:Ins):Bool :=
 (match a.d with | some t=>b.uses.contains t | none=>false) || (match a.d with | some t=>b.d == some t | none=>false) || (match b.d with | some t=>a.uses.contains t | none=>false)
def Qel (a b:Ins):Bool:=(a.i.cls == 2 && decide (1<=b.i.cls)) || (decide (1<=a.i.cls) && b.i.cls == 2)
def Qg2 (ops:List Oper) (xs:List Ins):Bool :=
 let B:=Q16 ops []
 ((List.range ops.length).all λj=>match ops[j]? with
   | some o=>o.after.toList.all λe=>!Region.binds .any e || decide (e.on<j)
   | none=>true) &&
 ((List.range xs.length).all λj=>(List.range j).all λi=>match xs[i]?,xs[j]? with
   | some a,some b=>!Q2s a b || (B.getD j 0).testBit i
   | _,_=>true) &&
 xs.all λx=>x.i.opnds.all A.cok
def psOf (ops:List Oper) (xs:List Ins):List (List Nat) :=
 let B:=Q16 ops []
 let ps:=(List.range xs.length).map λj=>(List.range j).filter λi=>match xs[i]?,xs[j]? with
  | some a,some b=>Qel a b && !(B.getD j 0).testBit i
  | _,_=>false
 if ps.all (·.isEmpty) then [] else ps
theorem Qkw:∀(l:List Oper) (acc:List Nat),(Q16 l acc).length=acc.length+l.length
 | [],acc=>by simp[Q16]
 | o::l,acc=>by rw[Q16,Qkw l];simp;omega
theorem Qiu {ev ev':A->V} {i:I} (h:∀a∈i.opnds,ev a=ev' a) (hp:List O):Q3 i ev hp=Q3 i ev' hp:=by
 have hl:∀xs:List A,(∀a∈xs,ev a=ev' a)->xs.map ev=xs.map ev':=λxs hx=>jv hx
 have ho:∀o:Option A,(∀a∈o.toList,ev a=ev' a)->o.map ev=o.map ev':=λo hx=>by cases o<;>simp_all
 cases i
 case mx xs=>simp only[Q3,hl xs h]
 case mn xs=>simp only[Q3,hl xs h]
 case mkf f xs=>simp only[Q3,hl xs h]
 case call=>rfl
 case callv=>rfl
 case build z ps =>
  have:(ps.map λ(p:Nat × Nat × A)=>(p.1,p.2.1,ev p.2.2))=ps.map λ(p:Nat × Nat × A)=>(p.1,p.2.1,ev' p.2.2):=by
   apply jv;intro p hp;rw[h p.2.2 (qo.2 ⟨p,hp,rfl⟩)]
  exact congrArg (λq=>(Q06 z q).map λcs=>((.a cs:V),hp)) this
 case bsi sz len z ps =>
  have:(ps.map λ(p:Nat × A)=>(p.1,ev p.2))=ps.map λ(p:Nat × A)=>(p.1,ev' p.2):=by
   apply jv;intro p hp;rw[h p.2 (qo.2 ⟨p,hp,rfl⟩)]
  exact congrArg (λq=>(Jt sz (List.replicate len z) q).bind λels=>if els.all (·.all V.isD) then some ((.l sz els:V),hp) else none) this
 case bso sz len z ps =>
  have:(ps.map λ(p:Nat × A)=>(p.1,ev p.2))=ps.map λ(p:Nat × A)=>(p.1,ev' p.2):=by
   apply jv;intro p hp;rw[h p.2 (qo.2 ⟨p,hp,rfl⟩)]
  exact congrArg (λq=>(Jt sz (List.replicate len z) q).map λels=>if len=0 then ((.nil:V),hp) else (.own hp.length 1 0 len,hp++[.arr 1 sz els])) this
 case slc sz x lo hi =>
  simp only[I.opnds,List.mem_cons,qg]at h;simp only[Q3,h x (.inl rfl),ho lo (λa ha=>h a (.inr (.inl ha))),ho hi (λa ha=>h a (.inr (.inr ha)))]
 case mkm x =>
  simp only[I.opnds]at h;simp only[Q3,ho x h]
 case slcs x lo hi =>
  simp only[I.opnds,List.mem_cons,qg]at h;simp only[Q3,h x (.inl rfl),ho lo (λa ha=>h a (.inr (.inl ha))),ho hi (λa ha=>h a (.inr (.inr ha)))]
 case slc3 sz x lo hi z =>
  simp only[I.opnds,List.mem_cons,qg]at h;simp only[Q3,h x (.inl rfl),h z (.inr (.inl rfl)),ho lo (λa ha=>h a (.inr (.inr (.inl ha)))),ho hi (λa ha=>h a (.inr (.inr (.inr ha))))]
 all_goals
  simp only[I.opnds,List.mem_cons,List.not_mem_nil,or_false,forall_eq_or_imp,forall_eq]at h;simp only[Q3]
 all_goals try simp only[h]
theorem Qy6 {ev:A->V} {i:I} {id:Nat} (h:id∈(i.foot ev).1):∃a∈i.opnds,id∈(ev a).ids0:=by
 cases i<;>simp only[I.foot,List.not_mem_nil,qg]at h
 case copy n x y =>
  rcases h with h | h
  ·exact⟨x,by simp[I.opnds],h⟩
  ·exact⟨y,by simp[I.opnds],h⟩
 case app n b x y =>
  rcases h with h | h
  ·exact⟨x,by simp[I.opnds],h⟩
  ·exact⟨y,by simp[I.opnds],h⟩
 all_goals exact⟨_,by simp[I.opnds],h⟩
theorem Qy1 {ev:A->V} {i:I} {id:Nat} (h:id∈(i.foot ev).2):id∈(i.foot ev).1:=by
 cases i<;>simp only[I.foot,List.not_mem_nil,qg]at h ⊢
 all_goals first | exact h | exact .inl h
theorem foot_cls {ev:A->V} {i:I}:(∀id,id∈(i.foot ev).1->1<=i.cls)/\(∀id,id∈(i.foot ev).2->i.cls=2):=by
 cases i<;>simp[I.foot,I.cls]
theorem Q5l {h h2:List O} {v:V} {cs:List V} (hc:X0 h v=some cs):(∀id∈v.ids0,id<h.length)/\((∀id∈v.ids0,h2[id]?=h[id]?)->X0 h2 v=some cs):=by
 cases v<;>simp only[X0]at hc ⊢<;>try (simp at hc;done)
 case ip=>exact⟨by simp[V.ids0],λ_=>hc⟩
 case p id g e j =>
  simp only[V.ids0,qn,forall_eq];refine⟨?_,λha=>by rw[ha];exact hc⟩;cases hh:h[id]? with
  | none=>rw[hh]at hc;simp at hc
  | some o=>exact(q8.1 hh).1
theorem U8 {h h2:List O} {sz:Nat} {v:V} {els:List (List V)} (hc:Zr sz h v=some els):(∀id∈v.ids0,id<h.length)/\((∀id∈v.ids0,h2[id]?=h[id]?)->Zr sz h2 v=some els):=by
 cases v<;>simp only[Zr]at hc ⊢<;>try (simp at hc;done)
 case own id g off len =>
  simp only[V.ids0,qn,forall_eq];refine⟨?_,λha=>by rw[ha];exact hc⟩;cases hh:h[id]? with
  | none=>rw[hh]at hc;simp at hc
  | some o=>exact(q8.1 hh).1
 all_goals exact⟨by simp[V.ids0],λ_=>hc⟩
theorem Ut {h h2:List O} {v:V} {es:List (V × V)} (hc:Zm h v=some es):(∀id∈v.ids0,id<h.length)/\((∀id∈v.ids0,h2[id]?=h[id]?)->Zm h2 v=some es):=by
 cases v<;>simp only[Zm]at hc ⊢<;>try (simp at hc;done)
 case mp id =>
  simp only[V.ids0,qn,forall_eq];refine⟨?_,λha=>by rw[ha];exact hc⟩;cases hh:h[id]? with
  | none=>rw[hh]at hc;simp at hc
  | some o=>exact(q8.1 hh).1
 all_goals exact⟨by simp[V.ids0],λ_=>hc⟩
theorem Q8c (h2:List O) (W:List Nat) (h':List O):(Q5p h2 W h').length=h2.length:=by simp[Q5p]
theorem Q8d {h2:List O} {W:List Nat} {h':List O} {id:Nat} (hlt:id<h2.length):(Q5p h2 W h')[id]?=some (if id∈W then (h'[id]?).getD .dead else (h2[id]?).getD .dead):=by
 simp[Q5p,hlt]
theorem Ef (h2 h':List O):Q5p h2 [] h'=h2:=by
 apply qy;intro id;by_cases hlt:id<h2.length
 ·rw[Q8d hlt];simp[hlt]
 ·rw[qk (by rw[Q8c];omega),qk (by omega)]
theorem Qip {h h2:List O} {id:Nat} {o:O} (h1:id<h.length) (h3:h.length<=h2.length):Q5p h2 [id] (h.set id o)=h2.set id o:=by
 apply qy;intro i;by_cases hlt:i<h2.length
 ·rw[Q8d hlt];by_cases hi:i=id
  ·subst hi;simp[h1,hlt]
  ·rw[show (h2.set id o)[i]?=h2[i]? from qt (λh=>hi h.symm)];simp[hi,hlt]
 ·rw[qk (by rw[Q8c];omega),qk (by simp;omega)]
theorem Qdt {h:List O} {id i:Nat} {o:O} (hi:i∉[id]):(h.set id o)[i]?=h[i]?:=by
 rw[qt];intro hh;exact hi (by simp[hh])
theorem Qz4 {n L s:Nat} {v:V} (h:v.cl0 n=true) (hn:n<=L):v.mv0 L s=v:=by
 cases v<;>simp only[V.cl0,decide_eq_true_eq]at h<;>simp only[V.mv0]
 all_goals rw[Qgm (by omega)]
theorem Qnk {n L s:Nat} {v:V} (h:v.cl1 n=true) (hn:n<=L):v.mv1 L s=v:=by
 cases v
 case f fn caps =>
  simp only[V.cl1,qj]at h;simp only[V.mv1];congr 1;exact(jv λx hx=>Qz4 (h x hx) hn).trans (List.map_id _)
 all_goals
  simp only[V.cl1]at h;exact Qz4 (L:=L) (s:=s) h hn
theorem Qpo {n L s:Nat} {v:V} (h:v.cl n=true) (hn:n<=L):v.mv2 L s=v:=by
 cases v
 case a cs =>
  simp only[V.cl,qj]at h;simp only[V.mv2];congr 1;exact(jv λx hx=>Qnk (h x hx) hn).trans (List.map_id _)
 case t=>simp[V.cl]at h
 all_goals
  simp only[V.cl]at h;exact Qnk (L:=L) (s:=s) h hn
theorem cl_mv1 {n L s:Nat} {v:V} (h:v.cl n=true) (hn:n<=L):v.mv1 L s=v:=by
 cases v
 case a cs=>rfl
 case t=>rfl
 all_goals
  simp only[V.cl]at h;exact Qnk (L:=L) (s:=s) h hn
theorem Ocl_mv {n L s:Nat} {o:O} (h:o.cl n) (hn:n<=L):o.mv L s=o:=by
 cases o with
 | dead=>rfl
 | it mid since seen =>
   cases mid with
   | none=>rfl
   | some i=>simp[O.mv,Qgm (show i<L from Nat.lt_of_lt_of_le (h i rfl) hn)]
 | mp es =>
   simp only[O.mv];congr 1;refine (jv λe he=>?_).trans (List.map_id _);obtain⟨h1,h2⟩:=h e he;rw[Qpo h1 hn,Qpo h2 hn];rfl
 | md es =>
   simp only[O.mv];congr 1;refine (jv λe he=>?_).trans (List.map_id _);obtain⟨h1,h2⟩:=h e he;rw[Qpo h1 hn,Qpo h2 hn];rfl
 | arr g sz els =>
   simp only[O.mv];congr 1;refine (jv λel hel=>?_).trans (List.map_id _);exact(jv λx hx=>cl_mv1 (h el hel x hx) hn).trans (List.map_id _)
def I.isSp:I->Bool
 | .call _ _ | .callv _ _ | .mnx _ | .men _=>true
 | _=>false
def SLoc (i:I) (ev:A->V) (h:List O) (r:V) (h':List O):Prop :=
 h.length<=h'.length/\(∀id∈(i.foot ev).1,id<h.length)/\(∀id,id<h.length->id∉(i.foot ev).2->h'[id]?=h[id]?) /\
 ∀h2,h.length<=h2.length->(∀id∈(i.foot ev).1,h2[id]?=h[id]?)->∃r2 hk,Q3 i ev h2=some (r2,Q5p h2 (i.foot ev).2 h'++hk) /\
  ((hk=[]/\r2=r/\h'.length=h.length)∨((i.foot ev).2=[]/\r2.mv h2.length h.length=r/\hk.map (O.mv h2.length h.length)=h'.drop h.length))
theorem SLoc.pure {i:I} {ev:A->V} {h:List O} {r:V} (hf:i.foot ev=([],[])) (hs:∀h2,Q3 i ev h2=some (r,h2)):SLoc i ev h r h:=by
 refine⟨Nat.le_refl _,by simp[hf],λ_ _ _=>rfl,λh2 hle ha=>⟨r,[],?_,.inl ⟨rfl,rfl,rfl⟩⟩⟩;rw[hf,Ef,List.append_nil];exact hs h2
theorem SLoc.read {i:I} {ev:A->V} {h:List O} {r:V} {T:List Nat} (hf:i.foot ev=(T,[])) (hT:∀id∈T,id<h.length) (hs:∀h2,(∀id∈T,h2[id]?=h[id]?)->Q3 i ev h2=some (r,h2)):SLoc i ev h r h:=by
 refine⟨Nat.le_refl _,by simpa[hf]using hT,λ_ _ _=>rfl,λh2 hle ha=>⟨r,[],?_,.inl ⟨rfl,rfl,rfl⟩⟩⟩;rw[hf]at ha ⊢
 rw[Ef,List.append_nil];exact hs h2 ha
theorem SLoc.write {i:I} {ev:A->V} {h:List O} {r:V} {T:List Nat} {id:Nat} {o:O} (hf:i.foot ev=(T,[id])) (hid:id∈T) (hT:∀id∈T,id<h.length)
  (hs:∀h2,(∀id∈T,h2[id]?=h[id]?)->Q3 i ev h2=some (r,h2.set id o)):SLoc i ev h r (h.set id o):=by
 refine⟨by simp,by simpa[hf]using hT,λk _ hk=>Qdt (by simpa[hf]using hk),λh2 hle ha=>⟨r,[],?_,.inl ⟨rfl,rfl,by simp⟩⟩⟩;rw[hf]at ha ⊢
 rw[Qip (hT id hid) hle,List.append_nil];exact hs h2 ha
theorem SLoc.make {i:I} {ev:A->V} {h:List O} {r:Nat->V} {o:O} {T:List Nat} (hf:i.foot ev=(T,[])) (hT:∀id∈T,id<h.length) (hr:∀L s,(r L).mv L s=r s) (ho:o.cl h.length)
  (hs:∀h2,(∀id∈T,h2[id]?=h[id]?)->Q3 i ev h2=some (r h2.length,h2++[o])):SLoc i ev h (r h.length) (h++[o]):=by
 refine⟨by simp,by simpa[hf]using hT,λk hk _=>qd hk,λh2 hle ha=>⟨r h2.length,[o],?_,.inr ⟨by rw[hf],hr _ _,?_⟩⟩⟩
 ·rw[hf]at ha ⊢
  rw[Ef];exact hs h2 ha
 ·simp[Ocl_mv ho hle]
theorem Qg1 (L s g off len:Nat):(V.own L g off len).mv L s=.own s g off len:=by simp[V.mv,V.mv2,V.mv1,V.mv0,mvN]
theorem p_mv (L s g e j:Nat):(V.p L g e j).mv L s=.p s g e j:=by simp[V.mv,V.mv2,V.mv1,V.mv0,mvN]
theorem mp_mv (L s:Nat):(V.mp L).mv L s=.mp s:=by simp[V.mv,V.mv2,V.mv1,V.mv0,mvN]
theorem Yy {i:I} {h:List O} {o:O} (hn:i.news=true) (hk:Z2 i h (h++[o])):o.cl h.length:=by
 unfold Z2 at hk;rw[hn]at hk
 exact hk o (by simp)
theorem Qit {i:I} {ev:A->V} {h h':List O} {r:V} (hc:i.cls=0) (hn:i.news=false) (hs:Q3 i ev h=some (r,h')):h'=h:=by
 cases i<;>simp only[I.cls,reduceCtorEq,Nat.reduceEqDiff]at hc<;>simp only[I.news,reduceCtorEq]at hn<;>simp only[Q3]at hs
 all_goals (repeat' split at hs)
 all_goals first
  | (simp at hs;done)
  | (simp only[Option.some.injEq,Prod.mk.injEq]at hs;exact hs.2.symm)
  | (simp only[qa,qr,ja,Option.some.injEq,Prod.mk.injEq]at hs;obtain⟨_,_,_,hs⟩:=hs;first | exact hs.symm | exact hs.2.symm)
theorem Qll {i:I} {ev:A->V} {h h' h2:List O} {r:V} (hc:i.cls=0) (hn:i.news=false) (hs:Q3 i ev h=some (r,h')):Q3 i ev h2=some (r,h2):=by
 cases i<;>simp only[I.cls,reduceCtorEq,Nat.reduceEqDiff]at hc<;>simp only[I.news,reduceCtorEq]at hn<;>simp only[Q3]at hs ⊢
 case bsi sz len z ps =>
  obtain⟨q,h3,h4⟩:=qr.1 hs;refine qr.2 ⟨q,h3,?_⟩;split at h4
  ·rename_i hq;rw[if_pos hq];simp only[Option.some.injEq,Prod.mk.injEq]at h4 ⊢;exact⟨h4.1,trivial⟩
  ·simp at h4
 all_goals (repeat' split at hs)
 all_goals first
  | (simp at hs;done)
  | (simp only[Option.some.injEq,Prod.mk.injEq]at hs;simp_all;done)
  | (simp only[qa,qr,ja,Option.some.injEq,Prod.mk.injEq]at hs ⊢
     obtain⟨q,h3,h4,hs⟩:=hs
     first
     | exact⟨q,h3,h4,rfl⟩
     | exact⟨q,h3,h4,hs.1,rfl⟩
     | (simp_all;done))
  | (simp_all;done)
theorem Qw {h:List O} {id:Nat} {o:O} (ho:h[id]?=some o):id<h.length:=(q8.1 ho).1
theorem Qqg {i:I} {ev:A->V} {h h':List O} {r:V} (hc:i.isSp=false) (hs:Q3 i ev h=some (r,h')) (hn:Z2 i h h'):SLoc i ev h r h':=by
 have hs0:=hs;cases i
 case call=>simp[I.isSp]at hc
 case callv=>simp[I.isSp]at hc
 case mnx=>simp[I.isSp]at hc
 case men=>simp[I.isSp]at hc
 case alloc zero =>
  simp only[Q3,Option.some.injEq,Prod.mk.injEq]at hs;obtain⟨rfl,rfl⟩:=hs;exact SLoc.make (r:=λL=>.p L 1 0 0) rfl (by simp) (λL s=>p_mv L s 1 0 0) (Yy rfl hn) λh2 _=>rfl
 case mkm x =>
  have key:r=.mp h.length/\h'=h++[.mp []]/\∀h2,Q3 (.mkm x) ev h2=some (.mp h2.length,h2++[.mp []]):=by
   simp only[Q3]at hs ⊢;generalize x.map ev=X at *
   split at hs
   ·simp only[Option.some.injEq,Prod.mk.injEq]at hs;exact⟨hs.1.symm,hs.2.symm,λ_=>rfl⟩
   ·simp only[Option.some.injEq,Prod.mk.injEq]at hs;exact⟨hs.1.symm,hs.2.symm,λ_=>rfl⟩
   ·simp at hs
  obtain⟨rfl,rfl,h3⟩:=key;exact SLoc.make (r:=λL=>.mp L) rfl (by simp) (λL s=>mp_mv L s) (Yy rfl hn) λh2 _=>h3 h2
 case sla sz n x =>
  simp only[Q3]at hs;split at hs
  case h_2=>simp at hs
  rename_i id g hx;split at hs
  case h_2=>simp at hs
  rename_i g' sz' cells hes;split at hs
  case isFalse=>simp at hs
  rename_i hle;simp only[Option.some.injEq,Prod.mk.injEq]at hs;obtain⟨rfl,rfl⟩:=hs;refine SLoc.write (T:=[id]) (by simp[I.foot,hx,V.ids0]) (by simp) (by simpa using Qw hes) λh2 ha=>?_
  simp only[Q3,hx,ha id (by simp),hes,if_pos hle]
 case apz sz bytes zero s n =>
  simp only[Q3]at hs;split at hs
  case h_2=>simp at hs
  rename_i id g off len kk k hx hk;split at hs
  case h_2=>simp at hs
  rename_i g' sz' els hes;split at hs
  case isFalse=>simp at hs
  rename_i hle;simp only[Option.some.injEq,Prod.mk.injEq]at hs;obtain⟨rfl,rfl⟩:=hs;refine SLoc.write (T:=[id]) (by simp[I.foot,hx,V.ids0]) (by simp) (by simpa using Qw hes) λh2 ha=>?_
  simp only[Q3,hx,hk,ha id (by simp),hes,if_pos hle]
 case box x =>
  have key:r=.p h.length 1 0 0/\h'=h++[.arr 1 (ev x).cells.length [(ev x).cells]]/\∀h2,Q3 (.box x) ev h2=some (.p h2.length 1 0 0,h2++[.arr 1 (ev x).cells.length [(ev x).cells]]):=by
   simp only[Q3]at hs ⊢;generalize ev x=X at *
   cases X<;>simp at hs<;>(obtain⟨rfl,rfl⟩:=hs;exact⟨rfl,rfl,λ_=>rfl⟩)
  obtain⟨rfl,rfl,h3⟩:=key;exact SLoc.make (r:=λL=>.p L 1 0 0) rfl (by simp) (λL s=>p_mv L s 1 0 0) (Yy rfl hn) λh2 _=>h3 h2
 case s2b x =>
  simp only[Q3]at hs;split at hs
  case h_2=>simp at hs
  rename_i l hl;split at hs
  case isFalse=>simp at hs
  rename_i hle;simp only[Option.some.injEq,Prod.mk.injEq]at hs;obtain⟨rfl,rfl⟩:=hs;exact SLoc.make (r:=λL=>.own L 1 0 l.length) rfl (by simp) (λL s=>Qg1 L s 1 0 _) (Yy rfl hn) λh2 _=>by simp only[Q3,hl,if_pos hle]
 case bso sz len zero parts =>
  simp only[Q3,qa]at hs;obtain⟨els,h1,hs⟩:=hs;split at hs
  ·rename_i h0;simp only[Prod.mk.injEq]at hs;obtain⟨rfl,rfl⟩:=hs;exact SLoc.pure rfl λh2=>by
    simp only[Q3];exact qa.2 ⟨els,h1,by rw[if_pos h0]⟩
  ·rename_i h0;simp only[Prod.mk.injEq]at hs;obtain⟨rfl,rfl⟩:=hs;exact SLoc.make (r:=λL=>.own L 1 0 len) rfl (by simp) (λL s=>Qg1 L s 1 0 _) (Yy rfl hn) λh2 _=>by
    simp only[Q3];exact qa.2 ⟨els,h1,by rw[if_neg h0]⟩
 case mks sz bytes zero n =>
  simp only[Q3]at hs;split at hs
  case h_2=>simp at hs
  rename_i k hk;split at hs
  case isFalse=>simp at hs
  rename_i hle;simp only[Option.some.injEq,Prod.mk.injEq]at hs;obtain⟨rfl,rfl⟩:=hs;exact SLoc.make (r:=λL=>.own L 1 0 k.toNat) rfl (by simp) (λL s=>Qg1 L s 1 0 _) (Yy rfl hn) λh2 _=>by simp only[Q3,hk,if_pos hle]
 case mrng x =>
  simp only[Q3]at hs;split at hs
  ·rename_i id hx;split at hs
   case h_2=>simp at hs
   rename_i es hes;simp only[Option.some.injEq,Prod.mk.injEq]at hs;obtain⟨rfl,rfl⟩:=hs;refine SLoc.make (r:=λL=>.p L 1 0 0) (T:=[id]) (by simp[I.foot,hx,V.ids0]) (by simpa using Qw hes) (λL s=>p_mv L s 1 0 0) (Yy rfl hn) λh2 ha=>?_
   simp only[Q3,hx,ha id (by simp),hes]
  ·rename_i hx;simp only[Option.some.injEq,Prod.mk.injEq]at hs;obtain⟨rfl,rfl⟩:=hs;refine SLoc.make (r:=λL=>.p L 1 0 0) (T:=[]) (by simp[I.foot,hx,V.ids0]) (by simp) (λL s=>p_mv L s 1 0 0) (Yy rfl hn) λh2 ha=>?_
   simp only[Q3,hx]
  ·simp at hs
 case app sz bytes s x =>
  simp only[Q3]at hs;split at hs
  case h_2=>simp at hs
  rename_i news hnews;have hloc:=λh2=>U8 (h2:=h2) hnews
  split at hs
  ·rename_i hsv;split at hs
   case isFalse=>simp at hs
   rename_i hle;simp only[Option.some.injEq,Prod.mk.injEq]at hs;obtain⟨rfl,rfl⟩:=hs;refine SLoc.make (r:=λL=>.own L 1 0 news.length) (T:=(ev x).ids0) (by simp[I.foot,hsv,V.ids0]) (hloc h).1 (λL s=>Qg1 L s 1 0 _) (Yy rfl hn) λh2 ha=>?_
   simp only[Q3,hsv,(hloc h2).2 ha,if_pos hle]
  ·rename_i id g off len hsv;split at hs
   case h_2=>simp at hs
   rename_i g' sz' els hes;split at hs
   case isFalse=>simp at hs
   rename_i hle;simp only[Option.some.injEq,Prod.mk.injEq]at hs;obtain⟨rfl,rfl⟩:=hs;refine SLoc.write (T:=id::(ev x).ids0) (by simp[I.foot,hsv,V.ids0]) (by simp) (λi hi=>?_) λh2 ha=>?_
   ·rcases List.mem_cons.1 hi with rfl | hi
    ·exact Qw hes
    ·exact(hloc h).1 i hi
   ·simp only[Q3,hsv,(hloc h2).2 (λi hi=>ha i (by simp[hi])),ha id (by simp),hes,if_pos hle]
  ·simp at hs
 case st n x y =>
  simp only[Q3]at hs;split at hs
  case h_2=>simp at hs
  rename_i id g e j hx;split at hs
  case h_2=>simp at hs
  rename_i g' sz els hes;split at hs
  case h_2=>simp at hs
  rename_i cs hcs;split at hs
  case isFalse=>simp at hs
  rename_i hle;simp only[Option.some.injEq,Prod.mk.injEq]at hs;obtain⟨rfl,rfl⟩:=hs;refine SLoc.write (T:=[id]) (by simp[I.foot,hx,V.ids0]) (by simp) (by simpa using Qw hes) λh2 ha=>?_
  simp only[Q3,hx,ha id (by simp),hes,hcs,if_pos hle]
 case copy sz x y =>
  have fin:∀src:List (List V),(∀id∈(ev y).ids0,id<h.length)->(∀h2:List O,(∀id∈(ev y).ids0,h2[id]?=h[id]?)->∀id g off len,ev x=.own id g off len->Q3 (.copy sz x y) ev h2=match h2[id]? with
     | some (.arr g' sz' els)=>if g=g'/\sz'=sz/\off+len<=els.length then some (.i .i64 (min src.length len:Nat),h2.set id (.arr g' sz (els.take off++src.take len++els.drop (off+min src.length len)))) else none
     | _=>none)->(∃id g off len,ev x=.own id g off len)->SLoc (.copy sz x y) ev h r h':=by
   rintro src hq1 hq2 ⟨id,g,off,len,hx⟩;rw[hq2 h (λ_ _=>rfl) id g off len hx]at hs0
   split at hs0
   case h_2=>simp at hs0
   rename_i g' sz' els hes;split at hs0
   case isFalse=>simp at hs0
   rename_i hle;simp only[Option.some.injEq,Prod.mk.injEq]at hs0;obtain⟨rfl,rfl⟩:=hs0;refine SLoc.write (T:=id::(ev y).ids0) (by simp[I.foot,hx,V.ids0]) (by simp) (λi hi=>?_) λh2 ha=>?_
   ·rcases List.mem_cons.1 hi with rfl | hi
    ·exact Qw hes
    ·exact hq1 i hi
   ·rw[hq2 h2 (λi hi=>ha i (by simp[hi])) id g off len hx];simp only[ha id (by simp),hes,if_pos hle]
  cases hY:ev y
  case s l =>
   by_cases h1:sz=1
   ·refine fin (l.map Yv) (by simp[hY,V.ids0]) (λh2 _ id g off len hx=>by simp only[Q3,hx,hY,if_pos h1];rfl) ?_;simp only[Q3,hY,if_pos h1]at hs;split at hs
    ·rename_i id g off len src hx _;exact⟨id,g,off,len,hx⟩
    ·simp at hs
   ·simp only[Q3,hY,if_neg h1]at hs;split at hs
    ·rename_i heq;simp at heq
    ·simp at hs
  all_goals
   simp only[Q3,hY]at hs;split at hs
   case h_2=>simp at hs
   rename_i id g off len src hx hqs;rw[<- hY]at hqs
   refine fin src (U8 (h2:=h) hqs).1 (λh2 ha id' g' off' len' hx'=>?_) ⟨id,g,off,len,hx⟩;have h3:=(U8 (h2:=h2) hqs).2 ha;rw[hY]at h3
   simp only[Q3,hx',hY,h3]
   rfl
 case mup ks m k v =>
  simp only[Q3]at hs;split at hs
  case h_2=>simp at hs
  rename_i id hx;split at hs
  ·rename_i es hes;split at hs
   case isFalse=>simp at hs
   rename_i hnt;split at hs
   case h_3=>simp at hs
   all_goals
    rename_i hf;simp only[Option.some.injEq,Prod.mk.injEq]at hs;obtain⟨rfl,rfl⟩:=hs;refine SLoc.write (T:=[id]) (by simp[I.foot,hx,V.ids0]) (by simp) (by simpa using Qw hes) λh2 ha=>?_
    simp only[Q3,hx,ha id (by simp),hes,if_pos hnt,hf]
  ·rename_i es hes;split at hs
   case isFalse=>simp at hs
   rename_i hnt;split at hs
   case h_2=>simp at hs
   rename_i hf;simp only[Option.some.injEq,Prod.mk.injEq]at hs;obtain⟨rfl,rfl⟩:=hs;refine SLoc.write (T:=[id]) (by simp[I.foot,hx,V.ids0]) (by simp) (by simpa using Qw hes) λh2 ha=>?_
   simp only[Q3,hx,ha id (by simp),hes,if_pos hnt,hf]
  ·simp at hs
 case mdel ks m k =>
  simp only[Q3]at hs;split at hs
  case h_2=>simp at hs
  rename_i id hx;split at hs
  case h_2=>simp at hs
  rename_i es hes;split at hs
  case h_2=>simp at hs
  rename_i hf;simp only[Option.some.injEq,Prod.mk.injEq]at hs;obtain⟨rfl,rfl⟩:=hs;have hl:=Ut (h2:=h) hes;refine SLoc.write (T:=[id]) (by simp[I.foot,hx,V.ids0]) (by simp) (by simpa[V.ids0]using hl.1) λh2 ha=>?_
  simp only[Q3,hx,(Ut hes).2 (by simpa[V.ids0]using ha),hf]
 case ment ks z m k =>
  simp only[Q3]at hs;split at hs
  case h_2=>simp at hs
  rename_i id hx;split at hs
  case h_2=>simp at hs
  rename_i es hes;split at hs
  case h_3=>simp at hs
  all_goals
   rename_i hf;simp only[Option.some.injEq,Prod.mk.injEq]at hs;obtain⟨rfl,rfl⟩:=hs;refine SLoc.write (T:=[id]) (by simp[I.foot,hx,V.ids0]) (by simp) (by simpa using Qw hes) λh2 ha=>?_
   simp only[Q3,hx,ha id (by simp),hes,hf]
 case est m s v =>
  simp only[Q3]at hs;split at hs
  case h_2=>simp at hs
  rename_i id k n hx hsv;split at hs
  case h_2=>simp at hs
  rename_i es hes;split at hs
  case isFalse=>simp at hs
  rename_i h0;split at hs
  case h_2=>simp at hs
  rename_i kk vv hk;split at hs
  case isFalse=>simp at hs
  rename_i hnt;simp only[Option.some.injEq,Prod.mk.injEq]at hs;obtain⟨rfl,rfl⟩:=hs;refine SLoc.write (T:=[id]) (by simp[I.foot,hx,V.ids0]) (by simp) (by simpa using Qw hes) λh2 ha=>?_
  simp only[Q3,hx,hsv,ha id (by simp),hes,if_pos h0,hk,if_pos hnt]
 case ld n x =>
  simp only[Q3,qa,qr,Prod.mk.injEq]at hs;obtain⟨v,⟨cs,h1,h2⟩,rfl,rfl⟩:=hs;refine SLoc.read rfl (Q5l (h2:=h) h1).1 λh3 ha=>?_
  simp only[Q3,qa,qr,Prod.mk.injEq];exact⟨v,⟨cs,(Q5l h1).2 ha,h2⟩,rfl,trivial⟩
 case b2s x =>
  simp only[Q3,qa,qr,Prod.mk.injEq]at hs;obtain⟨v,⟨cs,h1,h2⟩,rfl,rfl⟩:=hs;refine SLoc.read rfl (U8 (h2:=h) h1).1 λh3 ha=>?_
  simp only[Q3,qa,qr,Prod.mk.injEq];exact⟨v,⟨cs,(U8 h1).2 ha,h2⟩,rfl,trivial⟩
 case lk ks zero ok m k =>
  simp only[Q3]at hs;split at hs
  case h_2=>simp at hs
  rename_i es hes;split at hs
  case h_3=>simp at hs
  all_goals
   rename_i hf;simp only[Option.some.injEq,Prod.mk.injEq]at hs;obtain⟨rfl,rfl⟩:=hs;refine SLoc.read rfl (Ut (h2:=h) hes).1 λh3 ha=>?_
   simp only[Q3,(Ut hes).2 ha,hf]
 case fa off x =>
  simp only[Q3]at hs;split at hs
  ·rename_i id g e j hx;split at hs
   case h_2=>simp at hs
   rename_i g' sz els hes;split at hs
   case isFalse=>simp at hs
   rename_i hle;simp only[Option.some.injEq,Prod.mk.injEq]at hs;obtain⟨rfl,rfl⟩:=hs;refine SLoc.read (T:=[id]) (by simp[I.foot,hx,V.ids0]) (by simpa using Qw hes) λh2 ha=>?_
   simp only[Q3,hx,ha id (by simp),hes,if_pos hle]
  ·rename_i cs hx;simp only[Option.some.injEq,Prod.mk.injEq]at hs;obtain⟨rfl,rfl⟩:=hs;refine SLoc.read (T:=[]) (by simp[I.foot,hx,V.ids0]) (by simp) λh2 ha=>?_
   simp only[Q3,hx]
  ·simp at hs
 case ia es x k =>
  simp only[Q3]at hs;split at hs
  ·rename_i n sz els hk hx;split at hs
   case isFalse=>simp at hs
   rename_i hle;simp only[qa,Prod.mk.injEq]at hs;obtain⟨el,h1,rfl,rfl⟩:=hs;refine SLoc.read (T:=[]) (by simp[I.foot,hx,V.ids0]) (by simp) λh2 ha=>?_
   simp only[Q3,hx,hk,if_pos hle,h1,Option.map_some]
  ·rename_i n id g off len hk hx;split at hs
   case h_2=>simp at hs
   rename_i g' sz els hes;split at hs
   case isFalse=>simp at hs
   rename_i hle;simp only[Option.some.injEq,Prod.mk.injEq]at hs;obtain⟨rfl,rfl⟩:=hs;refine SLoc.read (T:=[id]) (by simp[I.foot,hx,V.ids0]) (by simpa using Qw hes) λh2 ha=>?_
   simp only[Q3,hx,hk,ha id (by simp),hes,if_pos hle]
  ·simp at hs
 case iaa len es x k =>
  simp only[Q3]at hs;split at hs
  ·rename_i n id g e j hk hx;split at hs
   case h_2=>simp at hs
   rename_i g' sz els hes;split at hs
   case isFalse=>simp at hs
   rename_i hle;simp only[Option.some.injEq,Prod.mk.injEq]at hs;obtain⟨rfl,rfl⟩:=hs;refine SLoc.read (T:=[id]) (by simp[I.foot,hx,V.ids0]) (by simpa using Qw hes) λh2 ha=>?_
   simp only[Q3,hx,hk,ha id (by simp),hes,if_pos hle]
  ·rename_i n cs hk hx;split at hs
   case isFalse=>simp at hs
   rename_i hle;simp only[Option.some.injEq,Prod.mk.injEq]at hs;obtain⟨rfl,rfl⟩:=hs;refine SLoc.read (T:=[]) (by simp[I.foot,hx,V.ids0]) (by simp) λh2 ha=>?_
   simp only[Q3,hx,hk,if_pos hle]
  ·simp at hs
 case nck x =>
  simp only[Q3]at hs;split at hs
  ·rename_i id g e j hx;split at hs
   case h_2=>simp at hs
   rename_i g' sz els hes;split at hs
   case isFalse=>simp at hs
   rename_i hle;simp only[Option.some.injEq,Prod.mk.injEq]at hs;obtain⟨rfl,rfl⟩:=hs;refine SLoc.read (T:=[id]) (by simp[I.foot,hx,V.ids0]) (by simpa using Qw hes) λh2 ha=>?_
   simp only[Q3,hx,ha id (by simp),hes,if_pos hle]
  ·rename_i cs hx;simp only[Option.some.injEq,Prod.mk.injEq]at hs;obtain⟨rfl,rfl⟩:=hs;refine SLoc.read (T:=[]) (by simp[I.foot,hx,V.ids0]) (by simp) λh2 ha=>?_
   simp only[Q3,hx]
  ·rename_i f cs hx;simp only[Option.some.injEq,Prod.mk.injEq]at hs;obtain⟨rfl,rfl⟩:=hs;have hf:(I.nck x).foot ev=((ev x).ids0,[]):=rfl;refine SLoc.read (T:=[]) (by rw[hf,hx];rfl) (by simp) λh2 ha=>?_
   simp only[Q3,hx]
  ·simp at hs
 case isn neg x =>
  simp only[Q3]at hs;split at hs
  ·rename_i hx;simp only[Option.some.injEq,Prod.mk.injEq]at hs;obtain⟨rfl,rfl⟩:=hs;refine SLoc.read (T:=[]) (by simp[I.foot,hx,V.ids0]) (by simp) λh2 ha=>?_
   simp only[Q3,hx]
  ·rename_i id g off len hx;split at hs
   case h_2=>simp at hs
   rename_i g' sz els hes;split at hs
   case isFalse=>simp at hs
   rename_i hle;simp only[Option.some.injEq,Prod.mk.injEq]at hs;obtain⟨rfl,rfl⟩:=hs;refine SLoc.read (T:=[id]) (by simp[I.foot,hx,V.ids0]) (by simpa using Qw hes) λh2 ha=>?_
   simp only[Q3,hx,ha id (by simp),hes,if_pos hle]
  ·simp at hs
 case len k x =>
  have hT:(∀id∈(ev x).ids0,id<h.length)/\h'=h/\∀h2:List O,(∀id∈(ev x).ids0,h2[id]?=h[id]?)->Q3 (.len k x) ev h2=some (r,h2):=by
   simp only[Q3]at hs ⊢;generalize ev x=X at *
   cases X<;>simp only[ja,Option.some.injEq,Prod.mk.injEq,reduceCtorEq]at hs
   case own id g off len =>
    obtain⟨hk,hs⟩:=hs;split at hs
    case h_2=>simp at hs
    rename_i g' sz els hes;simp only[ja,Option.some.injEq,Prod.mk.injEq]at hs;obtain⟨hg,rfl,rfl⟩:=hs;simp only[V.ids0,qn,forall_eq];exact⟨Qw hes,trivial,λh2 ha=>by simp only[ha,hes,if_pos hk,if_pos hg]⟩
   case mp id =>
    obtain⟨hk,hs⟩:=hs;split at hs
    case h_2=>simp at hs
    rename_i es hes;simp only[Option.some.injEq,Prod.mk.injEq]at hs;obtain⟨rfl,rfl⟩:=hs;simp only[V.ids0,qn,forall_eq];exact⟨Qw hes,trivial,λh2 ha=>by simp only[ha,hes,if_pos hk]⟩
   all_goals
    obtain⟨hk,rfl,rfl⟩:=hs;exact⟨by simp[V.ids0],rfl,λh2 ha=>by simp only[if_pos hk]⟩
  obtain⟨h1,rfl,h2⟩:=hT;exact SLoc.read rfl h1 h2
 case slc sz x lo hi =>
  simp only[Q3]at hs;split at hs
  ·rename_i sz' els hx;split at hs
   case h_2=>simp at hs
   rename_i a b ha hb;split at hs
   case isFalse=>simp at hs
   rename_i hle;simp only[Option.some.injEq,Prod.mk.injEq]at hs;obtain⟨rfl,rfl⟩:=hs;refine SLoc.read (T:=[]) (by simp[I.foot,hx,V.ids0]) (by simp) λh2 _=>?_
   simp only[Q3,hx,ha,hb,if_pos hle]
  ·rename_i id g off len hx;split at hs
   case h_2=>simp at hs
   rename_i a b g' sz' els ha hb hes;split at hs
   case isFalse=>simp at hs
   rename_i hle;simp only[Option.some.injEq,Prod.mk.injEq]at hs;obtain⟨rfl,rfl⟩:=hs;refine SLoc.read (T:=[id]) (by simp[I.foot,hx,V.ids0]) (by simpa using Qw hes) λh2 hag=>?_
   simp only[Q3,hx,ha,hb,hag id (by simp),hes,if_pos hle]
  ·rename_i hx;split at hs
   case h_2=>simp at hs
   rename_i ha hb;simp only[Option.some.injEq,Prod.mk.injEq]at hs;obtain⟨rfl,rfl⟩:=hs;refine SLoc.read (T:=[]) (by simp[I.foot,hx,V.ids0]) (by simp) λh2 _=>?_
   simp only[Q3,hx,ha,hb]
  ·simp at hs
 case slc3 sz x lo hi z =>
  simp only[Q3]at hs;split at hs
  ·rename_i id g off len kk c hx hz;split at hs
   case h_2=>simp at hs
   rename_i a b g' sz' els ha hb hes;split at hs
   case isFalse=>simp at hs
   rename_i hle;simp only[Option.some.injEq,Prod.mk.injEq]at hs;obtain⟨rfl,rfl⟩:=hs;refine SLoc.read (T:=[id]) (by simp[I.foot,hx,V.ids0]) (by simpa using Qw hes) λh2 hag=>?_
   simp only[Q3,hx,hz,ha,hb,hag id (by simp),hes,if_pos hle]
  ·rename_i kk c hx hz;split at hs
   case h_2=>simp at hs
   rename_i ha hb;split at hs
   case isFalse=>simp at hs
   rename_i hle;simp only[Option.some.injEq,Prod.mk.injEq]at hs;obtain⟨rfl,rfl⟩:=hs;refine SLoc.read (T:=[]) (by simp[I.foot,hx,V.ids0]) (by simp) λh2 _=>?_
   simp only[Q3,hx,hz,ha,hb,if_pos hle]
  ·simp at hs
 all_goals
  have hh:=Qit (by rfl) (by rfl) hs;subst hh;exact SLoc.pure rfl λh2=>Qll (by rfl) (by rfl) hs
end Go.Abs
