/- Part of the library on which the proof stands: an abstract machine, its values and its soundness against the model; or what functions of the program do to such values. -/
import Derived.Test.YtcdjgldeiaiaoaaGreatAbsQJ
set_option linter.unusedVariables false
set_option linter.unusedSimpArgs false
namespace Go.Abs
open Go.RowKit
def Yg (P:Program) (N:Nat):Code->Option C
 | .skip=>some .skip
 | .region _ ops false=>(Q6z P N ops).map .reg
 | .region _ ops true=>(Q6z P N ops).bind λl=>match Qd7 l (Jp ops.toList) with
   | some l'=>some (.reg l')
   | none=>match Q6c l (Jp ops.toList) with
     | some l'=>some (.reg l')
     | none=>if Q5v ops.toList l=true then some (.drw l (psOf ops.toList l)) else none
 | .seq a b=>(Yg P N a).bind λx=>(Yg P N b).map λy=>.seq x y
 | .cond c a b=>(Yg P N a).bind λx=>(Yg P N b).map λy=>.ite (cvA c) x y
 | .block id c=>(Yg P N c).map (.blk id)
 | .loop c=>(Yg P N c).map .loop
 | .exit id=>some (.exit id)
 | .ret=>some .ret
 | _=>none
section
variable {P:Program}
theorem Q07 {N:Nat} {ops:Array Oper} {l:List Ins} (h:Q6z P N ops=some l) :
  ops.toList.length=l.length/\∀(k:Nat) (o:Oper) (x:Ins),ops.toList[k]?=some o->l[k]?=some x->∃imm,Xk P N ops imm o=some x:=by
 obtain⟨h1,h2⟩:=Ja h
 refine⟨h1.symm,λk o x ho hx=>?_⟩
 obtain⟨o',ho',hc⟩:=h2 k x hx
 obtain rfl:=Option.some.inj (ho.symm.trans ho')
 exact⟨_,hc⟩
theorem Qk5 {J:Nat->Prop} {m:List Ent} {w:World} {n:Nat} {v:V} {c:Value} (hc:v.cl0 n=true) (h:RL J m w v c):RL J (m.take n) w v c:=by
 cases v<;>simp only[RL]at h ⊢<;>try exact h
 case own id g off len =>
  obtain⟨h0,e,h1,h2⟩:=h
  simp[V.cl0]at hc
  exact⟨h0,e,by rw[jb,if_pos hc];exact h1,h2⟩
 case p id g el j =>
  obtain⟨h0,e,h1,h2⟩:=h
  simp[V.cl0]at hc
  exact⟨h0,e,by rw[jb,if_pos hc];exact h1,h2⟩
 case mp id =>
  obtain⟨h0,e,h1,h2⟩:=h
  simp[V.cl0]at hc
  exact⟨h0,e,by rw[jb,if_pos hc];exact h1,h2⟩
theorem Qbs {J:Nat->Prop} {m:List Ent} {w:World} {n:Nat} {v:V} {c:Value} (hc:v.cl1 n=true) (h:RC J m w v c):RC J (m.take n) w v c:=by
 cases v
 case f fn caps =>
  obtain⟨cs,h1,h2⟩:=h
  refine⟨cs,h1,h2.1,λi v c hv hcc=>?_⟩
  simp only[V.cl1,qj]at hc
  exact Qk5 (hc v (qb hv)) (h2.2 i v c hv hcc)
 all_goals
  simp only[RC]at h ⊢
  exact Qk5 (by simpa only[V.cl1]using hc) h
theorem Q9d {J:Nat->Prop} {m:List Ent} {w:World} {n:Nat} {v:V} {c:Value} (hc:v.cl n=true) (h:RA J m w v c):RA J (m.take n) w v c:=by
 cases v
 case any=>trivial
 case a cs =>
  obtain⟨arr,h1,h2⟩:=h
  refine⟨arr,h1,h2.1,λi v c hv hcc=>?_⟩
  simp only[V.cl,qj]at hc
  exact Qbs (hc v (qb hv)) (h2.2 i v c hv hcc)
 case t=>simp[V.cl]at hc
 all_goals
  simp only[RA]at h ⊢
  exact Qbs (by simpa only[V.cl]using hc) h
theorem Q72 {J:Nat->Prop} {m:List Ent} {w:World} {n:Nat} {v:V} {c:Value} (hc:v.cl n=true) (h:RV J m w v c):RV J (m.take n) w v c:=by
 cases v
 case any=>trivial
 case t=>simp[V.cl]at hc
 all_goals
  simp only[RV]at h ⊢
  exact Q9d hc h
theorem cl_cell {J:Nat->Prop} {m:List Ent} {w:World} {n:Nat} {v:V} {c:Value} (hc:v.cl n=true) (h:RC J m w v c):RC J (m.take n) w v c:=by
 cases v
 case a=>simp only[RC,RL]at h
 case t=>simp only[RC,RL]at h
 all_goals exact Qbs (by simpa only[V.cl]using hc) h
theorem Q58 {k:Nat}:∀{hs ps:List O},WeakH k hs ps->∀(i:Nat) (p:O),ps[i]?=some p->p=.dead∨(hs[i]?=some p/\p.cl k)
 | _,[],_,i,p,hp=>by simp at hp
 | [],_::_,h,_,_,_=>h.elim
 | o::os,q::qs,h,i,p,hp=>by
   cases i with
   | zero =>
     simp at hp
     subst hp
     rcases h.1 with h1 | ⟨h1,h2⟩
     ·exact .inl h1
     ·exact .inr ⟨by simp[h1],h2⟩
   | succ i =>
     simp at hp
     rcases Q58 h.2 i p hp with h1 | h1
     ·exact .inl h1
     ·exact .inr (by simpa using h1)
theorem Qda (t:Nat):∀(env:List (Nat × V)),get t env=.any∨(t,get t env)∈env
 | []=>.inl rfl
 | (s,u)::r=>by
   simp only[get]
   split
   ·rename_i h;subst h;exact .inr (by simp)
   ·rcases Qda t r with h | h
    ·exact .inl h
    ·exact .inr (by simp[h])
theorem RS.take {J:Nat->Prop} {h τ:List O} {m:List Ent} {w:World} (hr:RS J h m w) (hle:τ.length<=h.length) (hw:WeakH τ.length h τ):RS J τ (m.take τ.length) w:=by
 have hlen:(m.take τ.length).length=τ.length:=by rw[qw,hr.len];omega
 have hget:∀(id:Nat) (e:Ent),(m.take τ.length)[id]?=some e->m[id]?=some e:=by
  intro id e h1
  rw[jb]at h1
  split at h1
  ·exact h1
  ·simp at h1
 refine⟨hlen,hr.jlt,λid e B h1 h2=>hr.dis id e B (hget id e h1) h2,λid id' e e' B h1 h2 h3 h4=>hr.inj id id' e e' B (hget _ _ h1) (hget _ _ h2) h3 h4,λid e o h1 h2=>?_⟩
 rcases Q58 hw id o h2 with rfl | ⟨h3,h4⟩
 ·trivial
 ·have h5:=hr.obj id e o (hget id e h1) h3
  cases o with
  | arr g sz els =>
    obtain⟨q1,q2,q3,q4⟩:=h5
    refine⟨q1,q2,q3,?_⟩
    cases hb:e.blk with
    | none=>rw[hb]at q4;exact q4
    | some B =>
      rw[hb]at q4
      obtain⟨r1,r2,c,ty,fz,r3,r4,r5,r6⟩:=q4
      refine⟨r1,r2,c,ty,fz,r3,r4,r5,λi el j x hi hj=>?_⟩
      obtain⟨cv,s1,s2⟩:=r6 i el j x hi hj
      exact⟨cv,s1,cl_cell (h4 el (qb hi) x (qb hj)) s2⟩
  | mp es =>
    obtain⟨q0,B,q1,ms,q2,q3,q4⟩:=h5
    refine⟨q0,B,q1,ms,q2,q3,λi k v hi=>?_⟩
    obtain⟨en,s1,s2,s3,s4⟩:=q4 i k v hi
    have:=h4 (k,v) (qb hi)
    exact⟨en,s1,s2,Q9d this.1 s3,Q9d this.2 s4⟩
  | md es =>
    obtain⟨q0,B,q1,ms,c,q2,q3,q4⟩:=h5
    refine⟨q0,B,q1,ms,c,q2,q3,λi k v hi=>?_⟩
    obtain⟨en,s1,s3,s4⟩:=q4 i k v hi
    have:=h4 (k,v) (qb hi)
    exact⟨en,s1,Q9d this.1 s3,Q9d this.2 s4⟩
  | it mid since seen =>
    obtain⟨q0,q1,q2,B,q3,mb,q4,q5⟩:=h5
    refine⟨q0,q1,q2,B,q3,mb,q4,?_⟩
    cases mid with
    | none=>exact q5
    | some i =>
      obtain⟨e',q6,q7⟩:=q5
      exact⟨e',by rw[jb,if_pos (h4 i rfl)];exact q6,q7⟩
  | dead=>trivial
theorem Weak.rel {N n:Nat} {J:Nat->Prop} {m:List Ent} {σ τ:St} {a:Act} {w:World} (hr:RelF N J m (λt=>get t σ.env) σ.h a w) (hw:Weak n σ τ) :
  RelF N J (m.take τ.h.length) (λt=>get t τ.env) τ.h a w/\Ev n J m w J (m.take τ.h.length) w:=by
 obtain⟨h1,h2,h3,h4⟩:=hw
 have hget:∀(id:Nat) (e:Ent),(m.take τ.h.length)[id]?=some e->m[id]?=some e:=by
  intro id e h1
  rw[jb]at h1
  split at h1
  ·exact h1
  ·simp at h1
 refine⟨⟨λt=>?_,hr.rs.take h2 h4,hr.defers,hr.size⟩,⟨rfl,rfl,rfl,Nat.le_refl _,Nat.le_refl _,λ_ _ _=>rfl,λid e B q1 q2=>.inr ⟨id,e,hget id e q1,q2⟩,λ_ h=>h,λ_ h=>.inl h,λid e hn q1=>⟨e,?_,Nat.le_refl _,λ_=>rfl⟩⟩⟩
 ·rcases Qda t τ.env with h5 | h5
  ·rw[h5];trivial
  ·rcases h3 _ h5 with h6 | ⟨h6,h7⟩
   ·simp only at h6;rw[h6];trivial
   ·have:=hr.tmps t
    simp only at h6 h7 this
    rw[h6]at this
    exact Q72 h7 this
 ·rw[jb,if_pos (by omega)];exact q1
theorem Qbb {N:Nat} {J:Nat->Prop} {m:List Ent} {g:Gho} {σ σ':St} {a:Act} {w:World} (hr:RelF N J m (λt=>get t σ.env) σ.h a w) (hg:Ea g σ=some σ') :
  ∃m',RelF N J m' (λt=>get t σ'.env) σ'.h a w/\∀n,Ev n J m w J m' w:=by
 cases g with
 | t t sz =>
   simp only[Ea]at hg
   split at hg
   case h_2=>simp at hg
   rename_i hnil
   obtain rfl:=Option.some.inj hg
   obtain⟨h1,h2,h3⟩:=Ki hr.rs sz
   refine⟨_,⟨λu=>?_,h1,hr.defers,hr.size⟩,h2⟩
   simp only
   by_cases hu:u=t
   ·subst hu
    rw[Q0]
    have h4:=hr.tmps u
    simp only[hnil]at h4
    have h5:RD J w .nil (a.tmps.getD u undef):=h4
    generalize a.tmps.getD u undef=cv at h5 ⊢
    refine⟨h5.one,⟨1,sz,none,0,0⟩,by rw[<- hr.rs.len];exact Ya _ _,⟨Nat.le_refl _,Nat.le_refl _⟩,λ_=>⟨rfl,rfl,?_⟩⟩
    cases h5 with
    | nil0=>exact .inl rfl
    | nil1 a=>exact .inr ⟨a,rfl⟩
   ·rw[Q2 _ _ hu]
    exact RV.mono (λ_ h=>h) (λ_ _=>rfl) h3 (hr.tmps u)
 | c id i j sz =>
   simp only[Ea]at hg
   split at hg
   case h_2=>simp at hg
   rename_i g s els ho
   split at hg
   case h_2=>simp at hg
   rename_i el hel
   split at hg
   case h_2=>simp at hg
   rename_i hnil
   obtain rfl:=Option.some.inj hg
   obtain⟨h1,h2,h3⟩:=Ki hr.rs sz
   refine⟨_,⟨λu=>RV.mono (λ_ h=>h) (λ_ _=>rfl) h3 (hr.tmps u),?_,hr.defers,hr.size⟩,h2⟩
   have hlt:=(q8.1 ho).1
   refine⟨by have:=h1.len;simpa using this,h1.jlt,h1.dis,h1.inj,λid' e o he hoo=>?_⟩
   by_cases hid:id'=id
   ·subst hid
    rw[qd (by simpa using hlt),qn hlt]at hoo
    obtain rfl:=Option.some.inj hoo
    have hold:=h1.obj id' e (.arr g s els) he (by rw[qd hlt];exact ho)
    obtain⟨q1,q2,q3,q4⟩:=hold
    refine⟨q1,q2,λi' el' hi'=>?_,?_⟩
    ·rw[List.getElem?_set]at hi'
     split at hi'
     ·rename_i hii
      split at hi'
      ·obtain rfl:=Option.some.inj hi'
       rw[List.length_set];exact q3 i el hel
      ·simp at hi'
     ·exact q3 i' el' hi'
    ·cases hb:e.blk with
     | none =>
       rw[hb]at q4
       obtain⟨rfl,_⟩:=q4
       simp at hel
     | some B =>
       rw[hb]at q4
       obtain⟨r1,r2,c,ty,fz,r3,r4,r5,r6⟩:=q4
       refine⟨by simpa using r1,r2,c,ty,fz,r3,r4,r5,λi' el' j' x hi' hj'=>?_⟩
       rw[List.getElem?_set]at hi'
       split at hi'
       ·rename_i hii
        subst hii
        split at hi'
        ·obtain rfl:=Option.some.inj hi'
         rw[List.getElem?_set]at hj'
         split at hj'
         ·rename_i hjj
          subst hjj
          split at hj'
          ·obtain rfl:=Option.some.inj hj'
           obtain⟨cv,s1,s2⟩:=r6 i el j .nil hel hnil
           refine⟨cv,s1,?_⟩
           have h5:RD J w .nil cv:=s2
           refine⟨h5.one,⟨1,sz,none,0,0⟩,by rw[<- hr.rs.len];exact Ya _ _,⟨Nat.le_refl _,Nat.le_refl _⟩,λ_=>⟨rfl,rfl,?_⟩⟩
           cases h5 with
           | nil0=>exact .inl rfl
           | nil1 a=>exact .inr ⟨a,rfl⟩
          ·simp at hj'
         ·exact r6 i el j' x hel hj'
        ·simp at hi'
       ·exact r6 i' el' j' x hi' hj'
   ·refine h1.obj id' e o he ?_
    rw[<- hoo]
    by_cases hl:id'<σ.h.length
    ·rw[qd hl,qd (by simpa using hl),qu (λh=>hid h.symm)]
    ·rw[qf (by omega),qf (by simp;omega)];simp
theorem Q2y {N:Nat} {J:Nat->Prop} {a:Act} {w:World}:∀(gs:List Gho) {m:List Ent} {σ σ':St},RelF N J m (λt=>get t σ.env) σ.h a w->Wc gs σ=some σ' ->
  ∃m',RelF N J m' (λt=>get t σ'.env) σ'.h a w/\∀n,Ev n J m w J m' w
 | [],m,σ,σ',hr,hg=>by
   obtain rfl:=Option.some.inj hg
   exact⟨m,hr,λn=>Ev.refl n J m w⟩
 | g::gs,m,σ,σ',hr,hg=>by
   simp only[Wc,qt]at hg
   obtain⟨σ1,h1,h2⟩:=hg
   obtain⟨m1,h3,h4⟩:=Qbb hr h1
   obtain⟨m2,h5,h6⟩:=Q2y gs h3 h2
   exact⟨m2,h5,λn=>(h4 n).trans (h6 n)⟩
theorem Q9x (hmix:P.follows .mixedOrders=true) {N n:Nat}:∀(code:Code) (c:C),Yg P N code=some c->∀(σ:St) (κ:X->St->Prop),AS P n c σ κ ->
  ∀(J:Nat->Prop) (m:List Ent) (a:Act) (w:World),RelF N J m (λt=>get t σ.env) σ.h a w->code.wp P (Q9r N J m w n κ) a w:=by
 have post:∀{J:Nat->Prop} {m:List Ent} {w:World} {κ:X->St->Prop} {e:Exit} {x:X} {σ':St} {J':Nat->Prop} {m':List Ent} {a':Act} {w':World},
   (match e,x with | .normal,.n=>True | .exit i,.e j=>i=j | .ret,.r=>True | _,_=>False)->κ x σ'->RelF N J' m' (λt=>get t σ'.env) σ'.h a' w'->Ev n J m w J' m' w'->Q9r N J m w n κ e a' w' :=
  λh1 h2 h3 h4=>⟨_,_,_,_,h1,h2,h3,h4⟩
 have lift:∀{J J1:Nat->Prop} {m m1:List Ent} {w w1:World} {κ:X->St->Prop} {e:Exit} {a':Act} {w':World},Ev n J m w J1 m1 w1->Q9r N J1 m1 w1 n κ e a' w'->Q9r N J m w n κ e a' w' :=
  λh1 ⟨x,σ',J',m',h2,h3,h4,h5⟩=>⟨x,σ',J',m',h2,h3,h4,h1.trans h5⟩
 intro code
 induction code with
 | skip =>
   intro c hc σ κ h J m a w hr
   obtain rfl:=Option.some.inj hc
   exact wp_skip (post trivial h hr (Ev.refl n J m w))
 | region id ops draw =>
   intro c hc σ κ h J m a w hr
   cases draw with
   | false =>
     simp only[Yg,qa]at hc
     obtain⟨l,hl,rfl⟩:=hc
     obtain⟨h1,h2⟩:=Q07 hl
     refine wp_region ?_
     have:=Qi0 (Q:=Q9r N J m w n κ) ops.toList l h1 h2 σ (κ .n) h J m a w hr (λσ' J' m' a' w' q1 q2 q3=>post (e:=.normal) (x:=.n) trivial q1 q2 q3)
     have e:=wpOps_eq_wpList (P:=P) (ops:=ops) (Q:=Q9r N J m w n κ) ops.toList 0 (λj=>by simp)
     rw[List.range_eq_range']
     rw[show ops.size=ops.toList.length by simp,e]
     exact this
   | true =>
     simp only[Yg,qt]at hc
     obtain⟨l,hl,hc⟩:=hc
     obtain⟨h1,h2⟩:=Q07 hl
     refine wp_region_any hmix ?_
     have hdrew:RelF N J m (λt=>get t σ.env) σ.h a { w with drawn:=w.drawn+1 }:=by
      have hmono:∀V c,RV J m w V c->RV J m { w with drawn:=w.drawn+1 } V c:=λV c hc=>RV.mono (J:=J) (m:=m) (w:=w) (w':={ w with drawn:=w.drawn+1 }) (λ_ h=>h) (λ_ _=>rfl) (Ml.refl m) hc
      exact⟨λt=>hmono _ _ (hr.tmps t),RS.same hr.rs (λ_ h=>h) (λ_ h=>.inl h) (λk hk=>hr.rs.jlt k hk) (λ_ _=>rfl) (Nat.le_refl _),hr.defers,hr.size⟩
     have hevd:Ev n J m w J m { w with drawn:=w.drawn+1 }:=Ev.same (λ_ h=>h) (λ_ h=>.inl h) (λ_ _=>rfl) (Nat.le_refl _) rfl rfl rfl (by simp)
     cases hinc:Qd7 l (Jp ops.toList) with
     | some l' =>
       rw[hinc]at hc
       simp only[Option.some.injEq]at hc
       subst hc
       obtain⟨_,hl7,hax⟩:=inc_ok hinc h
       have hsz:ops.size=7:=by rw[<- hl7,<- h1];simp
       have:=Qbm (n:=n) h1 h2 (Q:=Q9r N J m w n κ) (κ:=κ .n) 7 [] (Array.replicate ops.size false) σ J m a { w with drawn:=w.drawn+1 } (Lst.nil ops) (by simp) hax hdrew (λσ' J' m' a' w' q1 q2 q3=>post (e:=.normal) (x:=.n) trivial q1 q2 (hevd.trans q3))
       rw[hsz]at this ⊢
       exact this
     | none =>
     rw[hinc]at hc
     cases hinc2:Q6c l (Jp ops.toList) with
     | some l' =>
       rw[hinc2]at hc
       simp only[Option.some.injEq]at hc
       subst hc
       obtain⟨_,hl7,hax⟩:=inc2_ok hinc2 h
       have hsz:ops.size=8:=by rw[<- hl7,<- h1];simp
       have:=Qbm (n:=n) h1 h2 (Q:=Q9r N J m w n κ) (κ:=κ .n) 8 [] (Array.replicate ops.size false) σ J m a { w with drawn:=w.drawn+1 } (Lst.nil ops) (by simp) hax hdrew (λσ' J' m' a' w' q1 q2 q3=>post (e:=.normal) (x:=.n) trivial q1 q2 (hevd.trans q3))
       rw[hsz]at this ⊢
       exact this
     | none =>
     rw[hinc2]at hc
     simp only[j6,Option.some.injEq]at hc
     obtain⟨hord,rfl⟩:=hc
     exact drw_ok (n:=n) h1 h2 hord h hdrew (λσ' J' m' a' w' q1 q2 q3=>post (e:=.normal) (x:=.n) trivial q1 q2 (hevd.trans q3))
 | seq x y ihx ihy =>
   intro c hc σ κ h J m a w hr
   simp only[Yg,qt,qa]at hc
   obtain⟨cx,hx,cy,hy,rfl⟩:=hc
   refine wp_seq (wp_mono (ihx cx hx σ _ h J m a w hr) ?_)
   rintro e a1 w1 ⟨x',σ1,J1,m1,q1,q2,q3,q4⟩
   cases e<;>cases x'<;>simp only at q1<;>try exact q1.elim
   ·exact wp_mono (ihy cy hy σ1 κ q2 J1 m1 a1 w1 q3) (λe a' w' hh=>lift q4 hh)
   ·subst q1;exact post (e:=.exit _) rfl q2 q3 q4
   ·exact post (e:=.ret) (x:=.r) trivial q2 q3 q4
 | cond cd x y ihx ihy =>
   intro c hc σ κ h J m a w hr
   simp only[Yg,qt,qa]at hc
   obtain⟨cx,hx,cy,hy,rfl⟩:=hc
   simp only[AS,Q01]at h
   split at h
   case h_2=>exact h.elim
   rename_i t ht
   have h1:=hr.ev cd
   rw[X4,ht]at h1
   refine wp_cond (t:=t) (Y4 h1) ?_
   cases t
   ·exact ihy cy hy σ κ (h.2 rfl) J m a w hr
   ·exact ihx cx hx σ κ (h.1 rfl) J m a w hr
 | block id x ih =>
   intro c hc σ κ h J m a w hr
   simp only[Yg,qa]at hc
   obtain⟨cx,hx,rfl⟩:=hc
   refine wp_block (wp_mono (ih cx hx σ _ h J m a w hr) ?_)
   rintro e a1 w1 ⟨x',σ1,J1,m1,q1,q2,q3,q4⟩
   cases e<;>cases x'<;>simp only at q1<;>try exact q1.elim
   ·exact post (e:=.normal) (x:=.n) trivial q2 q3 q4
   ·subst q1
    simp only at q2
    simp only[Exit.inBlock]
    split
    ·rename_i hid
     rw[if_pos hid]at q2
     exact post (e:=.normal) (x:=.n) trivial q2 q3 q4
    ·rename_i hid
     rw[if_neg hid]at q2
     exact post (e:=.exit _) rfl q2 q3 q4
   ·exact post (e:=.ret) (x:=.r) trivial q2 q3 q4
 | loop x ih =>
   intro c hc σ κ h J m a w hr
   simp only[Yg,qa]at hc
   obtain⟨cx,hx,rfl⟩:=hc
   simp only[AS]at h
   obtain⟨α,φ,S,μ,⟨x0,hφ0,gs,σg,hgs,hw0⟩,hround⟩:=h
   obtain⟨mg,hrg,hevg⟩:=Q2y gs hr hgs
   obtain⟨hr0,hev0'⟩:=hw0.rel hrg
   have hev0:=(hevg n).trans hev0'
   refine wp_loop_ghost (λk a' w'=>∃y J' m',φ y/\μ y=k/\RelF N J' m' (λt=>get t (S y).env) (S y).h a' w'/\Ev n J m w J' m' w') (μ x0) ⟨x0,J,_,hφ0,rfl,hr0,hev0⟩ ?_
   rintro k a1 w1 ⟨y,J1,m1,hφ,rfl,hr1,hev1⟩
   refine wp_mono (ih cx hx (S y) _ (hround y hφ) J1 m1 a1 w1 hr1) ?_
   rintro e a2 w2 ⟨x',σ2,J2,m2,q1,q2,q3,q4⟩
   cases e<;>cases x'<;>simp only at q1<;>try exact q1.elim
   ·obtain⟨y',hφ',hμ,hwk⟩:=q2
    obtain⟨hr',hev'⟩:=hwk.rel q3
    exact⟨μ y',hμ,y',J2,_,hφ',rfl,hr',(hev1.trans q4).trans hev'⟩
   ·subst q1;exact post (e:=.exit _) rfl q2 q3 (hev1.trans q4)
   ·exact post (e:=.ret) (x:=.r) trivial q2 q3 (hev1.trans q4)
 | exit id =>
   intro c hc σ κ h J m a w hr
   obtain rfl:=Option.some.inj hc
   exact wp_exit (post (e:=.exit id) (x:=.e id) rfl h hr (Ev.refl n J m w))
 | ret =>
   intro c hc σ κ h J m a w hr
   obtain rfl:=Option.some.inj hc
   exact wp_ret (post (e:=.ret) (x:=.r) trivial h hr (Ev.refl n J m w))
 | rangeFunc=>intro c hc;simp[Yg]at hc
 | scope=>intro c hc;simp[Yg]at hc
 | label=>intro c hc;simp[Yg]at hc
 | goto=>intro c hc;simp[Yg]at hc
 | refuse=>intro c hc;simp[Yg]at hc
end
end Go.Abs
