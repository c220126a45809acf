/- Part of the library on which the proof stands: an abstract machine, its values and its soundness against the model; or what functions of the program do to such values. -/
import Derived.Test.YtnaehggpjfdenaaGreatAbsQJ
set_option linter.unusedVariables false
set_option linter.unusedSimpArgs false
namespace Go.Abs
open Go.RowKit
def Yu (P:Program) (N:Nat):Code->Option C
 | .skip=>some .skip
 | .region _ ops false=>(Qho P N ops).map .reg
 | .region _ ops true=>(Qho P N ops).bind λl=>match Qpa l (Wk ops.toList) with
   | some l'=>some (.reg l')
   | none=>match Qgz l (Wk ops.toList) with
     | some l'=>some (.reg l')
     | none=>if Qg2 ops.toList l=true then some (.drw l (psOf ops.toList l)) else none
 | .seq a b=>(Yu P N a).bind λx=>(Yu P N b).map λy=>.seq x y
 | .cond c a b=>(Yu P N a).bind λx=>(Yu P N b).map λy=>.ite (cvA c) x y
 | .block id c=>(Yu P N c).map (.blk id)
 | .loop c=>(Yu P N c).map .loop
 | .exit id=>some (.exit id)
 | .ret=>some .ret
 | _=>none
section
variable {P:Program}
theorem Q5j {N:Nat} {ops:Array Oper} {l:List Ins} (h:Qho P N ops=some l) :
  ops.toList.length=l.length/\∀(k:Nat) (o:Oper) (x:Ins),ops.toList[k]?=some o->l[k]?=some x->∃imm,Jg P N ops imm o=some x:=by
 obtain⟨h1,h2⟩:=W6 h;refine⟨h1.symm,λk o x ho hx=>?_⟩;obtain⟨o',ho',hc⟩:=h2 k x hx;obtain rfl:=Option.some.inj (ho.symm.trans ho');exact⟨_,hc⟩
theorem Qz3 {J:Nat->Prop} {m:List Ent} {w:World} {n:Nat} {v:V} {c:Value} (hc:v.cl0 n=true) (h:RL J m w v c):RL J (m.take n) w v c:=by
 cases v<;>simp only[RL]at h ⊢<;>try exact h
 case own id g off len =>
  obtain⟨h0,e,h1,h2⟩:=h;simp[V.cl0]at hc
  exact⟨h0,e,by rw[jf,if_pos hc];exact h1,h2⟩
 case p id g el j =>
  obtain⟨h0,e,h1,h2⟩:=h;simp[V.cl0]at hc
  exact⟨h0,e,by rw[jf,if_pos hc];exact h1,h2⟩
 case mp id =>
  obtain⟨h0,e,h1,h2⟩:=h;simp[V.cl0]at hc
  exact⟨h0,e,by rw[jf,if_pos hc];exact h1,h2⟩
theorem Qnj {J:Nat->Prop} {m:List Ent} {w:World} {n:Nat} {v:V} {c:Value} (hc:v.cl1 n=true) (h:RC J m w v c):RC J (m.take n) w v c:=by
 cases v
 case f fn caps =>
  obtain⟨cs,h1,h2⟩:=h;refine⟨cs,h1,h2.1,λi v c hv hcc=>?_⟩;simp only[V.cl1,qj]at hc;exact Qz3 (hc v (qb hv)) (h2.2 i v c hv hcc)
 all_goals
  simp only[RC]at h ⊢;exact Qz3 (by simpa only[V.cl1]using hc) h
theorem Qkp {J:Nat->Prop} {m:List Ent} {w:World} {n:Nat} {v:V} {c:Value} (hc:v.cl n=true) (h:RA J m w v c):RA J (m.take n) w v c:=by
 cases v
 case any=>trivial
 case a cs =>
  obtain⟨arr,h1,h2⟩:=h;refine⟨arr,h1,h2.1,λi v c hv hcc=>?_⟩;simp only[V.cl,qj]at hc;exact Qnj (hc v (qb hv)) (h2.2 i v c hv hcc)
 case t=>simp[V.cl]at hc
 all_goals
  simp only[RA]at h ⊢;exact Qnj (by simpa only[V.cl]using hc) h
theorem Qhq {J:Nat->Prop} {m:List Ent} {w:World} {n:Nat} {v:V} {c:Value} (hc:v.cl n=true) (h:RV J m w v c):RV J (m.take n) w v c:=by
 cases v
 case any=>trivial
 case t=>simp[V.cl]at hc
 all_goals
  simp only[RV]at h ⊢;exact Qkp hc h
theorem cl_cell {J:Nat->Prop} {m:List Ent} {w:World} {n:Nat} {v:V} {c:Value} (hc:v.cl n=true) (h:RC J m w v c):RC J (m.take n) w v c:=by
 cases v
 case a=>simp only[RC,RL]at h
 case t=>simp only[RC,RL]at h
 all_goals exact Qnj (by simpa only[V.cl]using hc) h
theorem Qf2 {k:Nat}:∀{hs ps:List O},WeakH k hs ps->∀(i:Nat) (p:O),ps[i]?=some p->p=.dead∨(hs[i]?=some p/\p.cl k)
 | _,[],_,i,p,hp=>by simp at hp
 | [],_::_,h,_,_,_=>h.elim
 | o::os,q::qs,h,i,p,hp=>by
   cases i with
   | zero =>
     simp at hp;subst hp;rcases h.1 with h1 | ⟨h1,h2⟩
     ·exact .inl h1
     ·exact .inr ⟨by simp[h1],h2⟩
   | succ i =>
     simp at hp;rcases Qf2 h.2 i p hp with h1 | h1
     ·exact .inl h1
     ·exact .inr (by simpa using h1)
theorem Qpd (t:Nat):∀(env:List (Nat × V)),get t env=.any∨(t,get t env)∈env
 | []=>.inl rfl
 | (s,u)::r=>by
   simp only[get];split
   ·rename_i h;subst h;exact .inr (by simp)
   ·rcases Qpd t r with h | h
    ·exact .inl h
    ·exact .inr (by simp[h])
theorem RS.take {J:Nat->Prop} {h τ:List O} {m:List Ent} {w:World} (hr:RS J h m w) (hle:τ.length<=h.length) (hw:WeakH τ.length h τ):RS J τ (m.take τ.length) w:=by
 have hlen:(m.take τ.length).length=τ.length:=by rw[qv,hr.len];omega
 have hget:∀(id:Nat) (e:Ent),(m.take τ.length)[id]?=some e->m[id]?=some e:=by
  intro id e h1;rw[jf]at h1
  split at h1
  ·exact h1
  ·simp at h1
 refine⟨hlen,hr.jlt,λid e B h1 h2=>hr.dis id e B (hget id e h1) h2,λid id' e e' B h1 h2 h3 h4=>hr.inj id id' e e' B (hget _ _ h1) (hget _ _ h2) h3 h4,λid e o h1 h2=>?_⟩;rcases Qf2 hw id o h2 with rfl | ⟨h3,h4⟩
 ·trivial
 ·have h5:=hr.obj id e o (hget id e h1) h3;cases o with
  | arr g sz els =>
    obtain⟨q1,q2,q3,q4⟩:=h5;refine⟨q1,q2,q3,?_⟩;cases hb:e.blk with
    | none=>rw[hb]at q4;exact q4
    | some B =>
      rw[hb]at q4
      obtain⟨r1,r2,c,ty,fz,r3,r4,r5,r6⟩:=q4;refine⟨r1,r2,c,ty,fz,r3,r4,r5,λi el j x hi hj=>?_⟩;obtain⟨cv,s1,s2⟩:=r6 i el j x hi hj;exact⟨cv,s1,cl_cell (h4 el (qb hi) x (qb hj)) s2⟩
  | mp es =>
    obtain⟨q0,B,q1,ms,q2,q3,q4⟩:=h5;refine⟨q0,B,q1,ms,q2,q3,λi k v hi=>?_⟩;obtain⟨en,s1,s2,s3,s4⟩:=q4 i k v hi;have:=h4 (k,v) (qb hi);exact⟨en,s1,s2,Qkp this.1 s3,Qkp this.2 s4⟩
  | md es =>
    obtain⟨q0,B,q1,ms,c,q2,q3,q4⟩:=h5;refine⟨q0,B,q1,ms,c,q2,q3,λi k v hi=>?_⟩;obtain⟨en,s1,s3,s4⟩:=q4 i k v hi;have:=h4 (k,v) (qb hi);exact⟨en,s1,Qkp this.1 s3,Qkp this.2 s4⟩
  | it mid since seen =>
    obtain⟨q0,q1,q2,B,q3,mb,q4,q5⟩:=h5;refine⟨q0,q1,q2,B,q3,mb,q4,?_⟩;cases mid with
    | none=>exact q5
    | some i =>
      obtain⟨e',q6,q7⟩:=q5;exact⟨e',by rw[jf,if_pos (h4 i rfl)];exact q6,q7⟩
  | dead=>trivial
theorem Weak.rel {N n:Nat} {J:Nat->Prop} {m:List Ent} {σ τ:St} {a:Act} {w:World} (hr:RelF N J m (λt=>get t σ.env) σ.h a w) (hw:Weak n σ τ) :
  RelF N J (m.take τ.h.length) (λt=>get t τ.env) τ.h a w/\Ev n J m w J (m.take τ.h.length) w:=by
 obtain⟨h1,h2,h3,h4⟩:=hw;have hget:∀(id:Nat) (e:Ent),(m.take τ.h.length)[id]?=some e->m[id]?=some e:=by
  intro id e h1;rw[jf]at h1
  split at h1
  ·exact h1
  ·simp at h1
 refine⟨⟨λt=>?_,hr.rs.take h2 h4,hr.defers,hr.size⟩,⟨rfl,rfl,rfl,Nat.le_refl _,Nat.le_refl _,λ_ _ _=>rfl,λid e B q1 q2=>.inr ⟨id,e,hget id e q1,q2⟩,λ_ h=>h,λ_ h=>.inl h,λid e hn q1=>⟨e,?_,Nat.le_refl _,λ_=>rfl⟩⟩⟩
 ·rcases Qpd t τ.env with h5 | h5
  ·rw[h5];trivial
  ·rcases h3 _ h5 with h6 | ⟨h6,h7⟩
   ·simp only at h6;rw[h6];trivial
   ·have:=hr.tmps t;simp only at h6 h7 this;rw[h6]at this
    exact Qhq h7 this
 ·rw[jf,if_pos (by omega)];exact q1
theorem Qn2 {N:Nat} {J:Nat->Prop} {m:List Ent} {g:Gho} {σ σ':St} {a:Act} {w:World} (hr:RelF N J m (λt=>get t σ.env) σ.h a w) (hg:Q0y g σ=some σ') :
  ∃m',RelF N J m' (λt=>get t σ'.env) σ'.h a w/\∀n,Ev n J m w J m' w:=by
 cases g with
 | t t sz =>
   simp only[Q0y]at hg;split at hg
   case h_2=>simp at hg
   rename_i hnil;obtain rfl:=Option.some.inj hg;obtain⟨h1,h2,h3⟩:=Us hr.rs sz;refine⟨_,⟨λu=>?_,h1,hr.defers,hr.size⟩,h2⟩;simp only;by_cases hu:u=t
   ·subst hu;rw[Qs];have h4:=hr.tmps u;simp only[hnil]at h4;have h5:RD J w .nil (a.tmps.getD u undef):=h4;generalize a.tmps.getD u undef=cv at h5 ⊢;refine⟨h5.one,⟨1,sz,none,0,0⟩,by rw[<- hr.rs.len];exact Yr _ _,⟨Nat.le_refl _,Nat.le_refl _⟩,λ_=>⟨rfl,rfl,?_⟩⟩;cases h5 with
    | nil0=>exact .inl rfl
    | nil1 a=>exact .inr ⟨a,rfl⟩
   ·rw[Qe _ _ hu];exact RV.mono (λ_ h=>h) (λ_ _=>rfl) h3 (hr.tmps u)
 | c id i j sz =>
   simp only[Q0y]at hg;split at hg
   case h_2=>simp at hg
   rename_i g s els ho;split at hg
   case h_2=>simp at hg
   rename_i el hel;split at hg
   case h_2=>simp at hg
   rename_i hnil;obtain rfl:=Option.some.inj hg;obtain⟨h1,h2,h3⟩:=Us hr.rs sz;refine⟨_,⟨λu=>RV.mono (λ_ h=>h) (λ_ _=>rfl) h3 (hr.tmps u),?_,hr.defers,hr.size⟩,h2⟩;have hlt:=(q8.1 ho).1;refine⟨by have:=h1.len;simpa using this,h1.jlt,h1.dis,h1.inj,λid' e o he hoo=>?_⟩;by_cases hid:id'=id
   ·subst hid;rw[qd (by simpa using hlt),qm hlt]at hoo
    obtain rfl:=Option.some.inj hoo;have hold:=h1.obj id' e (.arr g s els) he (by rw[qd hlt];exact ho);obtain⟨q1,q2,q3,q4⟩:=hold;refine⟨q1,q2,λi' el' hi'=>?_,?_⟩
    ·rw[List.getElem?_set]at hi'
     split at hi'
     ·rename_i hii;split at hi'
      ·obtain rfl:=Option.some.inj hi';rw[List.length_set];exact q3 i el hel
      ·simp at hi'
     ·exact q3 i' el' hi'
    ·cases hb:e.blk with
     | none =>
       rw[hb]at q4
       obtain⟨rfl,_⟩:=q4;simp at hel
     | some B =>
       rw[hb]at q4
       obtain⟨r1,r2,c,ty,fz,r3,r4,r5,r6⟩:=q4;refine⟨by simpa using r1,r2,c,ty,fz,r3,r4,r5,λi' el' j' x hi' hj'=>?_⟩;rw[List.getElem?_set]at hi'
       split at hi'
       ·rename_i hii;subst hii;split at hi'
        ·obtain rfl:=Option.some.inj hi';rw[List.getElem?_set]at hj'
         split at hj'
         ·rename_i hjj;subst hjj;split at hj'
          ·obtain rfl:=Option.some.inj hj';obtain⟨cv,s1,s2⟩:=r6 i el j .nil hel hnil;refine⟨cv,s1,?_⟩;have h5:RD J w .nil cv:=s2;refine⟨h5.one,⟨1,sz,none,0,0⟩,by rw[<- hr.rs.len];exact Yr _ _,⟨Nat.le_refl _,Nat.le_refl _⟩,λ_=>⟨rfl,rfl,?_⟩⟩;cases h5 with
           | nil0=>exact .inl rfl
           | nil1 a=>exact .inr ⟨a,rfl⟩
          ·simp at hj'
         ·exact r6 i el j' x hel hj'
        ·simp at hi'
       ·exact r6 i' el' j' x hi' hj'
   ·refine h1.obj id' e o he ?_;rw[<- hoo];by_cases hl:id'<σ.h.length
    ·rw[qd hl,qd (by simpa using hl),qt (λh=>hid h.symm)]
    ·rw[qf (by omega),qf (by simp;omega)];simp
theorem Qaz {N:Nat} {J:Nat->Prop} {a:Act} {w:World}:∀(gs:List Gho) {m:List Ent} {σ σ':St},RelF N J m (λt=>get t σ.env) σ.h a w->I2 gs σ=some σ' ->
  ∃m',RelF N J m' (λt=>get t σ'.env) σ'.h a w/\∀n,Ev n J m w J m' w
 | [],m,σ,σ',hr,hg=>by
   obtain rfl:=Option.some.inj hg;exact⟨m,hr,λn=>Ev.refl n J m w⟩
 | g::gs,m,σ,σ',hr,hg=>by
   simp only[I2,qr]at hg;obtain⟨σ1,h1,h2⟩:=hg;obtain⟨m1,h3,h4⟩:=Qn2 hr h1;obtain⟨m2,h5,h6⟩:=Qaz gs h3 h2;exact⟨m2,h5,λn=>(h4 n).trans (h6 n)⟩
theorem Qf9 (hmix:P.follows .mixedOrders=true) {N n:Nat}:∀(code:Code) (c:C),Yu P N code=some c->∀(σ:St) (κ:X->St->Prop),AS P n c σ κ ->
  ∀(J:Nat->Prop) (m:List Ent) (a:Act) (w:World),RelF N J m (λt=>get t σ.env) σ.h a w->code.wp P (Ql5 N J m w n κ) a w:=by
 have post:∀{J:Nat->Prop} {m:List Ent} {w:World} {κ:X->St->Prop} {e:Exit} {x:X} {σ':St} {J':Nat->Prop} {m':List Ent} {a':Act} {w':World},
   (match e,x with | .normal,.n=>True | .exit i,.e j=>i=j | .ret,.r=>True | _,_=>False)->κ x σ'->RelF N J' m' (λt=>get t σ'.env) σ'.h a' w'->Ev n J m w J' m' w'->Ql5 N J m w n κ e a' w' :=
  λh1 h2 h3 h4=>⟨_,_,_,_,h1,h2,h3,h4⟩
 have lift:∀{J J1:Nat->Prop} {m m1:List Ent} {w w1:World} {κ:X->St->Prop} {e:Exit} {a':Act} {w':World},Ev n J m w J1 m1 w1->Ql5 N J1 m1 w1 n κ e a' w'->Ql5 N J m w n κ e a' w' :=
  λh1 ⟨x,σ',J',m',h2,h3,h4,h5⟩=>⟨x,σ',J',m',h2,h3,h4,h1.trans h5⟩
 intro code
 induction code with
 | skip =>
   intro c hc σ κ h J m a w hr;obtain rfl:=Option.some.inj hc;exact wp_skip (post trivial h hr (Ev.refl n J m w))
 | region id ops draw =>
   intro c hc σ κ h J m a w hr;cases draw with
   | false =>
     simp only[Yu,qa]at hc;obtain⟨l,hl,rfl⟩:=hc;obtain⟨h1,h2⟩:=Q5j hl;refine wp_region ?_;have:=Qvl (Q:=Ql5 N J m w n κ) ops.toList l h1 h2 σ (κ .n) h J m a w hr (λσ' J' m' a' w' q1 q2 q3=>post (e:=.normal) (x:=.n) trivial q1 q2 q3);have e:=wpOps_eq_wpList (P:=P) (ops:=ops) (Q:=Ql5 N J m w n κ) ops.toList 0 (λj=>by simp);rw[List.range_eq_range']
     rw[show ops.size=ops.toList.length by simp,e];exact this
   | true =>
     simp only[Yu,qr]at hc;obtain⟨l,hl,hc⟩:=hc;obtain⟨h1,h2⟩:=Q5j hl;refine wp_region_any hmix ?_;have hdrew:RelF N J m (λt=>get t σ.env) σ.h a { w with drawn:=w.drawn+1 }:=by
      have hmono:∀V c,RV J m w V c->RV J m { w with drawn:=w.drawn+1 } V c:=λV c hc=>RV.mono (J:=J) (m:=m) (w:=w) (w':={ w with drawn:=w.drawn+1 }) (λ_ h=>h) (λ_ _=>rfl) (Ml.refl m) hc
      exact⟨λt=>hmono _ _ (hr.tmps t),RS.same hr.rs (λ_ h=>h) (λ_ h=>.inl h) (λk hk=>hr.rs.jlt k hk) (λ_ _=>rfl) (Nat.le_refl _),hr.defers,hr.size⟩
     have hevd:Ev n J m w J m { w with drawn:=w.drawn+1 }:=Ev.same (λ_ h=>h) (λ_ h=>.inl h) (λ_ _=>rfl) (Nat.le_refl _) rfl rfl rfl (by simp);cases hinc:Qpa l (Wk ops.toList) with
     | some l' =>
       rw[hinc]at hc
       simp only[Option.some.injEq]at hc;subst hc;obtain⟨_,hl7,hax⟩:=inc_ok hinc h;have hsz:ops.size=7:=by rw[<- hl7,<- h1];simp
       have:=Qne (n:=n) h1 h2 (Q:=Ql5 N J m w n κ) (κ:=κ .n) 7 [] (Array.replicate ops.size false) σ J m a { w with drawn:=w.drawn+1 } (Lst.nil ops) (by simp) hax hdrew (λσ' J' m' a' w' q1 q2 q3=>post (e:=.normal) (x:=.n) trivial q1 q2 (hevd.trans q3));rw[hsz]at this ⊢
       exact this
     | none =>
     rw[hinc]at hc
     cases hinc2:Qgz l (Wk ops.toList) with
     | some l' =>
       rw[hinc2]at hc
       simp only[Option.some.injEq]at hc;subst hc;obtain⟨_,hl7,hax⟩:=inc2_ok hinc2 h;have hsz:ops.size=8:=by rw[<- hl7,<- h1];simp
       have:=Qne (n:=n) h1 h2 (Q:=Ql5 N J m w n κ) (κ:=κ .n) 8 [] (Array.replicate ops.size false) σ J m a { w with drawn:=w.drawn+1 } (Lst.nil ops) (by simp) hax hdrew (λσ' J' m' a' w' q1 q2 q3=>post (e:=.normal) (x:=.n) trivial q1 q2 (hevd.trans q3));rw[hsz]at this ⊢
       exact this
     | none =>
     rw[hinc2]at hc
     simp only[ja,Option.some.injEq]at hc;obtain⟨hord,rfl⟩:=hc;exact drw_ok (n:=n) h1 h2 hord h hdrew (λσ' J' m' a' w' q1 q2 q3=>post (e:=.normal) (x:=.n) trivial q1 q2 (hevd.trans q3))
 | seq x y ihx ihy =>
   intro c hc σ κ h J m a w hr;simp only[Yu,qr,qa]at hc;obtain⟨cx,hx,cy,hy,rfl⟩:=hc;refine wp_seq (wp_mono (ihx cx hx σ _ h J m a w hr) ?_);rintro e a1 w1 ⟨x',σ1,J1,m1,q1,q2,q3,q4⟩;cases e<;>cases x'<;>simp only at q1<;>try exact q1.elim
   ·exact wp_mono (ihy cy hy σ1 κ q2 J1 m1 a1 w1 q3) (λe a' w' hh=>lift q4 hh)
   ·subst q1;exact post (e:=.exit _) rfl q2 q3 q4
   ·exact post (e:=.ret) (x:=.r) trivial q2 q3 q4
 | cond cd x y ihx ihy =>
   intro c hc σ κ h J m a w hr;simp only[Yu,qr,qa]at hc;obtain⟨cx,hx,cy,hy,rfl⟩:=hc;simp only[AS,Q55]at h;split at h
   case h_2=>exact h.elim
   rename_i t ht;have h1:=hr.ev cd;rw[Xv,ht]at h1
   refine wp_cond (t:=t) (Ym h1) ?_;cases t
   ·exact ihy cy hy σ κ (h.2 rfl) J m a w hr
   ·exact ihx cx hx σ κ (h.1 rfl) J m a w hr
 | block id x ih =>
   intro c hc σ κ h J m a w hr;simp only[Yu,qa]at hc;obtain⟨cx,hx,rfl⟩:=hc;refine wp_block (wp_mono (ih cx hx σ _ h J m a w hr) ?_);rintro e a1 w1 ⟨x',σ1,J1,m1,q1,q2,q3,q4⟩;cases e<;>cases x'<;>simp only at q1<;>try exact q1.elim
   ·exact post (e:=.normal) (x:=.n) trivial q2 q3 q4
   ·subst q1;simp only at q2;simp only[Exit.inBlock];split
    ·rename_i hid;rw[if_pos hid]at q2
     exact post (e:=.normal) (x:=.n) trivial q2 q3 q4
    ·rename_i hid;rw[if_neg hid]at q2
     exact post (e:=.exit _) rfl q2 q3 q4
   ·exact post (e:=.ret) (x:=.r) trivial q2 q3 q4
 | loop x ih =>
   intro c hc σ κ h J m a w hr;simp only[Yu,qa]at hc;obtain⟨cx,hx,rfl⟩:=hc;simp only[AS]at h;obtain⟨α,φ,S,μ,⟨x0,hφ0,gs,σg,hgs,hw0⟩,hround⟩:=h;obtain⟨mg,hrg,hevg⟩:=Qaz gs hr hgs;obtain⟨hr0,hev0'⟩:=hw0.rel hrg;have hev0:=(hevg n).trans hev0'
   refine wp_loop_ghost (λk a' w'=>∃y J' m',φ y/\μ y=k/\RelF N J' m' (λt=>get t (S y).env) (S y).h a' w'/\Ev n J m w J' m' w') (μ x0) ⟨x0,J,_,hφ0,rfl,hr0,hev0⟩ ?_;rintro k a1 w1 ⟨y,J1,m1,hφ,rfl,hr1,hev1⟩;refine wp_mono (ih cx hx (S y) _ (hround y hφ) J1 m1 a1 w1 hr1) ?_;rintro e a2 w2 ⟨x',σ2,J2,m2,q1,q2,q3,q4⟩;cases e<;>cases x'<;>simp only at q1<;>try exact q1.elim
   ·obtain⟨y',hφ',hμ,hwk⟩:=q2;obtain⟨hr',hev'⟩:=hwk.rel q3;exact⟨μ y',hμ,y',J2,_,hφ',rfl,hr',(hev1.trans q4).trans hev'⟩
   ·subst q1;exact post (e:=.exit _) rfl q2 q3 (hev1.trans q4)
   ·exact post (e:=.ret) (x:=.r) trivial q2 q3 (hev1.trans q4)
 | exit id =>
   intro c hc σ κ h J m a w hr;obtain rfl:=Option.some.inj hc;exact wp_exit (post (e:=.exit id) (x:=.e id) rfl h hr (Ev.refl n J m w))
 | ret =>
   intro c hc σ κ h J m a w hr;obtain rfl:=Option.some.inj hc;exact wp_ret (post (e:=.ret) (x:=.r) trivial h hr (Ev.refl n J m w))
 | rangeFunc=>intro c hc;simp[Yu]at hc
 | scope=>intro c hc;simp[Yu]at hc
 | label=>intro c hc;simp[Yu]at hc
 | goto=>intro c hc;simp[Yu]at hc
 | refuse=>intro c hc;simp[Yu]at hc
end
end Go.Abs
namespace Go.Abs
open Go.RowKit
inductive Rr where
 | tmp (t:Nat)
 | cell (t:Nat) (n:Option Nat)
def B1 (P:Program) (fn:Func):Option (List Rr) :=
 fn.results.toList.mapM fun
  | .tmp t=>some (.tmp t)
  | .cell t T=>(Q4v P T).map λn=>.cell t n
def X6 (σ:St):Rr->Option V
 | .tmp t=>some (get t σ.env)
 | .cell t n=>(X0 σ.h (get t σ.env)).bind (Jm n)
def Ys (h:List O):V->Option V
 | .own id g off len=>match h[id]? with
   | some (.arr g' sz els)=>if g=g'/\off+len<=els.length/\((els.drop off).take len).all (·.all V.isD)=true then some (.l sz ((els.drop off).take len)) else none
   | _=>none
 | .b x=>some (.b x)
 | .i k n=>some (.i k n)
 | .s x=>some (.s x)
 | .nil=>some .nil
 | .l sz els=>some (.l sz els)
 | .any=>some .any
 | .np=>some .np
 | _=>none
def frz (h:List O):V->Option V
 | .a cs=>(cs.mapM (Ys h)).map .a
 | v=>Ys h v
def Zh (h:List O) (vs:List V):Option (List V):=vs.mapM (frz h)
def Yx:List V->V
 | [v]=>v
 | vs=>.t vs
def V.noT:V->Bool
 | .t _=>false
 | _=>true
def Qvb (rs:List Rr) (σ:St):Option V :=
 (rs.mapM (X6 σ)).bind λvs=>(Zh σ.h vs).map Yx
def Z9 (k:Nat):List V->List (Nat × V)
 | []=>[]
 | v::r=>(k,v)::Z9 (k+1) r
def PureC (P:Program) (f:FuncId) (vs:List V) (R:V->Prop):Prop:=ACall P f vs [] (λr h'=>R r/\h'=[])
theorem PureC.mono {P:Program} {f:FuncId} {vs:List V} {R R':V->Prop} (h:PureC P f vs R) (hr:∀r,R r->R' r):PureC P f vs R' :=
 ACall.mono h λ_ _ hh=>⟨hr _ hh.1,hh.2⟩
section
variable {P:Program} {J:Nat->Prop} {m:List Ent} {w:World} {h:List O}
def Kg (m:List Ent) (k:Nat):Prop:=∃(id:Nat) (e:Ent),m[id]?=some e/\e.blk=some k
theorem Q80 (hr:RS J h m w) {v r:V} (hf:Ys h v=some r) {c:Value} (hv:RC J m w v c):RC (λk=>J k∨Kg m k) [] w r c:=by
 have hsub:∀k,J k->(λk=>J k∨Kg m k) k:=λk hk=>.inl hk
 cases v<;>simp only[Ys]at hf<;>try (simp at hf;done)
 case own id g off len =>
  split at hf
  case h_2=>simp at hf
  rename_i g' sz els ho;split at hf
  case isFalse=>simp at hf
  rename_i hcond;obtain⟨rfl,hle,hd⟩:=hcond;obtain rfl:=Option.some.inj hf;have he:Zr sz h (.own id g off len)=some ((els.drop off).take len):=by simp[Zr,ho,hle]
  obtain⟨a,cap,hx,h1,h2,h3,h4⟩:=Jl hr (Qh hv) he;have hv':=K2 hr (Qh hv) ho;obtain⟨en,hen,_,_,hsl,_⟩:=hv';subst hx;cases a with
  | none =>
    obtain⟨h5,h6⟩:=h2 rfl;have:(els.drop off).take len=[]:=ql h5;rw[this];subst h6;exact RD.l0 sz
  | some a =>
    obtain⟨cs,h5,h6⟩:=h4 a rfl;have hdd:∀(i:Nat) (el:List V) (j:Nat) (x:V),((els.drop off).take len)[i]?=some el->el[j]?=some x->x.isD=true:=by
     intro i el j x q1 q2;have q3:=qj.1 hd el (qb q1);exact qj.1 q3 x (qb q2)
    by_cases h0:((els.drop off).take len).length=0
    ·have:(els.drop off).take len=[]:=ql h0;rw[this];exact RD.l1 sz a cap
    ·have hb:Kg m a.block:=by
      unfold Ent.sl at hsl;cases hbk:en.blk with
      | none =>
        rw[hbk]at hsl
        obtain⟨_,_,q3⟩:=hsl;exfalso;rcases q3 with q3 | ⟨_,q3⟩<;>simp at q3
        rw[qv,List.length_drop]at h0
        omega
      | some B =>
        rw[hbk]at hsl
        obtain⟨o,cc,q3,_⟩:=hsl;simp only[Value.slice.injEq,Option.some.injEq]at q3;exact⟨id,en,hen,by rw[hbk,q3.1]⟩
     exact RD.l sz _ a cap cs (.inr hb) h1 h3 h5 (λi el j v q1 q2=>(Ie (hdd i el j v q1 q2) (h6 i el j v q1 q2)).mono hsub (λ_ _=>rfl))
 all_goals
  obtain rfl:=Option.some.inj hf
  first
  | exact hv
  | exact(show RD J w _ c from hv).mono hsub (λ_ _=>rfl)
theorem Iq {f:V->Option V} {R R':V->Value->Prop} (hR:∀v r c,f v=some r->R v c->R' r c) {vs rs:List V} (hf:vs.mapM f=some rs) {cs:List Value} (hp:Pw R vs cs):Pw R' rs cs:=by
 obtain⟨h1,h2⟩:=W6 hf;refine⟨by rw[h1,hp.1],λi r c hr hc=>?_⟩;obtain⟨v,hv,hfv⟩:=h2 i r hr;exact hR v r c hfv (hp.2 i v c hv hc)
theorem Qn3 (hr:RS J h m w) {v r:V} (hf:frz h v=some r) {c:Value} (hv:RV J m w v c):RA (λk=>J k∨Kg m k) [] w r c:=by
 cases v
 case a cs =>
  simp only[frz,qa]at hf;obtain⟨rs,hrs,rfl⟩:=hf;obtain⟨arr,rfl,hp⟩:=hv;exact⟨arr,rfl,Iq (R':=RC (λk=>J k∨Kg m k) [] w) (λv r c q1 q2=>Q80 hr q1 q2) hrs hp⟩
 case any=>simp[frz,Ys]at hf;subst hf;trivial
 case t=>simp[frz,Ys]at hf
 all_goals
  simp only[frz]at hf;exact Qy (Q80 hr hf hv)
def rvS (tmps:Array Value):ResultVar->Sem Value
 | .tmp t=>pure (tmps.getD t undef)
 | .cell a t=>do loadVar t (<- asAddr (tmps.getD a undef))
theorem Qm4 (fn:Func) (tmps:Array Value):results fn tmps=(do
  let vs <- fn.results.mapM (rvS tmps)
  pure (if h:vs.size=1 then vs[0] else .tuple vs)):=by
 unfold results;congr 1
theorem Wy {N:Nat} {a:Act} {σ:St} (hr:RelF N J m (λt=>get t σ.env) σ.h a w) {fn:Func} {rs:List Rr} (hrs:B1 P fn=some rs) {vs:List V} (hvs:rs.mapM (X6 σ)=some vs) :
  ∃cs:List Value,Pw (RV J m w) vs cs/\(results fn a.tmps).run P w=.ok (if h:cs.toArray.size=1 then cs.toArray[0] else .tuple cs.toArray) w:=by
 have key:∀(l:List ResultVar) (rs:List Rr) (vs:List V),l.mapM (fun | .tmp t=>some (Rr.tmp t) | .cell t T=>(Q4v P T).map λn=>.cell t n)=some rs->rs.mapM (X6 σ)=some vs ->
   ∃cs:List Value,Pw (RV J m w) vs cs/\(l.mapM (rvS a.tmps)).run P w=.ok cs w:=by
  intro l
  induction l with
  | nil =>
    intro rs vs h1 h2;simp at h1;subst h1;simp at h2;subst h2;exact⟨[],Pw.nil,by simp⟩
  | cons q l ih =>
    intro rs vs h1 h2;simp only[List.mapM_cons,Option.bind_eq_bind,qr,Option.pure_def,Option.some.injEq]at h1;obtain⟨r0,hr0,rs',hrs',rfl⟩:=h1;simp only[List.mapM_cons,Option.bind_eq_bind,qr,Option.pure_def,Option.some.injEq]at h2;obtain⟨v0,hv0,vs',hvs',rfl⟩:=h2;obtain⟨cs,hp,hrun⟩:=ih rs' vs' hrs' hvs';cases q with
    | tmp t =>
      simp only[Option.some.injEq]at hr0;subst hr0;simp only[X6,Option.some.injEq]at hv0;subst hv0;refine⟨a.tmps.getD t undef::cs,Pw.cons (hr.tmps t) hp,?_⟩;simp only[List.mapM_cons,rvS,Sem.run_bind,Sem.run_pure,Result.andThen_ok,hrun]
    | cell t T =>
      simp only[qa]at hr0;obtain⟨n,hT,rfl⟩:=hr0;simp only[X6]at hv0;have hf:=Qpe (P:=P) hT hr.rs (hr.tmps t) hv0;simp only[qr]at hv0;obtain⟨cells,hcells,hpick⟩:=hv0;obtain⟨ad,had,ws,hw1,hw2⟩:=Qbe hr.rs (hr.tmps t) hcells;have hpo:=Q9m hpick hw1;have hload:∃c,(loadVar T ad).run P w=.ok c w/\RV J m w v0 c:=by
       cases n with
       | none =>
         obtain⟨c,q1,q2⟩:=hpo;have q3:=hw2 0 c q1;rw[Addr.add_zero']at q3
         exact⟨c,by simp only[loadVar,Sem.run_bind,Kz hT,Result.andThen_ok,Bool.false_eq_true,if_false,run_load,q3],q2⟩
       | some k =>
         obtain⟨q1,q2⟩:=hpo;have hl:=run_loadCells_list (P:=P) w ad (ws.take k) (λj v hj=>hw2 j v (by rw[jf]at hj;split at hj<;>simp_all));have hlen:(ws.take k).length=k:=by simp;omega
         rw[hlen]at hl
         exact⟨_,by simp only[loadVar,Sem.run_bind,(Y5 hT w).1,Result.andThen_ok,if_true,(Y5 hT w).2,hl,Sem.run_pure],q2⟩
      obtain⟨c,hc1,hc2⟩:=hload;refine⟨c::cs,Pw.cons hc2 hp,?_⟩;simp only[List.mapM_cons,rvS,Sem.run_bind,had,asAddr,Sem.run_pure,Result.andThen_ok,hc1,hrun]
 obtain⟨cs,h1,h2⟩:=key fn.results.toList rs vs hrs hvs;refine⟨cs,h1,?_⟩;rw[Qm4,Array.mapM_eq_mapM_toList];simp only[Sem.run_bind,Sem.run_map,h2,Result.andThen_ok,Sem.run_pure]
theorem Yt:∀(vs:List V) (k t:Nat),get t (Z9 k vs)=if k<=t then (vs[t-k]?).getD .any else .any
 | [],k,t=>by simp[Z9,get]
 | v::r,k,t=>by
   simp only[Z9,get];split
   ·rename_i h;subst h;simp
   ·rename_i h;rw[Yt r (k+1) t];by_cases h1:k+1<=t
    ·rw[if_pos h1,if_pos (by omega),show t-k=(t-(k+1))+1 by omega];simp
    ·rw[if_neg h1];by_cases h2:k<=t
     ·omega
     ·rw[if_neg h2]
theorem Qm5 (hmix:P.follows .mixedOrders=true) {f:FuncId} {fn:Func} {code:Code} {c:C} {rs:List Rr} (hf:P.funcs[f]?=some fn) (hb:fn.body=some code) (hc:Yu P fn.ntmps code=some c) (hrs:B1 P fn=some rs)
  {vs:List V} (hn:vs.length<=fn.ntmps) {R:V->Prop} (hbody:AS P 0 c ⟨Z9 0 vs,[]⟩ (λx σ'=>(match x with | .e _=>False | _=>True)/\∃r,Qvb rs σ'=some r/\R r)):PureC P f vs R:=by
 intro J m w cargs hr hp;have hm:m=[]:=ql (by rw[hr.len];rfl);subst hm;refine calls_of_wp hf hb ?_;have hcl:cargs.length<=fn.ntmps:=by rw[<- hp.1];exact hn
 have hrel:RelF fn.ntmps J [] (λt=>get t (Z9 0 vs)) [] { tmps:=cargs.toArray++Array.replicate (fn.ntmps-cargs.toArray.size) undef,defers:=[] } w:=by
  refine⟨λt=>?_,hr,rfl,by simp;omega⟩;simp only;rw[Yt,if_pos (Nat.zero_le _),Nat.sub_zero];cases hv:vs[t]? with
  | none=>trivial
  | some v =>
    obtain⟨cv,h1,h2⟩:=hp.get hv;have hlt:=(q8.1 h1).1;have:(cargs.toArray++Array.replicate (fn.ntmps-cargs.toArray.size) undef).getD t undef=cv:=by
     rw[Array.getD_eq_getD_getElem?,jw (by simpa using hlt)];simp[h1]
    rw[this];exact h2
 refine wp_mono (Qf9 hmix code c hc _ _ hbody J [] _ w hrel) ?_;rintro e a' w' ⟨x,σ',J',m',hx,⟨hx2,r,hres,hR⟩,hrel',hev⟩;have hret:a'.defers=[]/\∃v,(results fn a'.tmps).run P w'=.ok v w'/\∃v0 r h' J'' m'',Ending.returned v=.returned v0/\(R r/\h'=[])/\RV J'' m'' w' r v0/\RS J'' h' m'' w'/\(∀n,Ev n J [] w J'' m'' w')/\Ml [] m'':=by
  refine⟨hrel'.defers,?_⟩;simp only[Qvb,qr,qa]at hres;obtain⟨us,hus,fs,hfs,rfl⟩:=hres;obtain⟨cs,hcs,hrun⟩:=Wy hrel' hrs hus;refine⟨_,hrun,_,Yx fs,[],λk=>J' k∨Kg m' k,[],rfl,⟨hR,rfl⟩,?_,?_,λn=>?_,Ml.nil _⟩
  ·have hpa:Pw (RA (λk=>J' k∨Kg m' k) [] w') fs cs:=Iq (R:=RV J' m' w') (R':=RA (λk=>J' k∨Kg m' k) [] w') (λv r c q1 q2=>Qn3 hrel'.rs q1 q2) hfs hcs;have hl:=hpa.1
   match fs,cs,hl,hpa with
   | [],[],_,hpa=>exact⟨#[],rfl,Pw.nil⟩
   | [v],[c],_,hpa =>
     simp only[Yx];have:(if h:([c]:List Value).toArray.size=1 then ([c]:List Value).toArray[0] else Value.tuple [c].toArray)=c:=by simp
     rw[this];exact Z7 hpa.head
   | v1::v2::vr,c1::c2::cr,_,hpa =>
     simp only[Yx];rw[dif_neg (by simp)];exact⟨_,rfl,by simpa using hpa⟩
  ·refine⟨rfl,λk hk=>?_,by simp,by simp,by simp⟩;rcases hk with hk | ⟨id,e,h1,h2⟩
   ·exact hrel'.rs.jlt k hk
   ·exact(hrel'.rs.dis id e k h1 h2).2
  ·refine⟨hev.os,hev.tape,hev.output,hev.drawn,hev.size,hev.keep,by simp,λk hk=>.inl (hev.sub k hk),λk hk=>?_,by simp⟩;rcases hk with hk | ⟨id,e,h1,h2⟩
   ·exact hev.jnew k hk
   ·rcases hev.fresh id e k h1 h2 with h3 | h3
    ·exact .inr (.inl h3)
    ·exact .inr (.inr h3)
 cases e<;>cases x<;>simp only at hx<;>(try exact hx.elim)<;>(try exact hx2.elim)
 ·exact hret
 ·exact hret
theorem PureC.lift {f:FuncId} {vs:List V} {R:V->Prop} (hp:PureC P f vs R) (hcl:vs.all (V.cl 0)=true) (h:List O):ACall P f vs h (λr h'=>R r/\h'=h):=by
 intro J m w cargs hr hpw;have hpw0:Pw (RV J [] w) vs cargs:=⟨hpw.1,λi v c hv hc=>by
  have:=Qhq (n:=0) (qj.1 hcl v (qb hv)) (hpw.2 i v c hv hc);simpa using this⟩
 refine (hp J [] w cargs ⟨rfl,hr.jlt,by simp,by simp,by simp⟩ hpw0).mono ?_;rintro e w' ⟨v,r,h',J',m',rfl,⟨hR,rfl⟩,hv,hrs,hev,_⟩;have hm':m'=[]:=ql (by rw[hrs.len];rfl);subst hm';have hkeep:∀k,k<w.heap.size->w'.heap[k]?=w.heap[k]?:=λk hk=>(hev 0).keep k hk (by simp)
 have hjn:∀k,J' k->J k∨w.heap.size<=k:=λk hk=>by
  rcases (hev 0).jnew k hk with h1 | h1 | ⟨_,_,h1,_⟩
  ·exact .inl h1
  ·exact .inr h1
  ·simp at h1
 exact⟨v,r,h,J',m,rfl,⟨hR,rfl⟩,RV.mono (λ_ h=>h) (λ_ _=>rfl) (Ml.nil m) hv,RS.same hr (hev 0).sub hjn hrs.jlt hkeep (hev 0).size,
  λn=>Ev.same (hev 0).sub hjn hkeep (hev 0).size (hev 0).os (hev 0).tape (hev 0).output (hev 0).drawn,Ml.refl m⟩
def V.scal1:V->Bool
 | .b _ | .i _ _ | .s _=>true
 | _=>false
def V.scal:V->Bool
 | .a cs=>cs.all V.scal1
 | .t vs=>vs.all fun | .a cs=>cs.all V.scal1 | v=>v.scal1
 | v=>v.scal1
theorem Qj7 {J':Nat->Prop} {m':List Ent} {w':World} {v:V} {c:Value} (hs:v.scal1=true) (h:RC J m w v c):RC J' m' w' v c:=by
 cases v<;>simp[V.scal1]at hs
 case b x=>have:=Ym (Qh h);subst this;exact Qv (.b x)
 case i k n=>have:=Ze (Qh h);subst this;exact Qv (.i k n)
 case s x=>have:=Xo (Qh h);subst this;exact Qv (.s x)
theorem Qj6 {J':Nat->Prop} {m':List Ent} {w':World} {v:V} {c:Value} (hs:(match v with | .a cs=>cs.all V.scal1 | v=>v.scal1)=true) (h:RA J m w v c):RA J' m' w' v c:=by
 cases v
 case a cs =>
  obtain⟨arr,rfl,hp⟩:=h;refine⟨arr,rfl,hp.1,λi v c hv hc=>Qj7 (qj.1 hs v (qb hv)) (hp.2 i v c hv hc)⟩
 all_goals first
  | (simp[V.scal1]at hs;done)
  | exact Qy (Qj7 (J:=J) (m:=m) (w:=w) hs h)
theorem scal_ok {J':Nat->Prop} {m':List Ent} {w':World} {v:V} {c:Value} (hs:v.scal=true) (h:RV J m w v c):RV J' m' w' v c:=by
 cases v
 case t vs =>
  obtain⟨arr,rfl,hp⟩:=h;refine⟨arr,rfl,hp.1,λi v c hv hc=>Qj6 (qj.1 hs v (qb hv)) (hp.2 i v c hv hc)⟩
 all_goals exact Z7 (Qj6 (J:=J) (m:=m) (w:=w) hs h)
theorem PureC.lend {f:FuncId} {vs us:List V} {R:V->Prop} {h:List O} (hu:Zh h us=some vs) (hp:PureC P f vs R) (hsc:∀r,R r->r.scal=true):ACall P f us h (λr h'=>R r/\h'=h):=by
 intro J m w cargs hr hpw;have hpw0:Pw (RV (λk=>J k∨Kg m k) [] w) vs cargs:=Iq (R:=RV J m w) (R':=RV (λk=>J k∨Kg m k) [] w) (λv r c q1 q2=>Z7 (Qn3 hr q1 q2)) hu hpw;refine (hp (λk=>J k∨Kg m k) [] w cargs ⟨rfl,λk hk=>?_,by simp,by simp,by simp⟩ hpw0).mono ?_
 ·rcases hk with hk | ⟨id,e,h1,h2⟩
  ·exact hr.jlt k hk
  ·exact(hr.dis id e k h1 h2).2
 rintro e w' ⟨v,r,h',J',m',rfl,⟨hR,rfl⟩,hv,hrs,hev,_⟩;have hkeep:∀k,k<w.heap.size->w'.heap[k]?=w.heap[k]?:=λk hk=>(hev 0).keep k hk (by simp)
 exact⟨v,r,h,J,m,rfl,⟨hR,rfl⟩,scal_ok (hsc r hR) hv,RS.same hr (λ_ h=>h) (λ_ h=>.inl h) (λk hk=>Nat.lt_of_lt_of_le (hr.jlt k hk) (hev 0).size) hkeep (hev 0).size,
  λn=>Ev.same (λ_ h=>h) (λ_ h=>.inl h) hkeep (hev 0).size (hev 0).os (hev 0).tape (hev 0).output (hev 0).drawn,Ml.refl m⟩
theorem PureC.is {f:FuncId} {vs:List V} {r:V} (hp:PureC P f vs (·=r)) (hcl:vs.all (V.cl 0)=true):CallIs P f vs r:=λh=>hp.lift hcl h
end
end Go.Abs
