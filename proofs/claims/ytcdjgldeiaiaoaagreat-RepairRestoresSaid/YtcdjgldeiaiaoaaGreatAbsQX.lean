/- Part of the library on which the proof stands: an abstract machine, its values and its soundness against the model; or what functions of the program do to such values. -/
import Derived.Test.YtcdjgldeiaiaoaaGreatAbsQ
set_option linter.unusedVariables false
set_option linter.unusedSimpArgs false
namespace Go.Abs
open Go.RowKit
def Up (aft:List (List Nat)) (ls:List Nat):List Nat :=
 (List.range aft.length).filter λi=>!ls.contains i && (aft.getD i []).all λe=>ls.contains e
def AG (P:Program) (x:Ins) (σ:St) (k:St->Prop):Prop :=
 match x.g with
 | none=>A1 P x σ k
 | some (t,Qs)=>Yn (get t σ.env) Qs (A1 P x σ k) (k ⟨Q7 x.d (.t []) σ.env,σ.h⟩)
def AX (P:Program) (xs:List Ins) (aft:List (List Nat)):Nat->List Nat->St->(St->Prop)->Prop
 | 0,ls,σ,κ=>Up aft ls=[]/\κ σ
 | n+1,ls,σ,κ=>(Up aft ls=[]->κ σ)/\∀i∈Up aft ls,∃x,xs[i]?=some x/\AG P x σ (λσ'=>AX P xs aft n (i::ls) σ' κ)
def Jp (ops:List Oper):List (List Nat):=ops.map λo=>(o.after.toList.filter (Region.binds .any)).map (·.on)
def Lst (ops:Array Oper) (ls:List Nat) (listed:Array Bool):Prop:=listed.size=ops.size/\∀j b,listed.getD j b=if j<ops.size then ls.contains j else b
theorem Lst.nil (ops:Array Oper):Lst ops [] (Array.replicate ops.size false):=by
 refine⟨by simp,λj b=>?_⟩
 simp only[Array.getD_eq_getD_getElem?,Array.getElem?_replicate]
 by_cases h:j<ops.size<;>simp[h]
theorem Lst.cons {ops:Array Oper} {ls:List Nat} {listed:Array Bool} (h:Lst ops ls listed) {i:Nat} (hi:i<ops.size):Lst ops (i::ls) (listed.setIfInBounds i true):=by
 refine⟨by simpa using h.1,λj b=>?_⟩
 have h2:=h.2 j b
 simp only[Array.getD_eq_getD_getElem?]at h2 ⊢
 by_cases hj:i=j
 ·subst hj
  rw[Array.getElem?_setIfInBounds_self_of_lt (by rw[h.1];exact hi)]
  simp[hi]
 ·rw[Array.getElem?_setIfInBounds_ne hj,h2]
  have:¬ j=i:=λhh=>hj hh.symm
  simp[this]
theorem Q83 {ops:Array Oper} {ls:List Nat} {listed:Array Bool} (h:Lst ops ls listed) (hls:∀i∈ls,i<ops.size):Region.ready .any ops listed=Up (Jp ops.toList) ls:=by
 unfold Region.ready Up
 have hlen:(Jp ops.toList).length=ops.size:=by simp[Jp]
 rw[hlen]
 refine List.filter_congr λi hi=>?_
 have hlt:i<ops.size:=qz.1 hi
 rw[h.2 i true,if_pos hlt,Array.getElem?_eq_getElem hlt]
 congr 1
 have h3:(Jp ops.toList).getD i []=(ops[i].after.toList.filter (Region.binds .any)).map (·.on):=by
  simp[Jp,List.getD_eq_getElem?_getD,hlt]
 rw[h3]
 simp only[Option.map_some,Option.getD_some,List.all_map,List.all_filter]
 rw[<- Array.all_toList]
 congr 1
 funext e
 rw[h.2 e.on false]
 by_cases he:e.on<ops.size
 ·simp[he]
 ·have:ls.contains e.on=false:=by
   rw[Bool.eq_false_iff];intro hc
   exact he (hls _ (by simpa using hc))
  simp only[he,if_false,Function.comp,this]
theorem Qbm {P:Program} {N n:Nat} {ops:Array Oper} {xs:List Ins} (hl:ops.toList.length=xs.length) (hk:∀(k:Nat) (o:Oper) (x:Ins),ops.toList[k]?=some o->xs[k]?=some x->∃imm,Xk P N ops imm o=some x) {Q:Exit->Act->World->Prop} {κ:St->Prop} :
  ∀(fuel:Nat) (ls:List Nat) (listed:Array Bool) (σ:St) (J:Nat->Prop) (m:List Ent) (a:Act) (w:World),Lst ops ls listed->(∀i∈ls,i<ops.size)->AX P xs (Jp ops.toList) fuel ls σ κ->RelF N J m (λt=>get t σ.env) σ.h a w ->
   (∀σ' J' m' a' w',κ σ'->RelF N J' m' (λt=>get t σ'.env) σ'.h a' w'->Ev n J m w J' m' w'->Q .normal a' w')->wpAny P .any ops Q fuel listed a w
 | 0,ls,listed,σ,J,m,a,w,hL,hls,hax,hr,hQ=>by
   unfold wpAny
   exact⟨by rw[Q83 hL hls];exact hax.1,hQ σ J m a w hax.2 hr (Ev.refl n J m w)⟩
 | fuel+1,ls,listed,σ,J,m,a,w,hL,hls,hax,hr,hQ=>by
   unfold wpAny
   rw[Q83 hL hls]
   refine⟨λh0=>hQ σ J m a w (hax.1 h0) hr (Ev.refl n J m w),λi hi=>?_⟩
   obtain⟨x,hx,hag⟩:=hax.2 i hi
   have hlt:i<ops.size:=by
    have:=(qv.1 hi).1
    simpa[Jp]using qz.1 this
   have ho:ops.toList[i]?=some ops[i]:=by simp[hlt]
   obtain⟨imm,hcv⟩:=hk i ops[i] x ho hx
   obtain⟨_,hd,hxd,hg⟩:=Yk hcv
   have hw:=Ws hr hg
   have hrest:=λσ J m a w=>Qbm (n:=n) hl hk (Q:=Q) (κ:=κ) fuel (i::ls) (listed.setIfInBounds i true) σ J m a w (hL.cons hlt) (λj hj=>by
    rcases List.mem_cons.1 hj with rfl | hj
    ·exact hlt
    ·exact hls j hj)
   have hwant:A1 P x σ (λσ'=>AX P xs (Jp ops.toList) fuel (i::ls) σ' κ)->(ops[i]).wp P a w (wpAny P .any ops Q fuel (listed.setIfInBounds i true)) Q:=by
    intro ha1
    refine Qb6 hcv hr (κ:=λr h'=>AX P xs (Jp ops.toList) fuel (i::ls) ⟨Q7 x.d r σ.env,h'⟩ κ) ?_ ?_
    ·unfold A1 at ha1
     unfold Jl
     rw[X4]
     exact ha1
    ·intro r h' J' m' a' w' hκ hr' hev hml
     refine hrest ⟨Q7 x.d r σ.env,h'⟩ J' m' a' w' hκ (by rw[Wd];exact hr') ?_
     intro σ' J'' m'' a'' w'' h1 h2 h3
     exact hQ σ' J'' m'' a'' w'' h1 h2 ((hev n).trans h3)
   have hskip:AX P xs (Jp ops.toList) fuel (i::ls) ⟨Q7 x.d (.t []) σ.env,σ.h⟩ κ->wpAny P .any ops Q fuel (listed.setIfInBounds i true) (a.put (ops[i]).dst undef) w:=by
    intro ha1
    refine hrest ⟨Q7 x.d (.t []) σ.env,σ.h⟩ J m (a.put (ops[i]).dst undef) w ha1 ?_ hQ
    rw[Wd,hxd]
    exact hr.put (Ev.refl 0 J m w) (Ml.refl m) hr.rs hd ⟨#[],rfl,Pw.nil⟩
   have ho':ops[i]?=some ops[i]:=Array.getElem?_eq_getElem hlt
   unfold wpOp
   simp only[ho']
   unfold AG at hag
   cases hxg:x.g with
   | none =>
     rw[hxg]at hw hag
     simp only[Bu]at hw hag
     simp only[hw,if_true]
     exact .inl (hwant hag)
   | some p =>
     obtain⟨t,Qs⟩:=p
     rw[hxg]at hw hag
     simp only[Bu]at hw hag
     unfold Yn at hag
     split at hag
     case h_3=>exact hag.elim
     case h_2 =>
      rename_i hb
      have hw':=hw.2 hb
      simp only[hw',Bool.false_eq_true,if_false]
      exact hskip hag
     rename_i b hb
     have hw':=hw.1 b hb
     simp only[hw']
     by_cases hbw:b=Qs
     ·subst hbw
      simp only[beq_self_eq_true,if_true]
      exact .inl (hwant (hag.1 rfl))
     ·have:(b == Qs)=false:=by simpa using hbw
      simp only[this,Bool.false_eq_true,if_false]
      exact hskip (hag.2 (by cases b<;>cases Qs<;>simp at hbw ⊢))
end Go.Abs
