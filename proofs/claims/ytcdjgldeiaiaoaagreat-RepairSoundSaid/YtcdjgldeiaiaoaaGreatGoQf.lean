/- The reference's way of orienting: plain laws. -/
import Derived.Test.YtcdjgldeiaiaoaaGreatGoQe
set_option linter.unusedVariables false
set_option linter.unusedSimpArgs false
namespace Go.Abs
def sameB (a b:T3):Bool:=(edgesOf a).any fun x=>(edgesOf b).any fun y=>decide (x = y)
def oppB (a b:T3):Bool:=(edgesOf a).any fun x=>(edgesOf b).any fun y=>decide (x = y.rev)
theorem sameB_iff {a b:T3}:sameB a b = true ↔ ∃ e ∈ edgesOf a,e ∈ edgesOf b:=by
 unfold sameB
 simp only [List.any_eq_true,decide_eq_true_eq]
 constructor
 ·rintro⟨x,hx,y,hy,rfl⟩;exact⟨x,hx,hy⟩
 ·rintro⟨x,hx,hy⟩;exact⟨x,hx,x,hy,rfl⟩
theorem oppB_iff {a b:T3}:oppB a b = true ↔ ∃ e ∈ edgesOf a,e.rev ∈ edgesOf b:=by
 unfold oppB
 simp only [List.any_eq_true,decide_eq_true_eq]
 constructor
 ·rintro⟨x,hx,y,hy,rfl⟩;exact⟨y.rev,hx,hy⟩
 ·rintro⟨x,hx,hy⟩;exact⟨x,hx,x.rev,hy,rfl⟩
theorem OrI.bad {ts us:List T3} {L X:List Int} {n:Nat} (h:OrI ts us L X n) {k:Nat} (hk:k < ts.length) (hno:∀ vs,¬ Good ts vs L):OrI ts us L (X ++ [(k:Int)]) n :=
 ⟨h.fl,fun i hi hn=>h.new i hi fun hh=>hn (mem_snoc.2 (.inl hh)),h.first,by have:=h.num;simp;omega,fun vs hv=>absurd hv (hno vs)⟩
theorem OrI.spread {ts us:List T3} {L X:List Int} {n:Nat} (h:OrI ts us L X n) {i k:Nat} (hi:i < ts.length) (hk:k < ts.length) (hix:(i:Int) ∈ X) (hx:(k:Int) ∉ X) (hLk:L[k]? ≠ some (k:Int))
  (hb:(sameB (tAt us i) (tAt us k) || oppB (tAt us i) (tAt us k)) = true) :
  ∃ n',OrI ts (if (sameB (tAt us i) (tAt us k) && !oppB (tAt us i) (tAt us k)) = true then us.set k (tAt us k).rev else us) L (X ++ [(k:Int)]) n':=by
 cases hs:sameB (tAt us i) (tAt us k) <;> cases ho:oppB (tAt us i) (tAt us k)
 ·rw [hs,ho] at hb;simp at hb
 ·rw [if_neg (by simp)]
  obtain⟨e,h1,h2⟩:=oppB_iff.1 ho
  refine⟨n,h.keep hi hk hix hx h1 (fun hh=>?_) (b:=e.rev) (by rw [← h.new k hk hx];exact h2) (rev_und e)⟩
  rw [sameB_iff.2 ⟨e,h1,hh⟩] at hs
  simp at hs
 ·rw [if_pos (by simp)]
  obtain⟨e,h1,h2⟩:=sameB_iff.1 hs
  exact⟨n + 1,h.turn hi hk hix hx hLk h1 h2⟩
 ·rw [if_neg (by simp)]
  refine⟨n,h.bad hk fun vs hv=>?_⟩
  obtain⟨h1,_⟩:=h.good vs hv
  obtain⟨e,e1,e2⟩:=sameB_iff.1 hs
  obtain⟨e',e3,e4⟩:=oppB_iff.1 ho
  have hvi:=h1 i hi hix
  have hvl:=hv.fl.len
  have huk:=h.new k hk hx
  rcases hv.fl.tat hk with h3 | h3
  ·have hik:=hv.coh i k e (by omega) (by omega) (by rw [← hvi];exact e1) (by rw [h3,← huk];exact e2)
   subst hik;exact hx hix
  ·have hik:=hv.coh i k e' (by omega) (by omega) (by rw [← hvi];exact e3) (by rw [h3,mem_edges_rev,← huk];exact e4)
   subst hik;exact hx hix
structure RI (ts us:List T3) (L X0 sh Y0 Y:List Int) (i k:Nat):Prop where
 ori:∃ n,OrI ts us L (X0 ++ Y) n
 nodup:Y.Nodup
 sub:∀ v ∈ Y,v ∈ sh
 old:∀ v ∈ Y0,v ∈ Y
 near:∀ (i' k':Nat) (v w:Int),(i' < i ∨ (i' = i∧k' < k))→sh[i']? = some v→sh[k']? = some w→v ∈ Y0→adjI ts v.toNat w.toNat→w ∈ Y
theorem RI.row {ts us:List T3} {L X0 sh Y0 Y:List Int} {i:Nat} (h:RI ts us L X0 sh Y0 Y i sh.length):RI ts us L X0 sh Y0 Y (i + 1) 0 :=
 ⟨h.ori,h.nodup,h.sub,h.old,fun i' k' v w hik hv hw h0 ha=>by
  have hk:=(List.getElem?_eq_some_iff.1 hw).1
  exact h.near i' k' v w (by omega) hv hw h0 ha⟩
theorem RI.skip {ts us:List T3} {L X0 sh Y0 Y:List Int} {i k:Nat} (h:RI ts us L X0 sh Y0 Y i k) (hs:∀ v w:Int,sh[i]? = some v→sh[k]? = some w→v ∈ Y0→adjI ts v.toNat w.toNat→w ∈ Y):RI ts us L X0 sh Y0 Y i (k + 1) :=
 ⟨h.ori,h.nodup,h.sub,h.old,fun i' k' v w hik hv hw h0 ha=>by
  by_cases hh:i' = i∧k' = k
  ·obtain⟨rfl,rfl⟩:=hh
   exact hs v w hv hw h0 ha
  ·exact h.near i' k' v w (by omega) hv hw h0 ha⟩
theorem RI.add {ts us us':List T3} {L X0 sh Y0 Y:List Int} {i k:Nat} {w:Int} (h:RI ts us L X0 sh Y0 Y i k) (hw:sh[k]? = some w) (hn:w ∉ Y) (ho:∃ n,OrI ts us' L (X0 ++ Y ++ [w]) n):RI ts us' L X0 sh Y0 (Y ++ [w]) i (k + 1) :=
 ⟨by rwa [List.append_assoc] at ho,by
  rw [List.nodup_append]
  exact⟨h.nodup,by simp,fun a ha b hb=>by simp at hb;subst hb;rintro rfl;exact hn ha⟩,fun v hv=>by
  rcases List.mem_append.1 hv with hv | hv
  ·exact h.sub v hv
  ·simp at hv;subst hv;exact List.mem_of_getElem? hw,fun v hv=>List.mem_append.2 (.inl (h.old v hv)),fun i' k' v w' hik hv hw' h0 ha=>by
  by_cases hh:i' = i∧k' = k
  ·obtain⟨rfl,rfl⟩:=hh
   rw [hw] at hw'
   obtain rfl:=Option.some.inj hw'
   simp
  ·exact List.mem_append.2 (.inl (h.near i' k' v w' (by omega) hv hw' h0 ha))⟩
theorem RI.more {ts us:List T3} {L X0 sh Y0 Y:List Int} {q:Nat} (hL:IsLab ts L) (hsh:sh = shK L q ts.length) (hq:q < ts.length) (hLq:L[q]? = some (q:Int)) (hn0:Y0.Nodup) (hq0:(q:Int) ∈ Y0)
  (h:RI ts us L X0 sh Y0 Y sh.length 0):(∀ w ∈ sh,w ∈ Y0) ∨ Y0.length + 1 ≤ Y.length:=by
 by_cases hall:∀ w ∈ sh,w ∈ Y0
 ·exact .inl hall
 ·refine .inr ?_
  have hex:∃ v w:Int,v ∈ Y0∧w ∈ sh∧w ∉ Y0∧adjI ts v.toNat w.toNat:=by
   refine Classical.byContradiction fun hno=>hall fun w hw=>?_
   have hmem:∀ j:Nat,Conn ts q j→(j:Int) ∈ sh:=fun j hj=>by
    rw [hsh]
    exact mem_shK2.2 ⟨j,rfl,hj.lt.2,by rw [← hL.conn hj];exact hLq⟩
   have hclo:∀ j:Nat,Conn ts q j→(j:Int) ∈ Y0:=by
    intro j hj
    induction hj with
    | refl _=>exact hq0
    | @tail a b h1 h2 ih =>
      refine Classical.byContradiction fun hnb=>hno ⟨_,_,ih,hmem b (.tail h1 h2),hnb,by rw [Int.toNat_natCast,Int.toNat_natCast];exact h2⟩
   rw [hsh] at hw
   obtain⟨j,rfl,hj,hLj⟩:=mem_shK2.1 hw
   exact hclo j ((hL.conn_iff hq hj).2 (by rw [hLq,hLj]))
  obtain⟨v,w,hv,hw,hnw,ha⟩:=hex
  obtain⟨i',hi'⟩:=List.getElem?_of_mem (h.sub v (h.old v hv))
  obtain⟨k',hk'⟩:=List.getElem?_of_mem hw
  have hwY:=h.near i' k' v w (.inl (List.getElem?_eq_some_iff.1 hi').1) hi' hk' hv ha
  have:=nodup_len (A:=Y0 ++ [w]) (B:=Y) (by
   rw [List.nodup_append]
   exact⟨hn0,by simp,fun a ha0 b hb=>by simp at hb;subst hb;rintro rfl;exact hnw ha0⟩) (fun a ha=>by
   rcases List.mem_append.1 ha with ha | ha
   ·exact h.old a ha
   ·simp at ha;subst ha;exact hwY)
  simpa using this
end Go.Abs
