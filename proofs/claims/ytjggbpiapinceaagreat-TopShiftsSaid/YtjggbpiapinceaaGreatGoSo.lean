/- Part of the library on which the proof stands: an abstract machine, its values and its soundness against the model; or what functions of the program do to such values. -/
import Derived.Test.YtjggbpiapinceaaGreatGoSp
set_option linter.unusedVariables false
set_option linter.unusedSimpArgs false
namespace Go.Abs
def evU (p:Nat × Nat):V:=.own (p.1+2) p.2 0 p.2
structure UM (hx:List O) (KJ:List (P2 × (Nat × Nat))) (Q:List (P2 × Int)):Prop where
 val:∀(i:Nat) (k:P2) (j n:Nat),KJ[i]?=some (k,(j,n))->n=(usL Q k).length/\hx[j]?=some (.arr n 1 (ics (usL Q k)))
 dis:∀(i i':Nat) (k k':P2) (j n n':Nat),KJ[i]?=some (k,(j,n))->KJ[i']?=some (k',(j,n'))->i=i'
 key:(KJ.map Prod.fst).Nodup
 none:∀e,Z6 e KJ=none->usL Q e=[]
theorem UM.nil:UM [] [] []:=⟨by simp,by simp,by simp,by simp[usL]⟩
theorem UM.app {hx:List O} {KJ:List (P2 × (Nat × Nat))} {Q:List (P2 × Int)} (h:UM hx KJ Q) (l:List O):UM (hx++l) KJ Q :=
 ⟨λi k j n hi=>by obtain⟨h1,h2⟩:=h.val i k j n hi;exact⟨h1,by rw[qd (q8.1 h2).1];exact h2⟩,h.dis,h.key,h.none⟩
theorem UM.new {hx:List O} {KJ:List (P2 × (Nat × Nat))} {Q:List (P2 × Int)} (h:UM hx KJ Q) {e:P2} {v:Int} (he:Z6 e KJ=Option.none) {l:List O} {j0:Nat} (hj:hx.length<=j0) (ho:(hx++l)[j0]?=some (.arr 1 1 (ics [v]))) :
  UM (hx++l) (KJ++[(e,(j0,1))]) (Q++[(e,v)]):=by
 have hn:=h.none e he
 have hk:=fndG_none.1 he
 have hval:∀(i:Nat) (k:P2) (j n:Nat),(KJ++[(e,(j0,1))])[i]?=some (k,(j,n))->(i<KJ.length/\KJ[i]?=some (k,(j,n))/\k≠e/\j<hx.length)∨(i=KJ.length/\k=e/\j=j0/\n=1):=by
  intro i k j n hi
  by_cases hl:i<KJ.length
  ·rw[qd hl]at hi
   refine .inl ⟨hl,hi,?_,(q8.1 (h.val i k j n hi).2).1⟩
   rintro rfl
   exact hk (qo.2 ⟨_,qb hi,rfl⟩)
  ·rw[qf (by omega)]at hi
   have h0:i-KJ.length=0:=by
    have:=(q8.1 hi).1
    simp at this;omega
   rw[h0]at hi
   simp at hi
   exact .inr ⟨by omega,hi.1.symm,hi.2.1.symm,hi.2.2.symm⟩
 refine⟨λi k j n hi=>?_,λi i' k k' j n n' h1 h2=>?_,?_,λa ha=>?_⟩
 ·rcases hval i k j n hi with⟨_,h1,h2,_⟩ | ⟨_,rfl,rfl,rfl⟩
  ·have:=(h.app l).val i k j n h1
   rw[Jv,if_neg (λhh=>h2 hh.symm)]
   exact this
  ·rw[Jv,if_pos rfl,hn]
   exact⟨rfl,ho⟩
 ·rcases hval i k j n h1 with⟨_,a1,_,a2⟩ | ⟨a1,_,a2,_⟩<;>rcases hval i' k' j n' h2 with⟨_,b1,_,b2⟩ | ⟨b1,_,b2,_⟩
  ·exact h.dis i i' k k' j n n' a1 b1
  ·omega
  ·omega
  ·omega
 ·rw[qw,List.nodup_append]
  exact⟨h.key,by simp,λa ha b hb=>by simp at hb;subst hb;rintro rfl;exact hk ha⟩
 ·have hne:a≠e:=by
   rintro rfl
   rw[Wg he,if_pos rfl]at ha;simp at ha
  rw[Wg he,if_neg hne]at ha
  rw[Jv,if_neg (λhh=>hne hh.symm)]
  exact h.none a ha
theorem UM.old {hx:List O} {KJ:List (P2 × (Nat × Nat))} {Q:List (P2 × Int)} (h:UM hx KJ Q) {e:P2} {v:Int} {p j n:Nat} (he:Z6 e KJ=some (p,(j,n))) :
  UM (hx.set j (.arr (n+1) 1 (ics (usL Q e)++[[.i .i64 v]]))) (KJ.set p (e,(j,n+1))) (Q++[(e,v)]):=by
 have hp:=Zq he
 have hpl:=(q8.1 hp).1
 obtain⟨hn,hj⟩:=h.val p e j n hp
 have hjl:=(q8.1 hj).1
 have hval:∀(i:Nat) (k:P2) (j' n':Nat),(KJ.set p (e,(j,n+1)))[i]?=some (k,(j',n'))->(i≠p/\KJ[i]?=some (k,(j',n'))/\k≠e/\j'≠j)∨(i=p/\k=e/\j'=j/\n'=n+1):=by
  intro i k j' n' hi
  by_cases hip:p=i
  ·subst hip
   rw[qm hpl]at hi
   simp at hi
   exact .inr ⟨rfl,hi.1.symm,hi.2.1.symm,hi.2.2.symm⟩
  ·rw[qt hip]at hi
   refine .inl ⟨λhh=>hip hh.symm,hi,?_,?_⟩
   ·rintro rfl
    have:=Yf h.key hi
    rw[he]at this
    simp at this
    exact hip this.1
   ·rintro rfl
    exact hip (h.dis p i _ _ _ _ _ hp hi)
 refine⟨λi k j' n' hi=>?_,λi i' k k' j' n1 n2 h1 h2=>?_,?_,λa ha=>?_⟩
 ·rcases hval i k j' n' hi with⟨_,h1,h2,h3⟩ | ⟨rfl,rfl,rfl,rfl⟩
  ·rw[Jv,if_neg (λhh=>h2 hh.symm),qt (λhh=>h3 hh.symm)]
   exact h.val i k j' n' h1
  ·rw[Jv,if_pos rfl,qm hjl]
   exact⟨by rw[hn];simp,by simp[ics]⟩
 ·rcases hval i k j' n1 h1 with⟨a0,a1,_,a2⟩ | ⟨a1,_,a2,_⟩<;>rcases hval i' k' j' n2 h2 with⟨b0,b1,_,b2⟩ | ⟨b1,_,b2,_⟩
  ·exact h.dis i i' k k' j' n1 n2 a1 b1
  ·exact absurd b2 a2
  ·exact absurd a2 b2
  ·omega
 ·have:(KJ.set p (e,(j,n+1))).map Prod.fst=KJ.map Prod.fst:=by
   rw[List.map_set]
   apply qx
   intro i
   by_cases hi:p=i
   ·subst hi
    rw[qm (by simpa using hpl),qp,hp];rfl
   ·rw[qt hi]
  rw[this];exact h.key
 ·rw[Ij he]at ha
  split at ha
  ·simp at ha
  ·rename_i hne
   rw[Jv,if_neg (λhh=>hne hh.symm)]
   exact h.none a ha
theorem UM.cl {hx:List O} {KJ:List (P2 × (Nat × Nat))} {Q:List (P2 × Int)} (h:UM hx KJ Q) {N:Nat} (hN:hx.length+2<=N):∀e∈KJ.map (asG P2.enc evU),e.1.cl N=true/\e.2.cl N=true:=by
 intro x hx'
 obtain⟨⟨k,j,n⟩,hm,rfl⟩:=qo.1 hx'
 obtain⟨i,hi⟩:=qq hm
 have:=(q8.1 (h.val i k j n hi).2).1
 refine⟨?_,?_⟩
 ·simp[asG,P2.enc,P2.cs,V.cl,V.cl1,V.cl0]
 ·simp[asG,evU,V.cl,V.cl1,V.cl0];omega
theorem Flt.set {hx:List O} (h:Flt hx) {j:Nat} {o:O} (ho:∀n,o.cl n):Flt (hx.set j o):=λx hx' n=>by
 rcases List.mem_or_eq_of_mem_set hx' with h1 | rfl
 ·exact h x h1 n
 ·exact ho n
theorem lsV_nil:Le .nil (lsV []):=.inl (.inl (Le0.nil 1))
end Go.Abs
