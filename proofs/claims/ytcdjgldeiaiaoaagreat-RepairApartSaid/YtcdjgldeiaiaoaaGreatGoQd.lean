/- Orient's walk from triangle to triangle: plain laws. -/
import Derived.Test.YtcdjgldeiaiaoaaGreatGoQc
set_option linter.unusedVariables false
set_option linter.unusedSimpArgs false
namespace Go.Abs
def evN (b:Nat) (p:Nat × Nat):V:=.own (p.1+b) p.2 0 p.2
theorem UM.clN {hx:List O} {KJ:List (P2 × (Nat × Nat))} {Q:List (P2 × Int)} (h:UM hx KJ Q) {N b:Nat} (hN:hx.length+b<=N):∀e∈KJ.map (asG P2.enc (evN b)),e.1.cl N=true/\e.2.cl N=true:=by
 intro x hx'
 obtain⟨⟨k,j,n⟩,hm,rfl⟩:=qp.1 hx'
 obtain⟨i,hi⟩:=qr hm
 have:=(q8.1 (h.val i k j n hi).2).1
 refine⟨?_,?_⟩
 ·simp[asG,P2.enc,P2.cs,V.cl,V.cl1,V.cl0]
 ·simp[asG,evN,V.cl,V.cl1,V.cl0];omega
theorem UM.clN2 {hx:List O} {KJ:List (P2 × (Nat × Nat))} {Q:List (P2 × Int)} (h:UM hx KJ Q) {N b:Nat} (hN:hx.length+b<=N):∀(x y:V) (k:P2) (j n:Nat),(k,j,n)∈KJ->asG P2.enc (evN b) (k,j,n)=(x,y)->x.cl N=true/\y.cl N=true:=λx y k j n hm he=>by
 have:=h.clN hN (asG P2.enc (evN b) (k,j,n)) (qp.2 ⟨_,hm,rfl⟩)
 rw[he]at this
 exact this
theorem BfI.next' {ts:List T3} {D S:List Int} {i k:Nat} {v:Int} {E:List P2} (h:BfI ts D S i k v E) (hE:∀a∈Q5 (tAt ts v.toNat),∃b∈E,b.und=a.und):BfK ts D S (k+1):=λk' w hk' hw j hj=>by
 by_cases hkk:k'=k
 ·subst hkk
  rw[h.at_]at hw
  obtain rfl:=Option.some.inj hw
  obtain⟨e,he,hm⟩:=(Qmv hj.lt.1).1 hj
  obtain⟨b,hb,hbe⟩:=hE e he
  exact h.ed b hb _ (by rw[hbe];exact hm)
 ·exact h.bk k' w (by omega) hw j hj
structure Wk (ts:List T3) (L D S:List Int) (k:Nat) (s:OS):Prop where
 x:s.X=D++S
 len:s.us.length=ts.length
 ori:OrI ts s.us L s.X s.fl
 q:s.Q.drop s.off=S.drop k
 off:s.off<=s.Q.length
theorem Wk.ql {ts:List T3} {L D S:List Int} {k:Nat} {s:OS} (w:Wk ts L D S k s):s.Q.length-s.off=S.length-k:=by
 have:=congrArg List.length w.q
 simpa using this
theorem Wk.top {ts:List T3} {L D:List Int} {s:OS} (w:Wk ts L D [] 0 s) {i:Nat} (hi:i<ts.length) (hLi:L[i]?=some (i:Int)) (hn:(i:Int)∉D):Wk ts L D [(i:Int)] 0 (s.visit i ⟨-1,-1⟩):=by
 have hx:s.X=D:=by rw[w.x];simp
 have hne:(⟨-1,-1⟩:P2)∉Q5 (tAt s.us i):=λh=>absurd rfl (Q4t h)
 unfold OS.visit
 rw[if_neg (by rw[hx];exact hn),if_neg hne]
 have hq:=w.q
 simp only[List.drop_nil]at hq
 refine⟨by simp only[hx],w.len,w.ori.top hi (by rw[hx];exact hn) hLi,by simp[hq],by simp⟩
theorem Wk.same {ts:List T3} {L D S:List Int} {k:Nat} {s:OS} (w:Wk ts L D S k s) {j:Nat} {e:P2} (h:(j:Int)∈D++S):s.visit j e=s:=by
 unfold OS.visit;rw[if_pos (by rw[w.x];exact h)]
theorem Wk.pop {ts:List T3} {L D S:List Int} {k:Nat} {s:OS} (w:Wk ts L D S k s) {v:Int} (h:S[k]?=some v):Wk ts L D S (k+1) { s with off:=s.off+1 }/\s.Q[s.off]?=some v:=by
 have hk:=(q8.1 h).1
 have hql:=w.ql
 refine⟨⟨w.x,w.len,w.ori,?_,by show s.off+1<=s.Q.length;omega⟩,?_⟩
 ·have:=congrArg (List.drop 1) w.q
  rw[List.drop_drop,List.drop_drop]at this
  exact this
 ·have:(s.Q.drop s.off)[0]?=(S.drop k)[0]?:=by rw[w.q]
  rw[jd,jd]at this
  simp only[Nat.add_zero]at this
  rw[this];exact h
theorem Wk.visit {ts:List T3} {L D S:List Int} {i k:Nat} {v:Int} {E:List P2} {s:OS} (hL:IsLab ts L) (hLi:L[i]?=some (i:Int)) (w:Wk ts L D S (k+1) s) (hI:BfI ts D S i k v E) {j:Nat} (hj:j<ts.length) (hadj:adjI ts v.toNat j)
  {e b:P2} (he:e∈Q5 (tAt s.us v.toNat)) (hb:b∈Q5 (tAt ts j)) (hbe:b.und=e.und) (hn:(j:Int)∉D++S) :
  Wk ts L D (S++[(j:Int)]) (k+1) (s.visit j e)/\tAt (s.visit j e).us v.toNat=tAt s.us v.toNat:=by
 obtain⟨v0,vc⟩:=hI.part.mem v (qb hI.at_)
 have hvl:=vc.lt.2
 have hk:=(q8.1 hI.at_).1
 have hvX:((v.toNat:Nat):Int)∈s.X:=by
  rw[w.x,Int.toNat_of_nonneg v0]
  exact qg.2 (.inr (qb hI.at_))
 have hnX:(j:Int)∉s.X:=by rw[w.x];exact hn
 have hLj:L[j]? ≠ some (j:Int):=by
  intro hh
  have h1:=hL.conn (vc.trans (.tail (.refl hvl) hadj))
  rw[hLi,hh]at h1
  have h2:=Option.some.inj h1
  apply hn
  rw[<- h2]
  exact qg.2 (.inr hI.part.start)
 have hvj:v.toNat≠j:=by
  rintro rfl
  exact hnX hvX
 have hdr:S.drop (k+1)++[(j:Int)]=(S++[(j:Int)]).drop (k+1):=by rw[List.drop_append_of_le_length (by omega)]
 unfold OS.visit
 rw[if_neg hnX]
 by_cases hE:e∈Q5 (tAt s.us j)
 ·rw[if_pos hE]
  refine⟨⟨by simp only[w.x,j2],by simp only[List.length_set,w.len],w.ori.turn hvl hj hvX hnX hLj he hE,by simp only[List.drop_zero,w.q,hdr],by simp⟩,?_⟩
  simp only
  rw[Uh (by rw[w.len];exact hj),if_neg hvj]
 ·rw[if_neg hE]
  exact⟨⟨by simp only[w.x,j2],w.len,w.ori.keep hvl hj hvX hnX he hE hb hbe,by simp only[List.drop_zero,w.q,hdr],by simp⟩,rfl⟩
theorem Old.xlen {ts:List T3} {L D:List Int} {i:Nat} (h:Old ts L D i):D.length<=ts.length:=by
 have h2:=Uk (B:=(List.range ts.length).map λ(j:Nat)=>(j:Int)) h.nodup λv hv=>by
  obtain⟨j,rfl,hj,_⟩:=(h.iff v).1 hv
  exact qp.2 ⟨j,qz.2 hj,rfl⟩
 simpa using h2
theorem Part.xlen {ts:List T3} {L D S:List Int} {i:Nat} (hD:Old ts L D i) (h:Part ts D S i):(D++S).length<=ts.length:=by
 have h2:=Uk (B:=(List.range ts.length).map λ(j:Nat)=>(j:Int)) h.nodup λv hv=>by
  rcases qg.1 hv with hv | hv
  ·obtain⟨j,rfl,hj,_⟩:=(hD.iff v).1 hv
   exact qp.2 ⟨j,qz.2 hj,rfl⟩
  ·obtain⟨h0,hc⟩:=h.mem v hv
   exact qp.2 ⟨v.toNat,qz.2 hc.lt.2,by omega⟩
 simpa using h2
theorem Old.all {ts:List T3} {L D:List Int} (hL:IsLab ts L) (h:Old ts L D ts.length) (i:Nat) (hi:i<ts.length):(i:Int)∈D:=by
 have hv:L[i]?=some (L[i]'(by rw[hL.len];exact hi)):=q9 _
 generalize L[i]'(by rw[hL.len];exact hi)=v at hv
 have h1:=(hL.con i v hv).2.1
 exact(h.iff _).2 ⟨i,rfl,hi,v,hv,by omega⟩
end Go.Abs
