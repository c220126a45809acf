/- Part of the library on which the proof stands: an abstract machine, its values and its soundness against the model; or what functions of the program do to such values. -/
import Derived.Test.YtjggbpiapinceaaGreatGoSecH
import Derived.Test.YtjggbpiapinceaaGreatGoSkN
set_option linter.unusedVariables false
set_option linter.unusedSimpArgs false
set_option maxHeartbeats 4000000
namespace Go.Abs
def Qtn (P:Program) (f:FuncId):Prop:=∀(l:List P2) (e:P2),l.length<=1000->CallIs P f [psV l,e.enc] (.b (decide (e∈l)))
def Qtl (P:Program) (f:FuncId):Prop:=∀(l:List P2) (e:P2),l.length<=1000->CallIs P f [psV l,e.enc] (.i .i64 (if e∈l then (l.idxOf e:Int) else -1))
structure HB (H:O->O->O->O->O->List O) (n a sa b tb c d q:Nat):Prop where
 len:∃N,∀s t u v w,(H s t u v w).length=N
 ga:∀s t u v w l,(H s t u v w++l)[a]?=some (.arr 1 1 [[.own sa 1 0 n]])
 gs:∀s t u v w l,(H s t u v w++l)[sa]?=some s
 gb:∀s t u v w l,(H s t u v w++l)[b]?=some (.arr 1 1 [[.own tb 1 0 n]])
 gt:∀s t u v w l,(H s t u v w++l)[tb]?=some t
 gc:∀s t u v w l,(H s t u v w++l)[c]?=some u
 gd:∀s t u v w l,(H s t u v w++l)[d]?=some v
 gq:∀s t u v w l,(H s t u v w++l)[q]?=some w
 ss:∀s t u v w l o,(H s t u v w++l).set sa o=H o t u v w++l
 st:∀s t u v w l o,(H s t u v w++l).set tb o=H s o u v w++l
 sc:∀s t u v w l o,(H s t u v w++l).set c o=H s t o v w++l
 sd:∀s t u v w l o,(H s t u v w++l).set d o=H s t u o w++l
 sq:∀s t u v w l o,(H s t u v w++l).set q o=H s t u v o++l
structure OS where
 X:List Int
 us:List T3
 fl:Nat
 g:Nat
 off:Nat
 Q:List Int
def oH (H:O->O->O->O->O->List O) (n q:Nat) (s:OS):List O :=
 H (.arr 1 1 (mk n s.X)) (.arr 1 3 (s.us.map T3.cs)) (.arr 1 1 [[.i .i64 s.fl]]) (.arr 1 1 [[.own q s.g s.off (s.Q.length-s.off)]]) (.arr s.g 1 (ics s.Q))
def OS.visit (s:OS) (k:Nat) (e:P2):OS :=
 if (k:Int)∈s.X then s
 else if e∈Q6 (tAt s.us k) then ⟨s.X++[(k:Int)],s.us.set k (tAt s.us k).rev,s.fl+1,s.g+1,0,s.Q.drop s.off++[(k:Int)]⟩
 else ⟨s.X++[(k:Int)],s.us,s.fl,s.g+1,0,s.Q.drop s.off++[(k:Int)]⟩
def Qhw (P:Program) (f:FuncId):Prop:=∀(H:O->O->O->O->O->List O) (n a sa b tb c d q:Nat),HB H n a sa b tb c d q->∀(s:OS) (l:List O) (k:Nat) (e:P2),s.us.length=n->k<n->n<=4096->s.fl<=4096->s.off<=s.Q.length->s.Q.length-s.off<=8192 ->
 ACall P f [.i .i64 k,e.enc,.p a 1 0 0,.p b 1 0 0,.p c 1 0 0,.p d 1 0 0] (oH H n q s++l) (λr h'=>r=.t []/\h'=oH H n q (s.visit k e)++(l++[.arr 1 2 [e.cs]]))
theorem idx_at {l:List P2} {e x:P2} {k:Nat} (hp:l[k]?=some x) (hn:e∉l.take k) (h:e=x):e∈l/\l.idxOf e=k:=by
 subst h
 have hlt:=(q8.1 hp).1
 refine⟨qb hp,?_⟩
 have h1:=List.take_append_drop k l
 rw[List.drop_eq_getElem_cons hlt,(q8.1 hp).2]at h1
 have h2:(l.take k++e::l.drop (k+1)).idxOf e=k:=by
  rw[List.idxOf_append,if_neg hn,List.idxOf_cons_self];simp;omega
 rw[h1]at h2
 exact h2
section
variable {P:Program} (hm:P.follows .mixedOrders=true)
include hm
theorem Q5b {f:FuncId} (hf:Qa P f L0p.c L0p.r L0p.n):Qnk P f:=Jx hm hf
theorem Q1h {f:FuncId} (hf:Qa P f L1w.c L1w.r L1w.n):Qtl P f:=by
 intro l e hl
 refine PureC.is (Q8 hm hf (qh rfl) ?_) rfl
 unfold L1w.c
 simp[go_sem,psV,P2.enc,P2.cs]
 refine Qf (α:=Nat) (λk=>k<=l.length/\e∉l.take k)
  (λk=>⟨[(0,psV l),(3,.p 0 1 0 0),(6,psV l),(7,.i .i64 l.length),(8,.i .i64 k)],[.arr 1 2 [e.cs]]⟩)
  (λk=>l.length-k) 0 ⟨Nat.zero_le _,by simp⟩ ?_ ?_
 ·simp[go_sem,psV,P2.cs]
 ·rintro k ⟨hk,hn⟩
  by_cases hkl:k=l.length
  ·subst hkl
   rw[qi]at hn
   simp[go_sem,psV,L1w.r,hn]
  ·have hlt:k<l.length:=by omega
   have hp:l[k]?=some l[k]:=q9 hlt
   have htk:=Qd hp
   have hx:=idx_at (e:=e) hp hn
   generalize l[k]=t at hp htk hx
   obtain⟨_,hp'⟩:=q8.1 hp
   simp[go_sem,psV,hlt,hp,hp',pcs]
   refine⟨λh1 h2=>?_,λh=>?_⟩
   ·have het:e=t:=p2_ext h1 h2
    have:=hx het
    simp[go_sem,L1w.r,this]
   ·have het:¬ e=t:=λhh=>h (by rw[hh]) (by rw[hh])
    simp (disch:=omega) [go_sem,psV,Q3]
    exact⟨k+1,⟨by omega,by rw[htk];simp[hn,het]⟩,by omega,by omega⟩
theorem I2 {f fi:FuncId} (hf:Qa P f (L1v.c fi) L1v.r L1v.n) (hi:Qtl P fi):Qtn P f:=by
 intro l e hl
 refine PureC.is (Q8 hm hf (qh rfl) ?_) rfl
 unfold L1v.c
 have h1:=hi l e hl
 simp[go_sem,psV,P2.enc,P2.cs]at h1 ⊢
 refine Q4 h1 ?_
 by_cases h:e∈l
 ·simp[go_sem,h,L1v.r]
 ·simp[go_sem,h,L1v.r]
theorem Q3c {f fe fh fr:FuncId} (hf:Qa P f (L0n.c fe fh fr) L0n.r L0n.n) (he:Wz P fe) (hh:Qtn P fh) (hr:Qjt P fr):Qhw P f:=by
 intro H n a sa b tb c d q hb s l k e hus hk hn hfl hoff hQ
 refine Q2g hm hf (qh rfl) ?_
 unfold L0n.c
 have ga:=hb.ga
 have gs:=hb.gs
 have gb:=hb.gb
 have gt:=hb.gt
 have gc:=hb.gc
 have gd:=hb.gd
 have gq:=hb.gq
 have ss:=hb.ss
 have st:=hb.st
 have sc:=hb.sc
 have sd:=hb.sd
 have sq:=hb.sq
 obtain⟨N,hN⟩:=hb.len
 have gx:∀s t u v w (o:O),(H s t u v w++(l++[o]))[N+l.length]?=some o:=λs t u v w o=>by
  rw[<- hN s t u v w,Q9,Qb];rfl
 clear hb
 have hmg:=Qgn (n:=n) (d:=s.X) (v:=(k:Int)) (by omega) (by omega)
 have hms:=Qgm (n:=n) (d:=s.X) (v:=(k:Int)) (by omega)
 rw[Int.toNat_natCast]at hmg hms
 obtain⟨hml,hmg'⟩:=q8.1 hmg
 have hlen:(Q6 (tAt s.us k)).length<=3:=Yi _ 3
 have hp:s.us[k]?=some (tAt s.us k):=Qr (by omega)
 have hps:∀t:T3,(s.us.map T3.cs).set k t.cs=(s.us.set k t).map T3.cs:=λt=>by rw[List.map_set]
 unfold oH OS.visit
 have hic:(ics s.Q).drop s.off=ics (s.Q.drop s.off):=by simp[ics]
 have hil:(ics s.Q).length=s.Q.length:=by simp[ics]
 have htk:(ics (s.Q.drop s.off)).take (s.Q.length-s.off)=ics (s.Q.drop s.off):=qe (by simp[ics])
 have hsn:∀Z:List Int,ics (Z++[(k:Int)])=ics Z++[[.i .i64 (k:Int)]]:=λZ=>by simp[ics]
 have hzl:∀Z:List Int,(Z++[(k:Int)]).length=Z.length+1:=λZ=>by simp
 have hdl:(s.Q.drop s.off).length=s.Q.length-s.off:=by simp
 obtain⟨X,us,fl,g,off,Q⟩:=s
 simp only at *
 generalize hic2:ics Q=C at *
 generalize hD:Q.drop off=D at *
 by_cases hX:(k:Int)∈X
 ·rw[decide_eq_true hX]at hmg hmg'
  simp (disch:=omega) [go_sem,P2.enc,P2.cs,hN,gx,ga,gs,hml,hmg,hmg',hX,L0n.r]
  exact⟨hk,by rw[hic2]⟩
 ·rw[decide_eq_false hX]at hmg hmg'
  have he1:=he (tAt us k)
  have hh1:=hh (Q6 (tAt us k)) e (by omega)
  have hr1:=hr (tAt us k)
  generalize tAt us k=t at *
  obtain⟨hpl,hp'⟩:=q8.1 hp
  simp[go_sem,T3.enc,tcs,P2.enc,P2.cs]at he1 hh1 hr1
  simp (disch:=omega) [go_sem,P2.enc,P2.cs,hN,gx,ga,gs,gb,gt,gc,gd,gq,ss,st,sc,sd,sq,hml,hmg,hmg',hms,hX,hpl,hp,hp',tcs]
  refine⟨hk,?_⟩
  refine Qp he1 ?_
  simp[go_sem,hN,gx,ga,gs,gb,gt,gc,gd,gq,ss,st,sc,sd,sq]
  refine Qp hh1 ?_
  by_cases hE:e∈Q6 t
  ·simp (disch:=omega) [go_sem,hE,hN,gx,ga,gs,gb,gt,gc,gd,gq,ss,st,sc,sd,sq,hpl,hp,hp',tcs]
   refine⟨hk,?_⟩
   refine Qp hr1 ?_
   simp (disch:=omega) [go_sem,hN,gx,ga,gs,gb,gt,gc,gd,gq,ss,st,sc,sd,sq,hpl,hp,hp',tcs,hic,hil,htk,hsn,hzl,hdl,Q3,L0n.r]
   exact⟨hk,by omega,by omega⟩
  ·simp (disch:=omega) [go_sem,hE,hN,gx,ga,gs,gb,gt,gc,gd,gq,ss,st,sc,sd,sq,hpl,hp,hp',tcs,hic,hil,htk,hsn,hzl,hdl,Q3,L0n.r]
   exact⟨by omega,by omega⟩
end
def evN (b:Nat) (p:Nat × Nat):V:=.own (p.1+b) p.2 0 p.2
theorem UM.clN {hx:List O} {KJ:List (P2 × (Nat × Nat))} {Q:List (P2 × Int)} (h:UM hx KJ Q) {N b:Nat} (hN:hx.length+b<=N):∀e∈KJ.map (asG P2.enc (evN b)),e.1.cl N=true/\e.2.cl N=true:=by
 intro x hx'
 obtain⟨⟨k,j,n⟩,hm,rfl⟩:=qp.1 hx'
 obtain⟨i,hi⟩:=qr hm
 have:=(q8.1 (h.val i k j n hi).2).1
 refine⟨?_,?_⟩
 ·simp[asG,P2.enc,P2.cs,V.cl,V.cl1,V.cl0]
 ·simp[asG,evN,V.cl,V.cl1,V.cl0];omega
theorem UM.clN2 {hx:List O} {KJ:List (P2 × (Nat × Nat))} {Q:List (P2 × Int)} (h:UM hx KJ Q) {N b:Nat} (hN:hx.length+b<=N):∀(x y:V) (k:P2) (j n:Nat),(k,j,n)∈KJ->asG P2.enc (evN b) (k,j,n)=(x,y)->x.cl N=true/\y.cl N=true:=λx y k j n hm he=>by
 have:=h.clN hN (asG P2.enc (evN b) (k,j,n)) (qp.2 ⟨_,hm,rfl⟩)
 rw[he]at this
 exact this
theorem BfI.next' {ts:List T3} {D S:List Int} {i k:Nat} {v:Int} {E:List P2} (h:BfI ts D S i k v E) (hE:∀a∈Q6 (tAt ts v.toNat),∃b∈E,b.und=a.und):BfK ts D S (k+1):=λk' w hk' hw j hj=>by
 by_cases hkk:k'=k
 ·subst hkk
  rw[h.at_]at hw
  obtain rfl:=Option.some.inj hw
  obtain⟨e,he,hm⟩:=(Qso hj.lt.1).1 hj
  obtain⟨b,hb,hbe⟩:=hE e he
  exact h.ed b hb _ (by rw[hbe];exact hm)
 ·exact h.bk k' w (by omega) hw j hj
structure Wk (ts:List T3) (L D S:List Int) (k:Nat) (s:OS):Prop where
 x:s.X=D++S
 len:s.us.length=ts.length
 ori:OrI ts s.us L s.X s.fl
 q:s.Q.drop s.off=S.drop k
 off:s.off<=s.Q.length
theorem Wk.ql {ts:List T3} {L D S:List Int} {k:Nat} {s:OS} (w:Wk ts L D S k s):s.Q.length-s.off=S.length-k:=by
 have:=congrArg List.length w.q
 simpa using this
theorem Wk.top {ts:List T3} {L D:List Int} {s:OS} (w:Wk ts L D [] 0 s) {i:Nat} (hi:i<ts.length) (hLi:L[i]?=some (i:Int)) (hn:(i:Int)∉D):Wk ts L D [(i:Int)] 0 (s.visit i ⟨-1,-1⟩):=by
 have hx:s.X=D:=by rw[w.x];simp
 have hne:(⟨-1,-1⟩:P2)∉Q6 (tAt s.us i):=λh=>absurd rfl (Q6h h)
 unfold OS.visit
 rw[if_neg (by rw[hx];exact hn),if_neg hne]
 have hq:=w.q
 simp only[List.drop_nil]at hq
 refine⟨by simp only[hx],w.len,w.ori.top hi (by rw[hx];exact hn) hLi,by simp[hq],by simp⟩
theorem Wk.same {ts:List T3} {L D S:List Int} {k:Nat} {s:OS} (w:Wk ts L D S k s) {j:Nat} {e:P2} (h:(j:Int)∈D++S):s.visit j e=s:=by
 unfold OS.visit;rw[if_pos (by rw[w.x];exact h)]
theorem Wk.pop {ts:List T3} {L D S:List Int} {k:Nat} {s:OS} (w:Wk ts L D S k s) {v:Int} (h:S[k]?=some v):Wk ts L D S (k+1) { s with off:=s.off+1 }/\s.Q[s.off]?=some v:=by
 have hk:=(q8.1 h).1
 have hql:=w.ql
 refine⟨⟨w.x,w.len,w.ori,?_,by show s.off+1<=s.Q.length;omega⟩,?_⟩
 ·have:=congrArg (List.drop 1) w.q
  rw[List.drop_drop,List.drop_drop]at this
  exact this
 ·have:(s.Q.drop s.off)[0]?=(S.drop k)[0]?:=by rw[w.q]
  rw[jd,jd]at this
  simp only[Nat.add_zero]at this
  rw[this];exact h
theorem Wk.visit {ts:List T3} {L D S:List Int} {i k:Nat} {v:Int} {E:List P2} {s:OS} (hL:IsLab ts L) (hLi:L[i]?=some (i:Int)) (w:Wk ts L D S (k+1) s) (hI:BfI ts D S i k v E) {j:Nat} (hj:j<ts.length) (hadj:adjI ts v.toNat j)
  {e b:P2} (he:e∈Q6 (tAt s.us v.toNat)) (hb:b∈Q6 (tAt ts j)) (hbe:b.und=e.und) (hn:(j:Int)∉D++S) :
  Wk ts L D (S++[(j:Int)]) (k+1) (s.visit j e)/\tAt (s.visit j e).us v.toNat=tAt s.us v.toNat:=by
 obtain⟨v0,vc⟩:=hI.part.mem v (qb hI.at_)
 have hvl:=vc.lt.2
 have hk:=(q8.1 hI.at_).1
 have hvX:((v.toNat:Nat):Int)∈s.X:=by
  rw[w.x,Int.toNat_of_nonneg v0]
  exact qg.2 (.inr (qb hI.at_))
 have hnX:(j:Int)∉s.X:=by rw[w.x];exact hn
 have hLj:L[j]? ≠ some (j:Int):=by
  intro hh
  have h1:=hL.conn (vc.trans (.tail (.refl hvl) hadj))
  rw[hLi,hh]at h1
  have h2:=Option.some.inj h1
  apply hn
  rw[<- h2]
  exact qg.2 (.inr hI.part.start)
 have hvj:v.toNat≠j:=by
  rintro rfl
  exact hnX hvX
 have hdr:S.drop (k+1)++[(j:Int)]=(S++[(j:Int)]).drop (k+1):=by rw[List.drop_append_of_le_length (by omega)]
 unfold OS.visit
 rw[if_neg hnX]
 by_cases hE:e∈Q6 (tAt s.us j)
 ·rw[if_pos hE]
  refine⟨⟨by simp only[w.x,j3],by simp only[List.length_set,w.len],w.ori.turn hvl hj hvX hnX hLj he hE,by simp only[List.drop_zero,w.q,hdr],by simp⟩,?_⟩
  simp only
  rw[Ee (by rw[w.len];exact hj),if_neg hvj]
 ·rw[if_neg hE]
  exact⟨⟨by simp only[w.x,j3],w.len,w.ori.keep hvl hj hvX hnX he hE hb hbe,by simp only[List.drop_zero,w.q,hdr],by simp⟩,rfl⟩
theorem Old.xlen {ts:List T3} {L D:List Int} {i:Nat} (h:Old ts L D i):D.length<=ts.length:=by
 have h2:=Xc (B:=(List.range ts.length).map λ(j:Nat)=>(j:Int)) h.nodup λv hv=>by
  obtain⟨j,rfl,hj,_⟩:=(h.iff v).1 hv
  exact qp.2 ⟨j,qz.2 hj,rfl⟩
 simpa using h2
theorem Part.xlen {ts:List T3} {L D S:List Int} {i:Nat} (hD:Old ts L D i) (h:Part ts D S i):(D++S).length<=ts.length:=by
 have h2:=Xc (B:=(List.range ts.length).map λ(j:Nat)=>(j:Int)) h.nodup λv hv=>by
  rcases qg.1 hv with hv | hv
  ·obtain⟨j,rfl,hj,_⟩:=(hD.iff v).1 hv
   exact qp.2 ⟨j,qz.2 hj,rfl⟩
  ·obtain⟨h0,hc⟩:=h.mem v hv
   exact qp.2 ⟨v.toNat,qz.2 hc.lt.2,by omega⟩
 simpa using h2
theorem Old.all {ts:List T3} {L D:List Int} (hL:IsLab ts L) (h:Old ts L D ts.length) (i:Nat) (hi:i<ts.length):(i:Int)∈D:=by
 have hv:L[i]?=some (L[i]'(by rw[hL.len];exact hi)):=q9 _
 generalize L[i]'(by rw[hL.len];exact hi)=v at hv
 have h1:=(hL.con i v hv).2.1
 exact(h.iff _).2 ⟨i,rfl,hi,v,hv,by omega⟩
end Go.Abs
