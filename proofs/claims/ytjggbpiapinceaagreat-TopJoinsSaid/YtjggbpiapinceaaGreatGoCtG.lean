/- Part of the library on which the proof stands: an abstract machine, its values and its soundness against the model; or what functions of the program do to such values. -/
import Derived.Test.YtjggbpiapinceaaGreatGoCtD
import Derived.Test.YtjggbpiapinceaaGreatGoSet
import Derived.Test.YtjggbpiapinceaaGreatAbsSS
import Derived.Test.YtjggbpiapinceaaGreatGoTpD
set_option linter.unusedVariables false
set_option linter.unusedSimpArgs false
set_option maxHeartbeats 8000000
set_option maxRecDepth 20000
namespace Go.Abs
def Q5h (a b:P2):Int:=if a.x<b.x∨(a.x=b.x/\a.y<b.y) then -1 else if a=b then 0 else 1
theorem Jh (a b:P2):ltC Q5h a b=decide (a.x<b.x∨(a.x=b.x/\a.y<b.y)):=by
 unfold ltC Q5h
 by_cases h:a.x<b.x∨(a.x=b.x/\a.y<b.y)
 ·simp[h]
 ·rw[if_neg h]
  by_cases h2:a=b<;>simp[h,h2]
theorem Qhf:Go.Sort.SWO (ltC Q5h) where
 irrefl x:=by rw[Jh];simp
 trans x y z:=by
  rw[Jh,Jh,Jh]
  simp only[decide_eq_true_eq]
  omega
 ntrans x y z:=by
  rw[Jh,Jh,Jh]
  simp only[decide_eq_false_iff_not]
  omega
def Q7z (P:Program) (f:FuncId):Prop:=∀a b:P2,CallIs P f [a.enc,b.enc] (.i .i64 (Q5h a b))
def Ql2 (o:O) (ents:List (V × V)):Prop:=o=.mp ents∨o=.md ents
def Q7s (P:Program) (f:FuncId):Prop:=∀(h:List O) (id:Nat) (o:O) (ents:List (V × V)) (e:P2) (i q g off n:Nat) (els:List (List V)) (v:P2),Ql2 o ents->h[id]?=some o ->
 Qm [1,1] e.enc ents=some (some (i,.own q g off n))->h[q]?=some (.arr g 2 els)->1<=n->off+n<=els.length->els[off]?=some v.cs ->
 ACall P f [.mp id,e.enc] h (λr h'=>r=v.enc/\((n=1/\h'=h.set id (.md (ents.eraseIdx i)))∨(n≠1/\∃o',Ql2 o' (ents.set i (e.enc,.own q g (off+1) (n-1)))/\h'=h.set id o')))
section
variable {P:Program} (hm:P.follows .mixedOrders=true)
include hm
theorem Ig {f:FuncId} (hf:Q9 P f L09.c L09.r L09.n):Q7z P f:=by
 intro a b
 refine PureC.is (Q8 hm hf (qh rfl) ?_) rfl
 unfold L09.c Q5h
 by_cases h1:a.x<b.x
 ·simp[go_sem,P2.enc,P2.cs,h1,L09.r]
 ·by_cases h2:a.x=b.x
  ·by_cases h3:a.y<b.y
   ·simp[go_sem,P2.enc,P2.cs,h2,h3,L09.r]
   ·by_cases h4:a.y=b.y
    ·simp[go_sem,P2.enc,P2.cs,h2,h4,p2_iff,L09.r]
    ·simp[go_sem,P2.enc,P2.cs,h2,h3,h4,p2_iff,L09.r]
  ·have h2':(a.x == b.x)=false:=by simpa using h2
   simp[go_sem,P2.enc,P2.cs,h1,h2,h2',p2_iff,L09.r]
theorem Q1b {f:FuncId} (hf:Q9 P f L0b.c L0b.r L0b.n):Q7s P f:=by
 intro h id o ents e i q g off n els v ho hid hfe hq hn hol hv
 refine Ip λhcl=>?_
 obtain⟨hlt,hid'⟩:=q8.1 hid
 obtain⟨hqt,hq'⟩:=q8.1 hq
 have hvl:=(q8.1 hv).1
 obtain⟨_,hv'⟩:=q8.1 hv
 have hqid:q≠id:=by
  rintro rfl
  rw[hid]at hq
  rcases ho with rfl | rfl<;>simp at hq
 have hqs:∀o',(h.set id o')[q]?=some (.arr g 2 els):=λo'=>by rw[qt (λhh=>hqid hh.symm)];exact hq
 have hqs':∀o' (hh:q<(h.set id o').length),(h.set id o')[q]=.arr g 2 els:=λo' hh=>(q8.1 (hqs o')).2
 have hentcl:∀N,h.length<=N->∀x∈ents,x.1.cl N=true/\x.2.cl N=true:=λN hN x hx=>by
  have:=hcl N hN o (qb hid)
  rcases ho with rfl | rfl<;>exact this x hx
 have hpad:∀(o':O) (l:List O) (N:Nat),h.length<=N->o'.cl N->WeakH N (h.set id o'++l) (h.set id o'):=λo' l N hN ho'=>by
  have:=Qy (n:=N) (a:=l) (b:=[]) (h:=h.set id o') (λo1 h1=>by
   rcases List.mem_or_eq_of_mem_set h1 with h1 | rfl
   ·exact hcl N hN o1 h1
   ·exact ho') (by cases l<;>trivial)
  rwa [List.append_nil]at this
 refine Q3h hm hf (qh rfl) ?_
 unfold L0b.c
 generalize hK:Q5u h.length L0b.r _=K
 simp only[P2.enc,P2.cs]at hfe hv
 have hqa:∀(o':O) (l:List O),(h.set id o'++l)[q]?=some (.arr g 2 els):=λo' l=>by
  rw[qd (by rw[List.length_set];exact hqt)];exact hqs o'
 have g0:∀(o':O) (l:List O),(h.set id o'++l)[h.length]?=l[0]?:=λo' l=>by
  have:=Qh (h.set id o') l
  rwa [List.length_set]at this
 have gk:∀(o':O) (l:List O) (k:Nat),(h.set id o'++l)[h.length+k]?=l[k]?:=λo' l k=>by
  have:=Qc (h.set id o') l k
  rwa [List.length_set]at this
 have sk:∀(o':O) (l:List O) (k:Nat) (x:O),(h.set id o'++l).set (h.length+k) x=h.set id o'++l.set k x:=λo' l k x=>by
  have:=Qp (h.set id o') l k x
  rwa [List.length_set]at this
 have fin:∀(env:List (Nat × V)) (o':O) (x:O),get 4 env=.p (h.length+1) 1 0 0->(∀N,h.length<=N->o'.cl N) ->
   ((n=1/\o'=.md (ents.eraseIdx i))∨(n≠1/\Ql2 o' (ents.set i (e.enc,.own q g (off+1) (n-1))))) ->
   K .r ⟨env,h.set id o'++[x,.arr 1 2 [v.cs]]⟩:=by
  intro env o' x henv hocl hor
  rw[<- hK,Q85]
  refine⟨[v.enc],h.set id o',?_,rfl,?_,by simp,by simp,hpad o' _ _ (by simp) (hocl _ (by simp)),rfl,?_⟩
  ·simp[L0b.r,Xc,henv,gk,Yd,Xd,P2.cs,P2.enc]
  ·simp[P2.enc,P2.cs,V.cl,V.cl1,V.cl0]
  ·rcases hor with⟨a,rfl⟩ | ⟨a,b⟩
   ·exact .inl ⟨a,rfl⟩
   ·exact .inr ⟨a,o',b,rfl⟩
 have hecl:∀N,h.length<=N->(O.md (ents.eraseIdx i)).cl N:=λN hN x hx=>hentcl N hN x (List.mem_of_mem_eraseIdx hx)
 have hscl:∀N,h.length<=N->∀x∈ents.set i (e.enc,.own q g (off+1) (n-1)),x.1.cl N=true/\x.2.cl N=true:=λN hN x hx=>by
  rcases List.mem_or_eq_of_mem_set hx with h1 | rfl
  ·exact hentcl N hN x h1
  ·simp[P2.enc,P2.cs,V.cl,V.cl1,V.cl0];omega
 simp only[P2.enc,P2.cs]at fin hscl
 by_cases h1:n=1
 ·subst h1
  rcases ho with rfl | rfl
  ·simp (disch:=omega) [go_sem,P2.enc,P2.cs,hid,hid',hlt,hqt,hq,hq',hfe,hv,hv',hvl,hqa,gk,g0,sk,Qc,Qh,Qp,Qr,Xl hlt,Ij hlt,Xl hqt]
   exact fin _ _ _ (by simp[go_sem]) hecl (.inl ⟨rfl,rfl⟩)
  ·simp (disch:=omega) [go_sem,P2.enc,P2.cs,hid,hid',hlt,hqt,hq,hq',hfe,hv,hv',hvl,hqa,gk,g0,sk,Qc,Qh,Qp,Qr,Xl hlt,Ij hlt,Xl hqt]
   exact fin _ _ _ (by simp[go_sem]) hecl (.inl ⟨rfl,rfl⟩)
 ·have hn1:¬ ((n:Int)=1):=by omega
  have hn2:(n == 1)=false:=by simpa using h1
  rcases ho with rfl | rfl
  ·simp (disch:=omega) [go_sem,P2.enc,P2.cs,hid,hid',hlt,hqt,hq,hq',hfe,hv,hv',hvl,hqa,gk,g0,sk,h1,hn1,hn,Qc,Qh,Qp,Qr,Xl hlt,Ij hlt,Xl hqt]
   refine⟨by omega,fin _ _ _ ?_ ?_ ?_⟩
   ·simp[go_sem]
   ·exact λN hN=>hscl N hN
   ·exact .inr ⟨h1,.inl rfl⟩
  ·simp (disch:=omega) [go_sem,P2.enc,P2.cs,hid,hid',hlt,hqt,hq,hq',hfe,hv,hv',hvl,hqa,gk,g0,sk,h1,hn1,hn,Qc,Qh,Qp,Qr,Xl hlt,Ij hlt,Xl hqt]
   refine⟨by omega,fin _ _ _ ?_ ?_ ?_⟩
   ·simp[go_sem]
   ·exact λN hN=>hscl N hN
   ·exact .inr ⟨h1,.inr rfl⟩
end
def Wz (L:List (P2 × Int)) (e:P2):Int:=match Z7 e L with | some (_,n)=>n | none=>0
def Kl (L:List (P2 × Int)) (e:P2) (d:Int):List (P2 × Int):=Q93 e (Wz L e+d) L
theorem Q8g (L:List (P2 × Int)) (e:P2):Wz L e=((Z7 e L).map Prod.snd).getD 0:=by
 unfold Wz;cases Z7 e L with
 | none=>rfl
 | some p=>rfl
theorem Iv (L:List (P2 × Int)) (e e':P2) (d:Int):Wz (Kl L e d) e'=Wz L e'+if e'=e then d else 0:=by
 rw[Q8g (Kl L e d),Kl,Qlw]
 by_cases h:e'=e
 ·subst h;simp
 ·rw[if_neg h,if_neg h,<- Q8g];omega
def Qap (L:List (P2 × Int)):Prop:=(L.map Prod.fst).Nodup
theorem Q00 {L:List (P2 × Int)} (h:Qap L) (e:P2) (d:Int):Qap (Kl L e d)/\(Kl L e d).length<=L.length+1/\∀x,x∈(Kl L e d).map Prod.fst↔x∈L.map Prod.fst∨x=e:=by
 have hk:=Qg6 e (Wz L e+d) L
 unfold Qap Kl
 rw[hk]
 have hl:(Q93 e (Wz L e+d) L).length=((Q93 e (Wz L e+d) L).map Prod.fst).length:=by simp
 rw[hl,hk]
 by_cases hm:e∈L.map Prod.fst
 ·rw[if_pos hm]
  refine⟨h,by simp,λx=>⟨.inl,?_⟩⟩
  rintro (hx | rfl)
  ·exact hx
  ·exact hm
 ·rw[if_neg hm]
  refine⟨?_,by simp,λx=>by simp⟩
  rw[List.nodup_append]
  exact⟨h,by simp,λa ha b hb=>by simp at hb;subst hb;rintro rfl;exact hm ha⟩
def K1 (l:List Sg4) (k:Nat):List (P2 × Int):=(l.take k).foldl (λL s=>Kl (Kl L s.eg.1 1) s.eg.2 (-1)) []
theorem Q52 {l:List Sg4} {k:Nat} {s:Sg4} (h:l[k]?=some s):K1 l (k+1)=Kl (Kl (K1 l k) s.eg.1 1) s.eg.2 (-1):=by
 unfold K1
 rw[List.take_add_one,h]
 simp
theorem Q1e (l:List Sg4):∀k,k<=l.length->Qap (K1 l k)/\(K1 l k).length<=2*k/\(∀p,Wz (K1 l k) p=E6 (egs (l.take k)) p)/\∀e∈egs (l.take k),e.1∈(K1 l k).map Prod.fst/\e.2∈(K1 l k).map Prod.fst
 | 0,_=>⟨by simp[K1,Qap],by simp[K1],λp=>by simp[K1,Wz,Z7,E6,egs],by simp[egs]⟩
 | k+1,h=>by
   obtain⟨h1,h2,h3,h4⟩:=Q1e l k (by omega)
   have hq:=Kz (show k<l.length by omega)
   generalize Qbd l k=s at hq
   obtain⟨a1,a2,a3⟩:=Q00 h1 s.eg.1 1
   obtain⟨b1,b2,b3⟩:=Q00 a1 s.eg.2 (-1)
   rw[Q52 hq,Q8i l hq]
   refine⟨b1,by omega,λp=>?_,λe he=>?_⟩
   ·rw[Iv,Iv,h3,Qhk]
    by_cases c1:p=s.eg.1<;>by_cases c2:p=s.eg.2
    ·rw[if_pos c1,if_pos c2,if_pos c1.symm,if_pos c2.symm];omega
    ·rw[if_pos c1,if_neg c2,if_pos c1.symm,if_neg (λh=>c2 h.symm)];omega
    ·rw[if_neg c1,if_pos c2,if_neg (λh=>c1 h.symm),if_pos c2.symm];omega
    ·rw[if_neg c1,if_neg c2,if_neg (λh=>c1 h.symm),if_neg (λh=>c2 h.symm)];omega
   ·rcases qg.1 he with he | he
    ·obtain⟨q1,q2⟩:=h4 e he
     exact⟨(b3 _).2 (.inl ((a3 _).2 (.inl q1))),(b3 _).2 (.inl ((a3 _).2 (.inl q2)))⟩
    ·rw[qn.1 he]
     exact⟨(b3 _).2 (.inl ((a3 _).2 (.inr rfl))),(b3 _).2 (.inr rfl)⟩
theorem Qke (l:List Sg4):Qag (egs l)=(K1 l l.length).all λp=>decide (p.2=0):=by
 obtain⟨h1,h2,h3,h4⟩:=Q1e l l.length (Nat.le_refl _)
 rw[qi]at h3 h4
 have hv:∀p n,(p,n)∈K1 l l.length->n=E6 (egs l) p:=by
  intro p n hp
  obtain⟨i,hi⟩:=qq hp
  have:=Yj h1 hi
  rw[<- h3 p];unfold Wz;rw[this]
 rw[Bool.eq_iff_iff]
 unfold Qag
 rw[qj,qj]
 constructor
 ·rintro h ⟨p,n⟩ hp
  have hb:=balB_iff.1 (qj.2 h:Qag (egs l)=true) p
  have:=hv p n hp
  unfold E6 at this
  simp only[decide_eq_true_eq];omega
 ·intro h e he
  obtain⟨k1,k2⟩:=h4 e he
  obtain⟨⟨p1,n1⟩,m1,rfl⟩:=qo.1 k1
  obtain⟨⟨p2,n2⟩,m2,e2⟩:=qo.1 k2
  have z1:=h _ m1
  have z2:=h _ m2
  have v1:=hv _ _ m1
  have v2:=hv _ _ m2
  simp only[decide_eq_true_eq]at z1 z2
  simp only[]at e2
  rw[e2]at v2
  simp only[Bool.and_eq_true,decide_eq_true_eq]
  exact⟨by omega,by omega⟩
def evI (n:Int):V:=.i .i64 n
theorem Q7r (M:List (P2 × Int)) (n:Nat):∀(a b:V) (x:P2) (y:Int),(x,y)∈M->asG P2.enc evI (x,y)=(a,b)->a.cl n=true/\b.cl n=true:=by
 intro a b x y _ he
 simp only[asG,evI,Prod.mk.injEq]at he
 obtain⟨rfl,rfl⟩:=he
 simp[P2.enc,P2.cs,V.cl,V.cl1,V.cl0]
theorem Q5q {M:List (P2 × Int)} {e:P2} {d:Int} (h1:-100000<=Wz M e+d) (h2:Wz M e+d<=100000) :
  (Qm [1,1] e.enc (M.map (asG P2.enc evI))=some none/\M.map (asG P2.enc evI)++[(e.enc,.i .i64 d)]=(Kl M e d).map (asG P2.enc evI)) ∨
  ∃(i:Nat) (n:Int),Qm [1,1] e.enc (M.map (asG P2.enc evI))=some (some (i,.i .i64 n))/\M[i]?=some (e,n)/\IntKind.i64.wrap (n+d)=n+d /\
   (M.map (asG P2.enc evI)).set i (e.enc,.i .i64 (n+d))=(Kl M e d).map (asG P2.enc evI):=by
 have hf:=Xu W6 evI e M
 unfold Kl Q93
 unfold Wz at *
 cases hfn:Z7 e M with
 | none =>
   rw[hfn]at hf
   refine .inl ⟨hf,?_⟩
   simp[asG,evI]
 | some p =>
   obtain⟨i,n⟩:=p
   rw[hfn]at hf h1 h2
   simp only[]at h1 h2
   refine .inr ⟨i,n,hf,?_,Q3 (by omega) (by omega),?_⟩
   ·exact Zt hfn
   ·rw[List.map_set];rfl
theorem Xg {α β:Type} (f:α->β) (M:List α) (x:β):(M.map f++[x])[M.length]?=some x:=by
 rw[qf (by simp)];simp
theorem Xf {α β:Type} (f:α->β) (M:List α) (x y:β):(M.map f++[x]).set M.length y=M.map f++[y]:=by
 have:=jl (s:=M.map f) (t:=[x]) (x:=y) M.length (by simp)
 rw[this];simp
theorem Xe {α β:Type} (f:α->β) {M:List α} {i:Nat} {y:α} (h:M[i]?=some y) (x:β):((M.map f).set i x)[i]?=some x:=by
 have:=(q8.1 h).1
 rw[qm (by simpa using this)]
def SeenZ (M:List (P2 × Int)) (seen:List Nat):Prop:=∀i∈seen,∀p,M[i]?=some p->p.2=0
section
variable {P:Program} (hm:P.follows .mixedOrders=true)
include hm
theorem U4 {f:FuncId} (hf:Q9 P f L07.c L07.r L07.n):Qoi P f:=by
 intro l hl
 rw[Qke]
 refine PureC.is (Q8 hm hf (qh rfl) ?_) rfl
 unfold L07.c
 simp[go_sem,Y3]
 refine Qj (α:=Nat) (λk=>k<=l.length)
  (λk=>⟨[(3,.mp 0),(9,Y3 l),(10,.i .i64 l.length),(11,.i .i64 k)],[.mp ((K1 l k).map (asG P2.enc evI))]⟩)
  (λk=>l.length-k) 0 (Nat.zero_le _) ?_ ?_
 ·simp[go_sem,Y3,K1]
 ·intro k hk
  by_cases hkl:k=l.length
  ·subst hkl
   obtain⟨h1,h2,_,_⟩:=Q1e l l.length (Nat.le_refl _)
   generalize K1 l l.length=M at *
   generalize hB:(M.all λp=>decide (p.2=0))=B
   simp[go_sem,Y3]
   refine Qj (α:=List Nat) (λseen=>SeenZ M seen)
    (λseen=>⟨[(31,.p 1 1 0 0)],[.mp (M.map (asG P2.enc evI)),.it (some 0) M.length seen]⟩)
    (λseen=>left M.length seen) [] (by simp[SeenZ]) ?_ ?_
   ·simp[go_sem]
    exact Q7r _ _
   ·intro seen hseen
    simp[go_sem,Mnx]
    refine⟨λhall=>?_,?_⟩
    ·obtain rfl:true=B:=by
      rw[<- hB];symm
      rw[qj]
      intro p hp
      obtain⟨i,hi⟩:=qq hp
      simpa using hseen i (hall i (q8.1 hi).1) p hi
     simp[go_sem,L07.r]
    ·rintro i a b e n hi hab hni
     simp only[asG,Prod.mk.injEq]at hab
     obtain⟨rfl,rfl⟩:=hab
     have hil:i<M.length:=(q8.1 hi).1
     have hleft:=Qeb hil hni
     have hgi:(M.map (asG P2.enc evI))[i]?=some (e.enc,.i .i64 n):=by rw[qp,hi];rfl
     simp[go_sem,hi,asG,evI]
     by_cases hn:n=0
     ·subst hn
      simp[go_sem]
      refine⟨seen++[i],?_,hleft,?_,rfl⟩
      case refine_2 =>
       rintro a b x y hxy rfl rfl
       exact Q7r M 2 _ _ x y hxy rfl
      intro j hj p hp
      rcases qg.1 hj with h | h
      ·exact hseen j h p hp
      ·rw[qn.1 h,hi]at hp
       obtain rfl:=Option.some.inj hp
       rfl
     ·obtain rfl:false=B:=by
       rw[<- hB];symm
       rw[List.all_eq_false]
       exact⟨_,qb hi,by simpa using hn⟩
      have hnb:(n != 0)=true:=by simpa using hn
      simp[go_sem,hn,hnb,L07.r]
  ·have hlt:k<l.length:=by omega
   have hq:=Kz hlt
   generalize Qbd l k=s at hq
   obtain⟨_,hq'⟩:=q8.1 hq
   obtain⟨m1,m2,m3,m4⟩:=Q1e l k hk
   have hms:=Q52 hq
   have hb1:=Qes (egs (l.take k)) s.eg.1
   have hb2:=Qes (egs (l.take k)) s.eg.2
   rw[<- m3,Q1j,qv]at hb1 hb2
   have hv2:=Iv (K1 l k) s.eg.1 s.eg.2 1
   generalize K1 l k=M at *
   have hbb:-8200<=Wz (Kl M s.eg.1 1) s.eg.2/\Wz (Kl M s.eg.1 1) s.eg.2<=8200:=by
    rw[hv2];split<;>omega
   have hM2l:(Kl M s.eg.1 1).length<=M.length+1:=(Q00 m1 _ _).2.1
   have R1:=Q5q (M:=M) (e:=s.eg.1) (d:=1) (by omega) (by omega)
   have R2:=Q5q (M:=Kl M s.eg.1 1) (e:=s.eg.2) (d:=-1) (by omega) (by omega)
   rw[<- hms]at R2
   have hcl:=Q7r (K1 l (k+1)) 1
   generalize hM2:K1 l (k+1)=M2 at *
   generalize Kl M s.eg.1 1=M1 at *
   have hk1:s.eg.1.enc=V.a [V.i .i64 s.a.1,V.i .i64 s.a.2]:=rfl
   have hk2:s.eg.2.enc=V.a [V.i .i64 s.b.1,V.i .i64 s.b.2]:=rfl
   have w1:IntKind.i64.wrap 1=1:=rfl
   have wm1:IntKind.i64.wrap (-1)=-1:=rfl
   rw[hk1]at R1
   rw[hk2]at R2
   clear hms hv2
   have e1:∀n:Int,asG P2.enc evI (s.eg.1,n)=(V.a [V.i .i64 s.a.1,V.i .i64 s.a.2],.i .i64 n):=λ_=>rfl
   have e2:∀n:Int,asG P2.enc evI (s.eg.2,n)=(V.a [V.i .i64 s.b.1,V.i .i64 s.b.2],.i .i64 n):=λ_=>rfl
   rcases R1 with⟨a1,a2⟩ | ⟨i,n,a1,a2,a3,a4⟩
   ·rcases R2 with⟨b1,b2⟩ | ⟨i',n',b1,b2,b3,b4⟩
    ·
     simp (disch:=omega) [go_sem,Y3,hlt,hq,hq',Sg4.cs,a1,a2,b1,b2,w1,wm1,Xg,Xf,e1,e2]
     refine⟨k+1,by omega,by omega,Q3 (by omega) (by omega),by rw[hM2],?_⟩
     rw[hM2]
     exact hcl
    ·
     have b3':IntKind.i64.wrap (n'-1)=n'+-1:=b3
     simp (disch:=omega) [go_sem,Y3,hlt,hq,hq',Sg4.cs,a1,a2,b1,b2,b3',b4,Xe _ b2,w1,wm1,Xg,Xf,e1,e2]
     refine⟨k+1,by omega,by omega,Q3 (by omega) (by omega),by rw[hM2],?_⟩
     rw[hM2]
     exact hcl
   ·rcases R2 with⟨b1,b2⟩ | ⟨i',n',b1,b2,b3,b4⟩
    ·
     simp (disch:=omega) [go_sem,Y3,hlt,hq,hq',Sg4.cs,a1,a2,a3,a4,Xe _ a2,b1,b2,w1,wm1,Xg,Xf,e1,e2]
     refine⟨k+1,by omega,by omega,Q3 (by omega) (by omega),by rw[hM2],?_⟩
     rw[hM2]
     exact hcl
    ·
     have b3':IntKind.i64.wrap (n'-1)=n'+-1:=b3
     simp (disch:=omega) [go_sem,Y3,hlt,hq,hq',Sg4.cs,a1,a2,a3,a4,Xe _ a2,b1,b2,b3',b4,Xe _ b2,w1,wm1,Xg,Xf,e1,e2]
     refine⟨k+1,by omega,by omega,Q3 (by omega) (by omega),by rw[hM2],?_⟩
     rw[hM2]
     exact hcl
end
theorem Ub {α β:Type} (f:α->β):∀(l:List α) (i:Nat),(l.map f).eraseIdx i=(l.eraseIdx i).map f
 | [],_=>rfl
 | _::_,0=>rfl
 | a::l,i+1=>by simp[Ub f l i]
theorem Jw {α:Type}:∀(l:List α) (i:Nat) (a:α),l[i]?=some a->l.set i a=l
 | [],_,_,_=>rfl
 | b::l,0,a,h=>by simp at h;simp[h]
 | b::l,i+1,a,h=>by simp at h;simp[Jw l i a h]
structure PI where
 j:Nat
 g:Nat
 o:Nat
 n:Nat
def evP (p:PI):V:=.own p.j p.g p.o p.n
def Q0i (F:P2->List P2) (e:P2) (l:List P2):P2->List P2:=λk=>if k=e then l else F k
theorem Xx (F:P2->List P2) (e:P2) (l:List P2):Q0i F e l e=l:=if_pos rfl
theorem X8 {F:P2->List P2} {e k:P2} {l:List P2} (h:k≠e):Q0i F e l k=F k:=if_neg h
def PF (F:P2->List P2) (R:List Eg):Prop:=∀k,((R.filter λe=>decide (e.1=k)).map Prod.snd).Perm (F k)
theorem PF.mem {F:P2->List P2} {R:List Eg} (h:PF F R) {k v:P2}:v∈F k↔(k,v)∈R:=by
 rw[<- (h k).mem_iff,qo]
 constructor
 ·rintro⟨⟨a,b⟩,he,rfl⟩
  obtain⟨h1,h2⟩:=qu.1 he
  obtain rfl:a=k:=by simpa using h2
  exact h1
 ·intro hv
  exact⟨(k,v),qu.2 ⟨hv,by simp⟩,rfl⟩
theorem PF.take {F:P2->List P2} {R:List Eg} (h:PF F R) {e v:P2} {l:List P2} (he:F e=v::l):∃R',R.Perm ((e,v)::R')/\PF (Q0i F e l) R':=by
 have hm:(e,v)∈R:=h.mem.1 (by rw[he];simp)
 refine⟨R.erase (e,v),List.perm_cons_erase hm,λk=>?_⟩
 have hp:=((List.perm_cons_erase hm).filter λx=>decide (x.1=k)).map Prod.snd
 have hk:=h k
 by_cases hke:k=e
 ·subst hke
  rw[Xx]
  rw[he]at hk
  rw[List.filter_cons,if_pos (by simp),List.map_cons]at hp
  exact(hp.symm.trans hk).cons_inv
 ·rw[X8 hke]
  rw[List.filter_cons,if_neg (by simpa using λh=>hke h.symm)]at hp
  exact hp.symm.trans hk
theorem PF.none {F:P2->List P2} {R:List Eg} (h:PF F R) {k:P2}:F k=[]↔∀e∈R,e.1≠k:=by
 constructor
 ·rintro hk ⟨a,b⟩ he rfl
  have:=h.mem.2 he
  rw[hk]at this;simp at this
 ·intro hn
  refine List.eq_nil_iff_forall_not_mem.2 λv hv=>?_
  exact hn _ (h.mem.1 hv) rfl
structure PoolAt (b:Nat) (h:List O) (id:Nat) (o:O) (KJ:List (P2 × PI)) (F:P2->List P2):Prop where
 mp:Ql2 o (KJ.map (asG P2.enc evP))
 ob:h[id]?=some o
 val:∀(i:Nat) (k:P2) (p:PI),KJ[i]?=some (k,p)->p.n=(F k).length/\1<=p.n/\∃els:List P2,h[p.j]?=some (.arr p.g 2 (els.map P2.cs))/\p.o+p.n<=els.length/\(els.drop p.o).take p.n=F k
 key:(KJ.map Prod.fst).Nodup
 lt:∀(i:Nat) (k:P2) (p:PI),KJ[i]?=some (k,p)->p.j<b
 none:∀e,Z7 e KJ=Option.none->F e=[]
theorem PoolAt.app {b:Nat} {h:List O} {id:Nat} {o:O} {KJ:List (P2 × PI)} {F:P2->List P2} (H:PoolAt b h id o KJ F) (l:List O):PoolAt b (h++l) id o KJ F where
 mp:=H.mp
 ob:=by rw[qd (q8.1 H.ob).1];exact H.ob
 val i k p hi:=by
  obtain⟨h1,h2,els,h3,h4⟩:=H.val i k p hi
  exact⟨h1,h2,els,by rw[qd (q8.1 h3).1];exact h3,h4⟩
 key:=H.key
 lt:=H.lt
 none:=H.none
theorem PoolAt.sub {b:Nat} {h l:List O} {id:Nat} {o:O} {KJ:List (P2 × PI)} {F:P2->List P2} (H:PoolAt b (h++l) id o KJ F) (hb:b<=h.length) (hid:id<h.length):PoolAt b h id o KJ F where
 mp:=H.mp
 ob:=by have:=H.ob;rwa [qd hid]at this
 val i k p hi:=by
  obtain⟨h1,h2,els,h3,h4⟩:=H.val i k p hi
  have:=H.lt i k p hi
  exact⟨h1,h2,els,by rwa [qd (by omega)]at h3,h4⟩
 key:=H.key
 lt:=H.lt
 none:=H.none
theorem Qcj {L:List (P2 × PI)} {i:Nat} {e:P2} {p:PI} (hn:(L.map Prod.fst).Nodup) (hi:L[i]?=some (e,p)):e∉(L.eraseIdx i).map Prod.fst/\∀k,k≠e->(k∈(L.eraseIdx i).map Prod.fst↔k∈L.map Prod.fst):=by
 have hlt:=(q8.1 hi).1
 have hp:L.Perm ((e,p)::L.eraseIdx i):=by
  have h1:=List.eraseIdx_eq_take_drop_succ L i
  have h2:L=L.take i++(e,p)::L.drop (i+1):=by
   have h3:=List.take_append_drop i L
   rw[List.drop_eq_getElem_cons hlt,(q8.1 hi).2]at h3
   exact h3.symm
  rw[h1]
  conv=>lhs;rw[h2]
  exact List.perm_middle
 have hm:=hp.map Prod.fst
 rw[List.map_cons]at hm
 have hnd:=hm.nodup_iff.1 hn
 refine⟨(List.nodup_cons.1 hnd).1,λk hk=>?_⟩
 rw[hm.mem_iff,List.mem_cons]
 simp[hk]
theorem PoolAt.take {b:Nat} {h:List O} {id:Nat} {o:O} {KJ:List (P2 × PI)} {F:P2->List P2} (H:PoolAt b h id o KJ F) {e v:P2} {l:List P2} (he:F e=v::l) :
  ∃(i:Nat) (p:PI) (els:List P2),Z7 e KJ=some (i,p)/\KJ[i]?=some (e,p)/\h[p.j]?=some (.arr p.g 2 (els.map P2.cs))/\1<=p.n/\p.o+p.n<=els.length/\els[p.o]?=some v /\
   ∀o',((p.n=1/\o'=.md ((KJ.map (asG P2.enc evP)).eraseIdx i))∨(p.n≠1/\Ql2 o' ((KJ.map (asG P2.enc evP)).set i (e.enc,.own p.j p.g (p.o+1) (p.n-1))))) ->
    ∃KJ',PoolAt b (h.set id o') id o' KJ' (Q0i F e l):=by
 cases hf:Z7 e KJ with
 | none=>rw[H.none e hf]at he;simp at he
 | some q =>
   obtain⟨i,p⟩:=q
   have hi:=Zt hf
   obtain⟨h1,h2,els,h3,h4,h5⟩:=H.val i e p hi
   have hlt:=(q8.1 H.ob).1
   rw[he]at h1 h5
   simp only[List.length_cons]at h1
   have hv:els[p.o]?=some v:=by
    have h6:=congrArg (λl:List P2=>l[0]?) h5
    simp only[jb,jc]at h6
    rw[if_pos (by omega)]at h6
    simpa using h6
   have hl:(els.drop (p.o+1)).take (p.n-1)=l:=by
    have h6:=congrArg List.tail h5
    simp only[List.tail_cons]at h6
    rw[<- h6,<- List.drop_one,List.drop_take,List.drop_drop]
   refine⟨i,p,els,rfl,hi,h3,h2,h4,hv,?_⟩
   have hkeep:∀(o':O) (j g:Nat) (x:List P2),h[j]?=some (.arr g 2 (x.map P2.cs))->(h.set id o')[j]?=some (.arr g 2 (x.map P2.cs)):=λo' j g x hj=>by
    rw[qt]
    ·exact hj
    ·rintro rfl
     rw[H.ob]at hj
     rcases H.mp with h | h<;>rw[h]at hj<;>simp at hj
   rintro o' (⟨a1,a2⟩ | ⟨a1,a2⟩)
   ·obtain⟨e1,e2⟩:=Qcj H.key hi
    have hl0:l=[]:=ql (by omega)
    refine⟨KJ.eraseIdx i,?_,?_,?_,?_,?_,?_⟩
    ·rw[Ub]at a2;exact .inr a2
    ·rw[qm hlt]
    ·intro i' k p' hk
     have hne:k≠e:=by
      rintro rfl
      exact e1 (qo.2 ⟨_,qb hk,rfl⟩)
     have hm:=List.mem_of_mem_eraseIdx (qb hk)
     obtain⟨i2,hi2⟩:=qq hm
     rw[X8 hne]
     obtain⟨b1,b2,els2,b3,b4⟩:=H.val i2 k p' hi2
     exact⟨b1,b2,els2,hkeep _ _ _ _ b3,b4⟩
    ·exact H.key.sublist ((List.eraseIdx_sublist KJ i).map Prod.fst)
    ·intro i' k p' hk
     obtain⟨i2,hi2⟩:=qq (List.mem_of_mem_eraseIdx (qb hk))
     exact H.lt i2 k p' hi2
    ·intro k hk
     by_cases hke:k=e
     ·subst hke;rw[Xx,hl0]
     ·rw[X8 hke]
      refine H.none k (fndG_none.2 λhm=>?_)
      exact fndG_none.1 hk ((e2 k hke).2 hm)
   ·refine⟨KJ.set i (e,⟨p.j,p.g,p.o+1,p.n-1⟩),?_,?_,?_,?_,?_,?_⟩
    ·rw[List.map_set];exact a2
    ·rw[qm hlt]
    ·intro i' k p' hk
     by_cases hii:i=i'
     ·subst hii
      rw[qm (q8.1 hi).1]at hk
      simp only[Option.some.injEq,Prod.mk.injEq]at hk
      obtain⟨rfl,rfl⟩:=hk
      rw[Xx]
      exact⟨by simp only[];omega,by simp only[];omega,els,hkeep _ _ _ _ h3,by simp only[];omega,hl⟩
     ·rw[qt hii]at hk
      have hne:k≠e:=by
       rintro rfl
       have:=Yj H.key hk
       rw[hf]at this
       simp only[Option.some.injEq,Prod.mk.injEq]at this
       exact hii this.1
      rw[X8 hne]
      obtain⟨b1,b2,els2,b3,b4⟩:=H.val i' k p' hk
      exact⟨b1,b2,els2,hkeep _ _ _ _ b3,b4⟩
    ·have:(KJ.set i (e,(⟨p.j,p.g,p.o+1,p.n-1⟩:PI))).map Prod.fst=KJ.map Prod.fst:=by
      rw[List.map_set]
      exact Jw _ _ _ (by rw[qp,hi];rfl)
     rw[this];exact H.key
    ·intro i' k p' hk
     by_cases hii:i=i'
     ·subst hii
      rw[qm (q8.1 hi).1]at hk
      simp only[Option.some.injEq,Prod.mk.injEq]at hk
      obtain⟨rfl,rfl⟩:=hk
      exact H.lt i _ p hi
     ·rw[qt hii]at hk
      exact H.lt i' k p' hk
    ·intro k hk
     rw[Ia hf]at hk
     split at hk
     ·simp at hk
     ·rename_i hne
      rw[X8 hne]
      exact H.none k hk
end Go.Abs
