/- Part of the library on which the proof stands: an abstract machine, its values and its soundness against the model; or what functions of the program do to such values. -/
import Derived.Test.YtnaehggpjfdenaaGreatGoRpB
import Derived.Test.YtnaehggpjfdenaaGreatGoMapG
import Derived.Test.YtnaehggpjfdenaaGreatAbsSS
import Derived.Test.YtnaehggpjfdenaaGreatGoTpD
set_option linter.unusedVariables false
set_option linter.unusedSimpArgs false
set_option maxHeartbeats 8000000
set_option maxRecDepth 20000
namespace Go.Abs
def Q6u (a b:P2):Int:=if a.x<b.x∨(a.x=b.x/\a.y<b.y) then -1 else if a=b then 0 else 1
theorem Jn (a b:P2):ltC Q6u a b=decide (a.x<b.x∨(a.x=b.x/\a.y<b.y)):=by
 unfold ltC Q6u
 by_cases h:a.x<b.x∨(a.x=b.x/\a.y<b.y)
 ·simp[h]
 ·rw[if_neg h]
  by_cases h2:a=b<;>simp[h,h2]
theorem Qjc:Go.Sort.SWO (ltC Q6u) where
 irrefl x:=by rw[Jn];simp
 trans x y z:=by
  rw[Jn,Jn,Jn]
  simp only[decide_eq_true_eq]
  omega
 ntrans x y z:=by
  rw[Jn,Jn,Jn]
  simp only[decide_eq_false_iff_not]
  omega
def Q9g (P:Program) (f:FuncId):Prop:=∀a b:P2,CallIs P f [a.enc,b.enc] (.i .i64 (Q6u a b))
def Qn4 (o:O) (ents:List (V × V)):Prop:=o=.mp ents∨o=.md ents
def Q99 (P:Program) (f:FuncId):Prop:=∀(h:List O) (id:Nat) (o:O) (ents:List (V × V)) (e:P2) (i q g off n:Nat) (els:List (List V)) (v:P2),Qn4 o ents->h[id]?=some o ->
 Ql [1,1] e.enc ents=some (some (i,.own q g off n))->h[q]?=some (.arr g 2 els)->1<=n->off+n<=els.length->els[off]?=some v.cs ->
 ACall P f [.mp id,e.enc] h (λr h'=>r=v.enc/\((n=1/\h'=h.set id (.md (ents.eraseIdx i)))∨(n≠1/\∃o',Qn4 o' (ents.set i (e.enc,.own q g (off+1) (n-1)))/\h'=h.set id o')))
section
variable {P:Program} (hm:P.follows .mixedOrders=true)
include hm
theorem B4 {f:FuncId} (hf:Q9 P f L05.c L05.r L05.n):Q9g P f:=by
 intro a b
 refine PureC.is (Q8 hm hf (qj rfl) ?_) rfl
 unfold L05.c Q6u
 by_cases h1:a.x<b.x
 ·simp[go_sem,P2.enc,P2.cs,h1,L05.r]
 ·by_cases h2:a.x=b.x
  ·by_cases h3:a.y<b.y
   ·simp[go_sem,P2.enc,P2.cs,h2,h3,L05.r]
   ·by_cases h4:a.y=b.y
    ·simp[go_sem,P2.enc,P2.cs,h2,h4,p2_iff,L05.r]
    ·simp[go_sem,P2.enc,P2.cs,h2,h3,h4,p2_iff,L05.r]
  ·have h2':(a.x == b.x)=false:=by simpa using h2
   simp[go_sem,P2.enc,P2.cs,h1,h2,h2',p2_iff,L05.r]
theorem Q27 {f:FuncId} (hf:Q9 P f L07.c L07.r L07.n):Q99 P f:=by
 intro h id o ents e i q g off n els v ho hid hfe hq hn hol hv
 refine Bf λhcl=>?_
 obtain⟨hlt,hid'⟩:=qa.1 hid
 obtain⟨hqt,hq'⟩:=qa.1 hq
 have hvl:=(qa.1 hv).1
 obtain⟨_,hv'⟩:=qa.1 hv
 have hqid:q≠id:=by
  rintro rfl
  rw[hid]at hq
  rcases ho with rfl | rfl<;>simp at hq
 have hqs:∀o',(h.set id o')[q]?=some (.arr g 2 els):=λo'=>by rw[qv (λhh=>hqid hh.symm)];exact hq
 have hqs':∀o' (hh:q<(h.set id o').length),(h.set id o')[q]=.arr g 2 els:=λo' hh=>(qa.1 (hqs o')).2
 have hentcl:∀N,h.length<=N->∀x∈ents,x.1.cl N=true/\x.2.cl N=true:=λN hN x hx=>by
  have:=hcl N hN o (qe hid)
  rcases ho with rfl | rfl<;>exact this x hx
 have hpad:∀(o':O) (l:List O) (N:Nat),h.length<=N->o'.cl N->WeakH N (h.set id o'++l) (h.set id o'):=λo' l N hN ho'=>by
  have:=Qy (n:=N) (a:=l) (b:=[]) (h:=h.set id o') (λo1 h1=>by
   rcases List.mem_or_eq_of_mem_set h1 with h1 | rfl
   ·exact hcl N hN o1 h1
   ·exact ho') (by cases l<;>trivial)
  rwa [List.append_nil]at this
 refine Q4c hm hf (qj rfl) ?_
 unfold L07.c
 generalize hK:Q73 h.length L07.r _=K
 simp only[P2.enc,P2.cs]at hfe hv
 have hqa:∀(o':O) (l:List O),(h.set id o'++l)[q]?=some (.arr g 2 els):=λo' l=>by
  rw[qf (by rw[List.length_set];exact hqt)];exact hqs o'
 have g0:∀(o':O) (l:List O),(h.set id o'++l)[h.length]?=l[0]?:=λo' l=>by
  have:=Qg (h.set id o') l
  rwa [List.length_set]at this
 have gk:∀(o':O) (l:List O) (k:Nat),(h.set id o'++l)[h.length+k]?=l[k]?:=λo' l k=>by
  have:=Qd (h.set id o') l k
  rwa [List.length_set]at this
 have sk:∀(o':O) (l:List O) (k:Nat) (x:O),(h.set id o'++l).set (h.length+k) x=h.set id o'++l.set k x:=λo' l k x=>by
  have:=Qo (h.set id o') l k x
  rwa [List.length_set]at this
 have fin:∀(env:List (Nat × V)) (o':O) (x:O),get 4 env=.p (h.length+1) 1 0 0->(∀N,h.length<=N->o'.cl N) ->
   ((n=1/\o'=.md (ents.eraseIdx i))∨(n≠1/\Qn4 o' (ents.set i (e.enc,.own q g (off+1) (n-1))))) ->
   K .r ⟨env,h.set id o'++[x,.arr 1 2 [v.cs]]⟩:=by
  intro env o' x henv hocl hor
  rw[<- hK,Q9n]
  refine⟨[v.enc],h.set id o',?_,rfl,?_,by simp,by simp,hpad o' _ _ (by simp) (hocl _ (by simp)),rfl,?_⟩
  ·simp[L07.r,Yj,henv,gk,Yf,Xu,P2.cs,P2.enc]
  ·simp[P2.enc,P2.cs,V.cl,V.cl1,V.cl0]
  ·rcases hor with⟨a,rfl⟩ | ⟨a,b⟩
   ·exact .inl ⟨a,rfl⟩
   ·exact .inr ⟨a,o',b,rfl⟩
 have hecl:∀N,h.length<=N->(O.md (ents.eraseIdx i)).cl N:=λN hN x hx=>hentcl N hN x (List.mem_of_mem_eraseIdx hx)
 have hscl:∀N,h.length<=N->∀x∈ents.set i (e.enc,.own q g (off+1) (n-1)),x.1.cl N=true/\x.2.cl N=true:=λN hN x hx=>by
  rcases List.mem_or_eq_of_mem_set hx with h1 | rfl
  ·exact hentcl N hN x h1
  ·simp[P2.enc,P2.cs,V.cl,V.cl1,V.cl0];omega
 simp only[P2.enc,P2.cs]at fin hscl
 by_cases h1:n=1
 ·subst h1
  rcases ho with rfl | rfl
  ·simp (disch:=omega) [go_sem,P2.enc,P2.cs,hid,hid',hlt,hqt,hq,hq',hfe,hv,hv',hvl,hqa,gk,g0,sk,Qd,Qg,Qo,Qt,Xq hlt,B8 hlt,Xq hqt]
   exact fin _ _ _ (by simp[go_sem]) hecl (.inl ⟨rfl,rfl⟩)
  ·simp (disch:=omega) [go_sem,P2.enc,P2.cs,hid,hid',hlt,hqt,hq,hq',hfe,hv,hv',hvl,hqa,gk,g0,sk,Qd,Qg,Qo,Qt,Xq hlt,B8 hlt,Xq hqt]
   exact fin _ _ _ (by simp[go_sem]) hecl (.inl ⟨rfl,rfl⟩)
 ·have hn1:¬ ((n:Int)=1):=by omega
  have hn2:(n == 1)=false:=by simpa using h1
  rcases ho with rfl | rfl
  ·simp (disch:=omega) [go_sem,P2.enc,P2.cs,hid,hid',hlt,hqt,hq,hq',hfe,hv,hv',hvl,hqa,gk,g0,sk,h1,hn1,hn,Qd,Qg,Qo,Qt,Xq hlt,B8 hlt,Xq hqt]
   refine⟨by omega,fin _ _ _ ?_ ?_ ?_⟩
   ·simp[go_sem]
   ·exact λN hN=>hscl N hN
   ·exact .inr ⟨h1,.inl rfl⟩
  ·simp (disch:=omega) [go_sem,P2.enc,P2.cs,hid,hid',hlt,hqt,hq,hq',hfe,hv,hv',hvl,hqa,gk,g0,sk,h1,hn1,hn,Qd,Qg,Qo,Qt,Xq hlt,B8 hlt,Xq hqt]
   refine⟨by omega,fin _ _ _ ?_ ?_ ?_⟩
   ·simp[go_sem]
   ·exact λN hN=>hscl N hN
   ·exact .inr ⟨h1,.inr rfl⟩
end
def Ug (L:List (P2 × Int)) (e:P2):Int:=match Z8 e L with | some (_,n)=>n | none=>0
def Ku (L:List (P2 × Int)) (e:P2) (d:Int):List (P2 × Int):=Qas e (Ug L e+d) L
theorem Qa0 (L:List (P2 × Int)) (e:P2):Ug L e=((Z8 e L).map Prod.snd).getD 0:=by
 unfold Ug;cases Z8 e L with
 | none=>rfl
 | some p=>rfl
theorem Bj (L:List (P2 × Int)) (e e':P2) (d:Int):Ug (Ku L e d) e'=Ug L e'+if e'=e then d else 0:=by
 rw[Qa0 (Ku L e d),Ku,Qnw]
 by_cases h:e'=e
 ·subst h;simp
 ·rw[if_neg h,if_neg h,<- Qa0];omega
def Qci (L:List (P2 × Int)):Prop:=(L.map Prod.fst).Nodup
theorem Q0p {L:List (P2 × Int)} (h:Qci L) (e:P2) (d:Int):Qci (Ku L e d)/\(Ku L e d).length<=L.length+1/\∀x,x∈(Ku L e d).map Prod.fst↔x∈L.map Prod.fst∨x=e:=by
 have hk:=Qi1 e (Ug L e+d) L
 unfold Qci Ku
 rw[hk]
 have hl:(Qas e (Ug L e+d) L).length=((Qas e (Ug L e+d) L).map Prod.fst).length:=by simp
 rw[hl,hk]
 by_cases hm:e∈L.map Prod.fst
 ·rw[if_pos hm]
  refine⟨h,by simp,λx=>⟨.inl,?_⟩⟩
  rintro (hx | rfl)
  ·exact hx
  ·exact hm
 ·rw[if_neg hm]
  refine⟨?_,by simp,λx=>by simp⟩
  rw[List.nodup_append]
  exact⟨h,by simp,λa ha b hb=>by simp at hb;subst hb;rintro rfl;exact hm ha⟩
def Kc (l:List Sg4) (k:Nat):List (P2 × Int):=(l.take k).foldl (λL s=>Ku (Ku L s.eg.1 1) s.eg.2 (-1)) []
theorem Q6g {l:List Sg4} {k:Nat} {s:Sg4} (h:l[k]?=some s):Kc l (k+1)=Ku (Ku (Kc l k) s.eg.1 1) s.eg.2 (-1):=by
 unfold Kc
 rw[List.take_add_one,h]
 simp
theorem Q2b (l:List Sg4):∀k,k<=l.length->Qci (Kc l k)/\(Kc l k).length<=2*k/\(∀p,Ug (Kc l k) p=Ey (egs (l.take k)) p)/\∀e∈egs (l.take k),e.1∈(Kc l k).map Prod.fst/\e.2∈(Kc l k).map Prod.fst
 | 0,_=>⟨by simp[Kc,Qci],by simp[Kc],λp=>by simp[Kc,Ug,Z8,Ey,egs],by simp[egs]⟩
 | k+1,h=>by
   obtain⟨h1,h2,h3,h4⟩:=Q2b l k (by omega)
   have hq:=W7 (show k<l.length by omega)
   generalize Qd8 l k=s at hq
   obtain⟨a1,a2,a3⟩:=Q0p h1 s.eg.1 1
   obtain⟨b1,b2,b3⟩:=Q0p a1 s.eg.2 (-1)
   rw[Q6g hq,Qa5 l hq]
   refine⟨b1,by omega,λp=>?_,λe he=>?_⟩
   ·rw[Bj,Bj,h3,Qji]
    by_cases c1:p=s.eg.1<;>by_cases c2:p=s.eg.2
    ·rw[if_pos c1,if_pos c2,if_pos c1.symm,if_pos c2.symm];omega
    ·rw[if_pos c1,if_neg c2,if_pos c1.symm,if_neg (λh=>c2 h.symm)];omega
    ·rw[if_neg c1,if_pos c2,if_neg (λh=>c1 h.symm),if_pos c2.symm];omega
    ·rw[if_neg c1,if_neg c2,if_neg (λh=>c1 h.symm),if_neg (λh=>c2 h.symm)];omega
   ·rcases qi.1 he with he | he
    ·obtain⟨q1,q2⟩:=h4 e he
     exact⟨(b3 _).2 (.inl ((a3 _).2 (.inl q1))),(b3 _).2 (.inl ((a3 _).2 (.inl q2)))⟩
    ·rw[qp.1 he]
     exact⟨(b3 _).2 (.inl ((a3 _).2 (.inr rfl))),(b3 _).2 (.inr rfl)⟩
theorem Qmd (l:List Sg4):Qc8 (egs l)=(Kc l l.length).all λp=>decide (p.2=0):=by
 obtain⟨h1,h2,h3,h4⟩:=Q2b l l.length (Nat.le_refl _)
 rw[qk]at h3 h4
 have hv:∀p n,(p,n)∈Kc l l.length->n=Ey (egs l) p:=by
  intro p n hp
  obtain⟨i,hi⟩:=qt hp
  have:=Yl h1 hi
  rw[<- h3 p];unfold Ug;rw[this]
 rw[Bool.eq_iff_iff]
 unfold Qc8
 rw[ql,ql]
 constructor
 ·rintro h ⟨p,n⟩ hp
  have hb:=balB_iff.1 (ql.2 h:Qc8 (egs l)=true) p
  have:=hv p n hp
  unfold Ey at this
  simp only[decide_eq_true_eq];omega
 ·intro h e he
  obtain⟨k1,k2⟩:=h4 e he
  obtain⟨⟨p1,n1⟩,m1,rfl⟩:=qq.1 k1
  obtain⟨⟨p2,n2⟩,m2,e2⟩:=qq.1 k2
  have z1:=h _ m1
  have z2:=h _ m2
  have v1:=hv _ _ m1
  have v2:=hv _ _ m2
  simp only[decide_eq_true_eq]at z1 z2
  simp only[]at e2
  rw[e2]at v2
  simp only[Bool.and_eq_true,decide_eq_true_eq]
  exact⟨by omega,by omega⟩
def evI (n:Int):V:=.i .i64 n
theorem Q98 (M:List (P2 × Int)) (n:Nat):∀(a b:V) (x:P2) (y:Int),(x,y)∈M->asG P2.enc evI (x,y)=(a,b)->a.cl n=true/\b.cl n=true:=by
 intro a b x y _ he
 simp only[asG,evI,Prod.mk.injEq]at he
 obtain⟨rfl,rfl⟩:=he
 simp[P2.enc,P2.cs,V.cl,V.cl1,V.cl0]
theorem Q70 {M:List (P2 × Int)} {e:P2} {d:Int} (h1:-100000<=Ug M e+d) (h2:Ug M e+d<=100000) :
  (Ql [1,1] e.enc (M.map (asG P2.enc evI))=some none/\M.map (asG P2.enc evI)++[(e.enc,.i .i64 d)]=(Ku M e d).map (asG P2.enc evI)) ∨
  ∃(i:Nat) (n:Int),Ql [1,1] e.enc (M.map (asG P2.enc evI))=some (some (i,.i .i64 n))/\M[i]?=some (e,n)/\IntKind.i64.wrap (n+d)=n+d /\
   (M.map (asG P2.enc evI)).set i (e.enc,.i .i64 (n+d))=(Ku M e d).map (asG P2.enc evI):=by
 have hf:=Xy Wd evI e M
 unfold Ku Qas
 unfold Ug at *
 cases hfn:Z8 e M with
 | none =>
   rw[hfn]at hf
   refine .inl ⟨hf,?_⟩
   simp[asG,evI]
 | some p =>
   obtain⟨i,n⟩:=p
   rw[hfn]at hf h1 h2
   simp only[]at h1 h2
   refine .inr ⟨i,n,hf,?_,Q3 (by omega) (by omega),?_⟩
   ·exact Zt hfn
   ·rw[List.map_set];rfl
theorem Xl {α β:Type} (f:α->β) (M:List α) (x:β):(M.map f++[x])[M.length]?=some x:=by
 rw[qh (by simp)];simp
theorem Xk {α β:Type} (f:α->β) (M:List α) (x y:β):(M.map f++[x]).set M.length y=M.map f++[y]:=by
 have:=jl (s:=M.map f) (t:=[x]) (x:=y) M.length (by simp)
 rw[this];simp
theorem Xj {α β:Type} (f:α->β) {M:List α} {i:Nat} {y:α} (h:M[i]?=some y) (x:β):((M.map f).set i x)[i]?=some x:=by
 have:=(qa.1 h).1
 rw[qo (by simpa using this)]
def SeenZ (M:List (P2 × Int)) (seen:List Nat):Prop:=∀i∈seen,∀p,M[i]?=some p->p.2=0
section
variable {P:Program} (hm:P.follows .mixedOrders=true)
include hm
theorem Uq {f:FuncId} (hf:Q9 P f L03.c L03.r L03.n):Qql P f:=by
 intro l hl
 rw[Qmd]
 refine PureC.is (Q8 hm hf (qj rfl) ?_) rfl
 unfold L03.c
 simp[go_sem,Y9]
 refine Qi (α:=Nat) (λk=>k<=l.length)
  (λk=>⟨[(3,.mp 0),(9,Y9 l),(10,.i .i64 l.length),(11,.i .i64 k)],[.mp ((Kc l k).map (asG P2.enc evI))]⟩)
  (λk=>l.length-k) 0 (Nat.zero_le _) ?_ ?_
 ·simp[go_sem,Y9,Kc]
 ·intro k hk
  by_cases hkl:k=l.length
  ·subst hkl
   obtain⟨h1,h2,_,_⟩:=Q2b l l.length (Nat.le_refl _)
   generalize Kc l l.length=M at *
   generalize hB:(M.all λp=>decide (p.2=0))=B
   simp[go_sem,Y9]
   refine Qi (α:=List Nat) (λseen=>SeenZ M seen)
    (λseen=>⟨[(31,.p 1 1 0 0)],[.mp (M.map (asG P2.enc evI)),.it (some 0) M.length seen]⟩)
    (λseen=>left M.length seen) [] (by simp[SeenZ]) ?_ ?_
   ·simp[go_sem]
    exact Q98 _ _
   ·intro seen hseen
    simp[go_sem,Mnx]
    refine⟨λhall=>?_,?_⟩
    ·obtain rfl:true=B:=by
      rw[<- hB];symm
      rw[ql]
      intro p hp
      obtain⟨i,hi⟩:=qt hp
      simpa using hseen i (hall i (qa.1 hi).1) p hi
     simp[go_sem,L03.r]
    ·rintro i a b e n hi hab hni
     simp only[asG,Prod.mk.injEq]at hab
     obtain⟨rfl,rfl⟩:=hab
     have hil:i<M.length:=(qa.1 hi).1
     have hleft:=Qg1 hil hni
     have hgi:(M.map (asG P2.enc evI))[i]?=some (e.enc,.i .i64 n):=by rw[qr,hi];rfl
     simp[go_sem,hi,asG,evI]
     by_cases hn:n=0
     ·subst hn
      simp[go_sem]
      refine⟨seen++[i],?_,hleft,?_,rfl⟩
      case refine_2 =>
       rintro a b x y hxy rfl rfl
       exact Q98 M 2 _ _ x y hxy rfl
      intro j hj p hp
      rcases qi.1 hj with h | h
      ·exact hseen j h p hp
      ·rw[qp.1 h,hi]at hp
       obtain rfl:=Option.some.inj hp
       rfl
     ·obtain rfl:false=B:=by
       rw[<- hB];symm
       rw[List.all_eq_false]
       exact⟨_,qe hi,by simpa using hn⟩
      have hnb:(n != 0)=true:=by simpa using hn
      simp[go_sem,hn,hnb,L03.r]
  ·have hlt:k<l.length:=by omega
   have hq:=W7 hlt
   generalize Qd8 l k=s at hq
   obtain⟨_,hq'⟩:=qa.1 hq
   obtain⟨m1,m2,m3,m4⟩:=Q2b l k hk
   have hms:=Q6g hq
   have hb1:=Qgk (egs (l.take k)) s.eg.1
   have hb2:=Qgk (egs (l.take k)) s.eg.2
   rw[<- m3,Q2g,qx]at hb1 hb2
   have hv2:=Bj (Kc l k) s.eg.1 s.eg.2 1
   generalize Kc l k=M at *
   have hbb:-8200<=Ug (Ku M s.eg.1 1) s.eg.2/\Ug (Ku M s.eg.1 1) s.eg.2<=8200:=by
    rw[hv2];split<;>omega
   have hM2l:(Ku M s.eg.1 1).length<=M.length+1:=(Q0p m1 _ _).2.1
   have R1:=Q70 (M:=M) (e:=s.eg.1) (d:=1) (by omega) (by omega)
   have R2:=Q70 (M:=Ku M s.eg.1 1) (e:=s.eg.2) (d:=-1) (by omega) (by omega)
   rw[<- hms]at R2
   have hcl:=Q98 (Kc l (k+1)) 1
   generalize hM2:Kc l (k+1)=M2 at *
   generalize Ku M s.eg.1 1=M1 at *
   have hk1:s.eg.1.enc=V.a [V.i .i64 s.a.1,V.i .i64 s.a.2]:=rfl
   have hk2:s.eg.2.enc=V.a [V.i .i64 s.b.1,V.i .i64 s.b.2]:=rfl
   have w1:IntKind.i64.wrap 1=1:=rfl
   have wm1:IntKind.i64.wrap (-1)=-1:=rfl
   rw[hk1]at R1
   rw[hk2]at R2
   clear hms hv2
   have e1:∀n:Int,asG P2.enc evI (s.eg.1,n)=(V.a [V.i .i64 s.a.1,V.i .i64 s.a.2],.i .i64 n):=λ_=>rfl
   have e2:∀n:Int,asG P2.enc evI (s.eg.2,n)=(V.a [V.i .i64 s.b.1,V.i .i64 s.b.2],.i .i64 n):=λ_=>rfl
   rcases R1 with⟨a1,a2⟩ | ⟨i,n,a1,a2,a3,a4⟩
   ·rcases R2 with⟨b1,b2⟩ | ⟨i',n',b1,b2,b3,b4⟩
    ·
     simp (disch:=omega) [go_sem,Y9,hlt,hq,hq',Sg4.cs,a1,a2,b1,b2,w1,wm1,Xl,Xk,e1,e2]
     refine⟨k+1,by omega,by omega,Q3 (by omega) (by omega),by rw[hM2],?_⟩
     rw[hM2]
     exact hcl
    ·
     have b3':IntKind.i64.wrap (n'-1)=n'+-1:=b3
     simp (disch:=omega) [go_sem,Y9,hlt,hq,hq',Sg4.cs,a1,a2,b1,b2,b3',b4,Xj _ b2,w1,wm1,Xl,Xk,e1,e2]
     refine⟨k+1,by omega,by omega,Q3 (by omega) (by omega),by rw[hM2],?_⟩
     rw[hM2]
     exact hcl
   ·rcases R2 with⟨b1,b2⟩ | ⟨i',n',b1,b2,b3,b4⟩
    ·
     simp (disch:=omega) [go_sem,Y9,hlt,hq,hq',Sg4.cs,a1,a2,a3,a4,Xj _ a2,b1,b2,w1,wm1,Xl,Xk,e1,e2]
     refine⟨k+1,by omega,by omega,Q3 (by omega) (by omega),by rw[hM2],?_⟩
     rw[hM2]
     exact hcl
    ·
     have b3':IntKind.i64.wrap (n'-1)=n'+-1:=b3
     simp (disch:=omega) [go_sem,Y9,hlt,hq,hq',Sg4.cs,a1,a2,a3,a4,Xj _ a2,b1,b2,b3',b4,Xj _ b2,w1,wm1,Xl,Xk,e1,e2]
     refine⟨k+1,by omega,by omega,Q3 (by omega) (by omega),by rw[hM2],?_⟩
     rw[hM2]
     exact hcl
end
theorem Ux {α β:Type} (f:α->β):∀(l:List α) (i:Nat),(l.map f).eraseIdx i=(l.eraseIdx i).map f
 | [],_=>rfl
 | _::_,0=>rfl
 | a::l,i+1=>by simp[Ux f l i]
theorem K7 {α:Type}:∀(l:List α) (i:Nat) (a:α),l[i]?=some a->l.set i a=l
 | [],_,_,_=>rfl
 | b::l,0,a,h=>by simp at h;simp[h]
 | b::l,i+1,a,h=>by simp at h;simp[K7 l i a h]
structure PI where
 j:Nat
 g:Nat
 o:Nat
 n:Nat
def evP (p:PI):V:=.own p.j p.g p.o p.n
def Q17 (F:P2->List P2) (e:P2) (l:List P2):P2->List P2:=λk=>if k=e then l else F k
theorem J3 (F:P2->List P2) (e:P2) (l:List P2):Q17 F e l e=l:=if_pos rfl
theorem Xe {F:P2->List P2} {e k:P2} {l:List P2} (h:k≠e):Q17 F e l k=F k:=if_neg h
def PF (F:P2->List P2) (R:List Eg):Prop:=∀k,((R.filter λe=>decide (e.1=k)).map Prod.snd).Perm (F k)
theorem PF.mem {F:P2->List P2} {R:List Eg} (h:PF F R) {k v:P2}:v∈F k↔(k,v)∈R:=by
 rw[<- (h k).mem_iff,qq]
 constructor
 ·rintro⟨⟨a,b⟩,he,rfl⟩
  obtain⟨h1,h2⟩:=qw.1 he
  obtain rfl:a=k:=by simpa using h2
  exact h1
 ·intro hv
  exact⟨(k,v),qw.2 ⟨hv,by simp⟩,rfl⟩
theorem PF.take {F:P2->List P2} {R:List Eg} (h:PF F R) {e v:P2} {l:List P2} (he:F e=v::l):∃R',R.Perm ((e,v)::R')/\PF (Q17 F e l) R':=by
 have hm:(e,v)∈R:=h.mem.1 (by rw[he];simp)
 refine⟨R.erase (e,v),List.perm_cons_erase hm,λk=>?_⟩
 have hp:=((List.perm_cons_erase hm).filter λx=>decide (x.1=k)).map Prod.snd
 have hk:=h k
 by_cases hke:k=e
 ·subst hke
  rw[J3]
  rw[he]at hk
  rw[List.filter_cons,if_pos (by simp),List.map_cons]at hp
  exact(hp.symm.trans hk).cons_inv
 ·rw[Xe hke]
  rw[List.filter_cons,if_neg (by simpa using λh=>hke h.symm)]at hp
  exact hp.symm.trans hk
theorem PF.none {F:P2->List P2} {R:List Eg} (h:PF F R) {k:P2}:F k=[]↔∀e∈R,e.1≠k:=by
 constructor
 ·rintro hk ⟨a,b⟩ he rfl
  have:=h.mem.2 he
  rw[hk]at this;simp at this
 ·intro hn
  refine List.eq_nil_iff_forall_not_mem.2 λv hv=>?_
  exact hn _ (h.mem.1 hv) rfl
structure PoolAt (b:Nat) (h:List O) (id:Nat) (o:O) (KJ:List (P2 × PI)) (F:P2->List P2):Prop where
 mp:Qn4 o (KJ.map (asG P2.enc evP))
 ob:h[id]?=some o
 val:∀(i:Nat) (k:P2) (p:PI),KJ[i]?=some (k,p)->p.n=(F k).length/\1<=p.n/\∃els:List P2,h[p.j]?=some (.arr p.g 2 (els.map P2.cs))/\p.o+p.n<=els.length/\(els.drop p.o).take p.n=F k
 key:(KJ.map Prod.fst).Nodup
 lt:∀(i:Nat) (k:P2) (p:PI),KJ[i]?=some (k,p)->p.j<b
 none:∀e,Z8 e KJ=Option.none->F e=[]
theorem PoolAt.app {b:Nat} {h:List O} {id:Nat} {o:O} {KJ:List (P2 × PI)} {F:P2->List P2} (H:PoolAt b h id o KJ F) (l:List O):PoolAt b (h++l) id o KJ F where
 mp:=H.mp
 ob:=by rw[qf (qa.1 H.ob).1];exact H.ob
 val i k p hi:=by
  obtain⟨h1,h2,els,h3,h4⟩:=H.val i k p hi
  exact⟨h1,h2,els,by rw[qf (qa.1 h3).1];exact h3,h4⟩
 key:=H.key
 lt:=H.lt
 none:=H.none
theorem PoolAt.sub {b:Nat} {h l:List O} {id:Nat} {o:O} {KJ:List (P2 × PI)} {F:P2->List P2} (H:PoolAt b (h++l) id o KJ F) (hb:b<=h.length) (hid:id<h.length):PoolAt b h id o KJ F where
 mp:=H.mp
 ob:=by have:=H.ob;rwa [qf hid]at this
 val i k p hi:=by
  obtain⟨h1,h2,els,h3,h4⟩:=H.val i k p hi
  have:=H.lt i k p hi
  exact⟨h1,h2,els,by rwa [qf (by omega)]at h3,h4⟩
 key:=H.key
 lt:=H.lt
 none:=H.none
theorem Qec {L:List (P2 × PI)} {i:Nat} {e:P2} {p:PI} (hn:(L.map Prod.fst).Nodup) (hi:L[i]?=some (e,p)):e∉(L.eraseIdx i).map Prod.fst/\∀k,k≠e->(k∈(L.eraseIdx i).map Prod.fst↔k∈L.map Prod.fst):=by
 have hlt:=(qa.1 hi).1
 have hp:L.Perm ((e,p)::L.eraseIdx i):=by
  have h1:=List.eraseIdx_eq_take_drop_succ L i
  have h2:L=L.take i++(e,p)::L.drop (i+1):=by
   have h3:=List.take_append_drop i L
   rw[List.drop_eq_getElem_cons hlt,(qa.1 hi).2]at h3
   exact h3.symm
  rw[h1]
  conv=>lhs;rw[h2]
  exact List.perm_middle
 have hm:=hp.map Prod.fst
 rw[List.map_cons]at hm
 have hnd:=hm.nodup_iff.1 hn
 refine⟨(List.nodup_cons.1 hnd).1,λk hk=>?_⟩
 rw[hm.mem_iff,List.mem_cons]
 simp[hk]
theorem PoolAt.take {b:Nat} {h:List O} {id:Nat} {o:O} {KJ:List (P2 × PI)} {F:P2->List P2} (H:PoolAt b h id o KJ F) {e v:P2} {l:List P2} (he:F e=v::l) :
  ∃(i:Nat) (p:PI) (els:List P2),Z8 e KJ=some (i,p)/\KJ[i]?=some (e,p)/\h[p.j]?=some (.arr p.g 2 (els.map P2.cs))/\1<=p.n/\p.o+p.n<=els.length/\els[p.o]?=some v /\
   ∀o',((p.n=1/\o'=.md ((KJ.map (asG P2.enc evP)).eraseIdx i))∨(p.n≠1/\Qn4 o' ((KJ.map (asG P2.enc evP)).set i (e.enc,.own p.j p.g (p.o+1) (p.n-1))))) ->
    ∃KJ',PoolAt b (h.set id o') id o' KJ' (Q17 F e l):=by
 cases hf:Z8 e KJ with
 | none=>rw[H.none e hf]at he;simp at he
 | some q =>
   obtain⟨i,p⟩:=q
   have hi:=Zt hf
   obtain⟨h1,h2,els,h3,h4,h5⟩:=H.val i e p hi
   have hlt:=(qa.1 H.ob).1
   rw[he]at h1 h5
   simp only[List.length_cons]at h1
   have hv:els[p.o]?=some v:=by
    have h6:=congrArg (λl:List P2=>l[0]?) h5
    simp only[jd,je]at h6
    rw[if_pos (by omega)]at h6
    simpa using h6
   have hl:(els.drop (p.o+1)).take (p.n-1)=l:=by
    have h6:=congrArg List.tail h5
    simp only[List.tail_cons]at h6
    rw[<- h6,<- List.drop_one,List.drop_take,List.drop_drop]
   refine⟨i,p,els,rfl,hi,h3,h2,h4,hv,?_⟩
   have hkeep:∀(o':O) (j g:Nat) (x:List P2),h[j]?=some (.arr g 2 (x.map P2.cs))->(h.set id o')[j]?=some (.arr g 2 (x.map P2.cs)):=λo' j g x hj=>by
    rw[qv]
    ·exact hj
    ·rintro rfl
     rw[H.ob]at hj
     rcases H.mp with h | h<;>rw[h]at hj<;>simp at hj
   rintro o' (⟨a1,a2⟩ | ⟨a1,a2⟩)
   ·obtain⟨e1,e2⟩:=Qec H.key hi
    have hl0:l=[]:=qn (by omega)
    refine⟨KJ.eraseIdx i,?_,?_,?_,?_,?_,?_⟩
    ·rw[Ux]at a2;exact .inr a2
    ·rw[qo hlt]
    ·intro i' k p' hk
     have hne:k≠e:=by
      rintro rfl
      exact e1 (qq.2 ⟨_,qe hk,rfl⟩)
     have hm:=List.mem_of_mem_eraseIdx (qe hk)
     obtain⟨i2,hi2⟩:=qt hm
     rw[Xe hne]
     obtain⟨b1,b2,els2,b3,b4⟩:=H.val i2 k p' hi2
     exact⟨b1,b2,els2,hkeep _ _ _ _ b3,b4⟩
    ·exact H.key.sublist ((List.eraseIdx_sublist KJ i).map Prod.fst)
    ·intro i' k p' hk
     obtain⟨i2,hi2⟩:=qt (List.mem_of_mem_eraseIdx (qe hk))
     exact H.lt i2 k p' hi2
    ·intro k hk
     by_cases hke:k=e
     ·subst hke;rw[J3,hl0]
     ·rw[Xe hke]
      refine H.none k (fndG_none.2 λhm=>?_)
      exact fndG_none.1 hk ((e2 k hke).2 hm)
   ·refine⟨KJ.set i (e,⟨p.j,p.g,p.o+1,p.n-1⟩),?_,?_,?_,?_,?_,?_⟩
    ·rw[List.map_set];exact a2
    ·rw[qo hlt]
    ·intro i' k p' hk
     by_cases hii:i=i'
     ·subst hii
      rw[qo (qa.1 hi).1]at hk
      simp only[Option.some.injEq,Prod.mk.injEq]at hk
      obtain⟨rfl,rfl⟩:=hk
      rw[J3]
      exact⟨by simp only[];omega,by simp only[];omega,els,hkeep _ _ _ _ h3,by simp only[];omega,hl⟩
     ·rw[qv hii]at hk
      have hne:k≠e:=by
       rintro rfl
       have:=Yl H.key hk
       rw[hf]at this
       simp only[Option.some.injEq,Prod.mk.injEq]at this
       exact hii this.1
      rw[Xe hne]
      obtain⟨b1,b2,els2,b3,b4⟩:=H.val i' k p' hk
      exact⟨b1,b2,els2,hkeep _ _ _ _ b3,b4⟩
    ·have:(KJ.set i (e,(⟨p.j,p.g,p.o+1,p.n-1⟩:PI))).map Prod.fst=KJ.map Prod.fst:=by
      rw[List.map_set]
      exact K7 _ _ _ (by rw[qr,hi];rfl)
     rw[this];exact H.key
    ·intro i' k p' hk
     by_cases hii:i=i'
     ·subst hii
      rw[qo (qa.1 hi).1]at hk
      simp only[Option.some.injEq,Prod.mk.injEq]at hk
      obtain⟨rfl,rfl⟩:=hk
      exact H.lt i _ p hi
     ·rw[qv hii]at hk
      exact H.lt i' k p' hk
    ·intro k hk
     rw[B0 hf]at hk
     split at hk
     ·simp at hk
     ·rename_i hne
      rw[Xe hne]
      exact H.none k hk
end Go.Abs
