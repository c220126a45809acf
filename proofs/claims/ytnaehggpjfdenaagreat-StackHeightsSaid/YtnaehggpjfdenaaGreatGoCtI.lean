/- Part of the library on which the proof stands: an abstract machine, its values and its soundness against the model; or what functions of the program do to such values. -/
import Derived.Test.YtnaehggpjfdenaaGreatGoRpB
import Derived.Test.YtnaehggpjfdenaaGreatGoMapG
import Derived.Test.YtnaehggpjfdenaaGreatAbsCP
import Derived.Test.YtnaehggpjfdenaaGreatGoRsD
import Derived.Test.YtnaehggpjfdenaaGreatGoSkG
import Derived.Test.YtnaehggpjfdenaaGreatGoSo
set_option linter.unusedVariables false
set_option linter.unusedSimpArgs false
set_option maxHeartbeats 16000000
set_option maxRecDepth 20000
namespace Go.Abs
def Q6p (a b:P2):Int:=if a.x<b.x∨(a.x=b.x/\a.y<b.y) then -1 else if a=b then 0 else 1
theorem Jj (a b:P2):ltC Q6p a b=decide (a.x<b.x∨(a.x=b.x/\a.y<b.y)):=by
 unfold ltC Q6p
 by_cases h:a.x<b.x∨(a.x=b.x/\a.y<b.y)
 ·simp[h]
 ·rw[if_neg h]
  by_cases h2:a=b<;>simp[h,h2]
theorem Qj8:Go.Sort.SWO (ltC Q6p) where
 irrefl x:=by rw[Jj];simp
 trans x y z:=by
  rw[Jj,Jj,Jj]
  simp only[decide_eq_true_eq]
  omega
 ntrans x y z:=by
  rw[Jj,Jj,Jj]
  simp only[decide_eq_false_iff_not]
  omega
def Q9e (P:Program) (f:FuncId):Prop:=∀a b:P2,CallIs P f [a.enc,b.enc] (.i .i64 (Q6p a b))
def Qn3 (o:O) (ents:List (V × V)):Prop:=o=.mp ents∨o=.md ents
def Q96 (P:Program) (f:FuncId):Prop:=∀(h:List O) (id:Nat) (o:O) (ents:List (V × V)) (e:P2) (i q g off n:Nat) (els:List (List V)) (v:P2),Qn3 o ents->h[id]?=some o ->
 Ql [1,1] e.enc ents=some (some (i,.own q g off n))->h[q]?=some (.arr g 2 els)->1<=n->off+n<=els.length->els[off]?=some v.cs ->
 ACall P f [.mp id,e.enc] h (λr h'=>r=v.enc/\((n=1/\h'=h.set id (.md (ents.eraseIdx i)))∨(n≠1/\∃o',Qn3 o' (ents.set i (e.enc,.own q g (off+1) (n-1)))/\h'=h.set id o')))
section
variable {P:Program} (hm:P.follows .mixedOrders=true)
include hm
theorem B0 {f:FuncId} (hf:Q9 P f L05.c L05.r L05.n):Q9e P f:=by
 intro a b
 refine PureC.is (Q8 hm hf (qh rfl) ?_) rfl
 unfold L05.c Q6p
 by_cases h1:a.x<b.x
 ·simp[go_sem,P2.enc,P2.cs,h1,L05.r]
 ·by_cases h2:a.x=b.x
  ·by_cases h3:a.y<b.y
   ·simp[go_sem,P2.enc,P2.cs,h2,h3,L05.r]
   ·by_cases h4:a.y=b.y
    ·simp[go_sem,P2.enc,P2.cs,h2,h4,p2_iff,L05.r]
    ·simp[go_sem,P2.enc,P2.cs,h2,h3,h4,p2_iff,L05.r]
  ·have h2':(a.x == b.x)=false:=by simpa using h2
   simp[go_sem,P2.enc,P2.cs,h1,h2,h2',p2_iff,L05.r]
theorem Q25 {f:FuncId} (hf:Q9 P f L07.c L07.r L07.n):Q96 P f:=by
 intro h id o ents e i q g off n els v ho hid hfe hq hn hol hv
 refine Bb λhcl=>?_
 obtain⟨hlt,hid'⟩:=q8.1 hid
 obtain⟨hqt,hq'⟩:=q8.1 hq
 have hvl:=(q8.1 hv).1
 obtain⟨_,hv'⟩:=q8.1 hv
 have hqid:q≠id:=by
  rintro rfl
  rw[hid]at hq
  rcases ho with rfl | rfl<;>simp at hq
 have hqs:∀o',(h.set id o')[q]?=some (.arr g 2 els):=λo'=>by rw[qt (λhh=>hqid hh.symm)];exact hq
 have hqs':∀o' (hh:q<(h.set id o').length),(h.set id o')[q]=.arr g 2 els:=λo' hh=>(q8.1 (hqs o')).2
 have hentcl:∀N,h.length<=N->∀x∈ents,x.1.cl N=true/\x.2.cl N=true:=λN hN x hx=>by
  have:=hcl N hN o (qb hid)
  rcases ho with rfl | rfl<;>exact this x hx
 have hpad:∀(o':O) (l:List O) (N:Nat),h.length<=N->o'.cl N->WeakH N (h.set id o'++l) (h.set id o'):=λo' l N hN ho'=>by
  have:=Qy (n:=N) (a:=l) (b:=[]) (h:=h.set id o') (λo1 h1=>by
   rcases List.mem_or_eq_of_mem_set h1 with h1 | rfl
   ·exact hcl N hN o1 h1
   ·exact ho') (by cases l<;>trivial)
  rwa [List.append_nil]at this
 refine Q4c hm hf (qh rfl) ?_
 unfold L07.c
 generalize hK:Q6y h.length L07.r _=K
 simp only[P2.enc,P2.cs]at hfe hv
 have hqa:∀(o':O) (l:List O),(h.set id o'++l)[q]?=some (.arr g 2 els):=λo' l=>by
  rw[qd (by rw[List.length_set];exact hqt)];exact hqs o'
 have g0:∀(o':O) (l:List O),(h.set id o'++l)[h.length]?=l[0]?:=λo' l=>by
  have:=Qg (h.set id o') l
  rwa [List.length_set]at this
 have gk:∀(o':O) (l:List O) (k:Nat),(h.set id o'++l)[h.length+k]?=l[k]?:=λo' l k=>by
  have:=Qd (h.set id o') l k
  rwa [List.length_set]at this
 have sk:∀(o':O) (l:List O) (k:Nat) (x:O),(h.set id o'++l).set (h.length+k) x=h.set id o'++l.set k x:=λo' l k x=>by
  have:=Qn (h.set id o') l k x
  rwa [List.length_set]at this
 have fin:∀(env:List (Nat × V)) (o':O) (x:O),get 4 env=.p (h.length+1) 1 0 0->(∀N,h.length<=N->o'.cl N) ->
   ((n=1/\o'=.md (ents.eraseIdx i))∨(n≠1/\Qn3 o' (ents.set i (e.enc,.own q g (off+1) (n-1))))) ->
   K .r ⟨env,h.set id o'++[x,.arr 1 2 [v.cs]]⟩:=by
  intro env o' x henv hocl hor
  rw[<- hK,Q9l]
  refine⟨[v.enc],h.set id o',?_,rfl,?_,by simp,by simp,hpad o' _ _ (by simp) (hocl _ (by simp)),rfl,?_⟩
  ·simp[L07.r,Yj,henv,gk,Yf,Xp,P2.cs,P2.enc]
  ·simp[P2.enc,P2.cs,V.cl,V.cl1,V.cl0]
  ·rcases hor with⟨a,rfl⟩ | ⟨a,b⟩
   ·exact .inl ⟨a,rfl⟩
   ·exact .inr ⟨a,o',b,rfl⟩
 have hecl:∀N,h.length<=N->(O.md (ents.eraseIdx i)).cl N:=λN hN x hx=>hentcl N hN x (List.mem_of_mem_eraseIdx hx)
 have hscl:∀N,h.length<=N->∀x∈ents.set i (e.enc,.own q g (off+1) (n-1)),x.1.cl N=true/\x.2.cl N=true:=λN hN x hx=>by
  rcases List.mem_or_eq_of_mem_set hx with h1 | rfl
  ·exact hentcl N hN x h1
  ·simp[P2.enc,P2.cs,V.cl,V.cl1,V.cl0];omega
 simp only[P2.enc,P2.cs]at fin hscl
 by_cases h1:n=1
 ·subst h1
  rcases ho with rfl | rfl
  ·simp (disch:=omega) [go_sem,P2.enc,P2.cs,hid,hid',hlt,hqt,hq,hq',hfe,hv,hv',hvl,hqa,gk,g0,sk,Qd,Qg,Qn,Qt,Xl hlt,B5 hlt,Xl hqt]
   exact fin _ _ _ (by simp[go_sem]) hecl (.inl ⟨rfl,rfl⟩)
  ·simp (disch:=omega) [go_sem,P2.enc,P2.cs,hid,hid',hlt,hqt,hq,hq',hfe,hv,hv',hvl,hqa,gk,g0,sk,Qd,Qg,Qn,Qt,Xl hlt,B5 hlt,Xl hqt]
   exact fin _ _ _ (by simp[go_sem]) hecl (.inl ⟨rfl,rfl⟩)
 ·have hn1:¬ ((n:Int)=1):=by omega
  have hn2:(n == 1)=false:=by simpa using h1
  rcases ho with rfl | rfl
  ·simp (disch:=omega) [go_sem,P2.enc,P2.cs,hid,hid',hlt,hqt,hq,hq',hfe,hv,hv',hvl,hqa,gk,g0,sk,h1,hn1,hn,Qd,Qg,Qn,Qt,Xl hlt,B5 hlt,Xl hqt]
   refine⟨by omega,fin _ _ _ ?_ ?_ ?_⟩
   ·simp[go_sem]
   ·exact λN hN=>hscl N hN
   ·exact .inr ⟨h1,.inl rfl⟩
  ·simp (disch:=omega) [go_sem,P2.enc,P2.cs,hid,hid',hlt,hqt,hq,hq',hfe,hv,hv',hvl,hqa,gk,g0,sk,h1,hn1,hn,Qd,Qg,Qn,Qt,Xl hlt,B5 hlt,Xl hqt]
   refine⟨by omega,fin _ _ _ ?_ ?_ ?_⟩
   ·simp[go_sem]
   ·exact λN hN=>hscl N hN
   ·exact .inr ⟨h1,.inr rfl⟩
end
def Ua (L:List (P2 × Int)) (e:P2):Int:=match Z8 e L with | some (_,n)=>n | none=>0
def Kq (L:List (P2 × Int)) (e:P2) (d:Int):List (P2 × Int):=Qaq e (Ua L e+d) L
theorem Q9y (L:List (P2 × Int)) (e:P2):Ua L e=((Z8 e L).map Prod.snd).getD 0:=by
 unfold Ua;cases Z8 e L with
 | none=>rfl
 | some p=>rfl
theorem Bf (L:List (P2 × Int)) (e e':P2) (d:Int):Ua (Kq L e d) e'=Ua L e'+if e'=e then d else 0:=by
 rw[Q9y (Kq L e d),Kq,Qnv]
 by_cases h:e'=e
 ·subst h;simp
 ·rw[if_neg h,if_neg h,<- Q9y];omega
def Qce (L:List (P2 × Int)):Prop:=(L.map Prod.fst).Nodup
theorem Q0o {L:List (P2 × Int)} (h:Qce L) (e:P2) (d:Int):Qce (Kq L e d)/\(Kq L e d).length<=L.length+1/\∀x,x∈(Kq L e d).map Prod.fst↔x∈L.map Prod.fst∨x=e:=by
 have hk:=Qhx e (Ua L e+d) L
 unfold Qce Kq
 rw[hk]
 have hl:(Qaq e (Ua L e+d) L).length=((Qaq e (Ua L e+d) L).map Prod.fst).length:=by simp
 rw[hl,hk]
 by_cases hm:e∈L.map Prod.fst
 ·rw[if_pos hm]
  refine⟨h,by simp,λx=>⟨.inl,?_⟩⟩
  rintro (hx | rfl)
  ·exact hx
  ·exact hm
 ·rw[if_neg hm]
  refine⟨?_,by simp,λx=>by simp⟩
  rw[List.nodup_append]
  exact⟨h,by simp,λa ha b hb=>by simp at hb;subst hb;rintro rfl;exact hm ha⟩
def K6 (l:List Sg4) (k:Nat):List (P2 × Int):=(l.take k).foldl (λL s=>Kq (Kq L s.eg.1 1) s.eg.2 (-1)) []
theorem Q6c {l:List Sg4} {k:Nat} {s:Sg4} (h:l[k]?=some s):K6 l (k+1)=Kq (Kq (K6 l k) s.eg.1 1) s.eg.2 (-1):=by
 unfold K6
 rw[List.take_add_one,h]
 simp
theorem Q28 (l:List Sg4):∀k,k<=l.length->Qce (K6 l k)/\(K6 l k).length<=2*k/\(∀p,Ua (K6 l k) p=Et (egs (l.take k)) p)/\∀e∈egs (l.take k),e.1∈(K6 l k).map Prod.fst/\e.2∈(K6 l k).map Prod.fst
 | 0,_=>⟨by simp[K6,Qce],by simp[K6],λp=>by simp[K6,Ua,Z8,Et,egs],by simp[egs]⟩
 | k+1,h=>by
   obtain⟨h1,h2,h3,h4⟩:=Q28 l k (by omega)
   have hq:=W3 (show k<l.length by omega)
   generalize Qd4 l k=s at hq
   obtain⟨a1,a2,a3⟩:=Q0o h1 s.eg.1 1
   obtain⟨b1,b2,b3⟩:=Q0o a1 s.eg.2 (-1)
   rw[Q6c hq,Qa3 l hq]
   refine⟨b1,by omega,λp=>?_,λe he=>?_⟩
   ·rw[Bf,Bf,h3,Qje]
    by_cases c1:p=s.eg.1<;>by_cases c2:p=s.eg.2
    ·rw[if_pos c1,if_pos c2,if_pos c1.symm,if_pos c2.symm];omega
    ·rw[if_pos c1,if_neg c2,if_pos c1.symm,if_neg (λh=>c2 h.symm)];omega
    ·rw[if_neg c1,if_pos c2,if_neg (λh=>c1 h.symm),if_pos c2.symm];omega
    ·rw[if_neg c1,if_neg c2,if_neg (λh=>c1 h.symm),if_neg (λh=>c2 h.symm)];omega
   ·rcases qg.1 he with he | he
    ·obtain⟨q1,q2⟩:=h4 e he
     exact⟨(b3 _).2 (.inl ((a3 _).2 (.inl q1))),(b3 _).2 (.inl ((a3 _).2 (.inl q2)))⟩
    ·rw[qn.1 he]
     exact⟨(b3 _).2 (.inl ((a3 _).2 (.inr rfl))),(b3 _).2 (.inr rfl)⟩
theorem Qma (l:List Sg4):Qc5 (egs l)=(K6 l l.length).all λp=>decide (p.2=0):=by
 obtain⟨h1,h2,h3,h4⟩:=Q28 l l.length (Nat.le_refl _)
 rw[qi]at h3 h4
 have hv:∀p n,(p,n)∈K6 l l.length->n=Et (egs l) p:=by
  intro p n hp
  obtain⟨i,hi⟩:=qq hp
  have:=Yl h1 hi
  rw[<- h3 p];unfold Ua;rw[this]
 rw[Bool.eq_iff_iff]
 unfold Qc5
 rw[qj,qj]
 constructor
 ·rintro h ⟨p,n⟩ hp
  have hb:=balB_iff.1 (qj.2 h:Qc5 (egs l)=true) p
  have:=hv p n hp
  unfold Et at this
  simp only[decide_eq_true_eq];omega
 ·intro h e he
  obtain⟨k1,k2⟩:=h4 e he
  obtain⟨⟨p1,n1⟩,m1,rfl⟩:=qo.1 k1
  obtain⟨⟨p2,n2⟩,m2,e2⟩:=qo.1 k2
  have z1:=h _ m1
  have z2:=h _ m2
  have v1:=hv _ _ m1
  have v2:=hv _ _ m2
  simp only[decide_eq_true_eq]at z1 z2
  simp only[]at e2
  rw[e2]at v2
  simp only[Bool.and_eq_true,decide_eq_true_eq]
  exact⟨by omega,by omega⟩
def evI (n:Int):V:=.i .i64 n
theorem Q95 (M:List (P2 × Int)) (n:Nat):∀(a b:V) (x:P2) (y:Int),(x,y)∈M->asG P2.enc evI (x,y)=(a,b)->a.cl n=true/\b.cl n=true:=by
 intro a b x y _ he
 simp only[asG,evI,Prod.mk.injEq]at he
 obtain⟨rfl,rfl⟩:=he
 simp[P2.enc,P2.cs,V.cl,V.cl1,V.cl0]
theorem Q6v {M:List (P2 × Int)} {e:P2} {d:Int} (h1:-100000<=Ua M e+d) (h2:Ua M e+d<=100000) :
  (Ql [1,1] e.enc (M.map (asG P2.enc evI))=some none/\M.map (asG P2.enc evI)++[(e.enc,.i .i64 d)]=(Kq M e d).map (asG P2.enc evI)) ∨
  ∃(i:Nat) (n:Int),Ql [1,1] e.enc (M.map (asG P2.enc evI))=some (some (i,.i .i64 n))/\M[i]?=some (e,n)/\IntKind.i64.wrap (n+d)=n+d /\
   (M.map (asG P2.enc evI)).set i (e.enc,.i .i64 (n+d))=(Kq M e d).map (asG P2.enc evI):=by
 have hf:=Xv W9 evI e M
 unfold Kq Qaq
 unfold Ua at *
 cases hfn:Z8 e M with
 | none =>
   rw[hfn]at hf
   refine .inl ⟨hf,?_⟩
   simp[asG,evI]
 | some p =>
   obtain⟨i,n⟩:=p
   rw[hfn]at hf h1 h2
   simp only[]at h1 h2
   refine .inr ⟨i,n,hf,?_,Q3 (by omega) (by omega),?_⟩
   ·exact Zt hfn
   ·rw[List.map_set];rfl
theorem Xg {α β:Type} (f:α->β) (M:List α) (x:β):(M.map f++[x])[M.length]?=some x:=by
 rw[qf (by simp)];simp
theorem Xf {α β:Type} (f:α->β) (M:List α) (x y:β):(M.map f++[x]).set M.length y=M.map f++[y]:=by
 have:=ji (s:=M.map f) (t:=[x]) (x:=y) M.length (by simp)
 rw[this];simp
theorem Xe {α β:Type} (f:α->β) {M:List α} {i:Nat} {y:α} (h:M[i]?=some y) (x:β):((M.map f).set i x)[i]?=some x:=by
 have:=(q8.1 h).1
 rw[qm (by simpa using this)]
def SeenZ (M:List (P2 × Int)) (seen:List Nat):Prop:=∀i∈seen,∀p,M[i]?=some p->p.2=0
section
variable {P:Program} (hm:P.follows .mixedOrders=true)
include hm
theorem Uk {f:FuncId} (hf:Q9 P f L03.c L03.r L03.n):Qqj P f:=by
 intro l hl
 rw[Qma]
 refine PureC.is (Q8 hm hf (qh rfl) ?_) rfl
 unfold L03.c
 simp[go_sem,Y7]
 refine Qh (α:=Nat) (λk=>k<=l.length)
  (λk=>⟨[(3,.mp 0),(9,Y7 l),(10,.i .i64 l.length),(11,.i .i64 k)],[.mp ((K6 l k).map (asG P2.enc evI))]⟩)
  (λk=>l.length-k) 0 (Nat.zero_le _) ?_ ?_
 ·simp[go_sem,Y7,K6]
 ·intro k hk
  by_cases hkl:k=l.length
  ·subst hkl
   obtain⟨h1,h2,_,_⟩:=Q28 l l.length (Nat.le_refl _)
   generalize K6 l l.length=M at *
   generalize hB:(M.all λp=>decide (p.2=0))=B
   simp[go_sem,Y7]
   refine Qh (α:=List Nat) (λseen=>SeenZ M seen)
    (λseen=>⟨[(31,.p 1 1 0 0)],[.mp (M.map (asG P2.enc evI)),.it (some 0) M.length seen]⟩)
    (λseen=>left M.length seen) [] (by simp[SeenZ]) ?_ ?_
   ·simp[go_sem]
    exact Q95 _ _
   ·intro seen hseen
    simp[go_sem,Mnx]
    refine⟨λhall=>?_,?_⟩
    ·obtain rfl:true=B:=by
      rw[<- hB];symm
      rw[qj]
      intro p hp
      obtain⟨i,hi⟩:=qq hp
      simpa using hseen i (hall i (q8.1 hi).1) p hi
     simp[go_sem,L03.r]
    ·rintro i a b e n hi hab hni
     simp only[asG,Prod.mk.injEq]at hab
     obtain⟨rfl,rfl⟩:=hab
     have hil:i<M.length:=(q8.1 hi).1
     have hleft:=Qfy hil hni
     have hgi:(M.map (asG P2.enc evI))[i]?=some (e.enc,.i .i64 n):=by rw[qp,hi];rfl
     simp[go_sem,hi,asG,evI]
     by_cases hn:n=0
     ·subst hn
      simp[go_sem]
      refine⟨seen++[i],?_,hleft,?_,rfl⟩
      case refine_2 =>
       rintro a b x y hxy rfl rfl
       exact Q95 M 2 _ _ x y hxy rfl
      intro j hj p hp
      rcases qg.1 hj with h | h
      ·exact hseen j h p hp
      ·rw[qn.1 h,hi]at hp
       obtain rfl:=Option.some.inj hp
       rfl
     ·obtain rfl:false=B:=by
       rw[<- hB];symm
       rw[List.all_eq_false]
       exact⟨_,qb hi,by simpa using hn⟩
      have hnb:(n != 0)=true:=by simpa using hn
      simp[go_sem,hn,hnb,L03.r]
  ·have hlt:k<l.length:=by omega
   have hq:=W3 hlt
   generalize Qd4 l k=s at hq
   obtain⟨_,hq'⟩:=q8.1 hq
   obtain⟨m1,m2,m3,m4⟩:=Q28 l k hk
   have hms:=Q6c hq
   have hb1:=Qgg (egs (l.take k)) s.eg.1
   have hb2:=Qgg (egs (l.take k)) s.eg.2
   rw[<- m3,Q2d,qv]at hb1 hb2
   have hv2:=Bf (K6 l k) s.eg.1 s.eg.2 1
   generalize K6 l k=M at *
   have hbb:-8200<=Ua (Kq M s.eg.1 1) s.eg.2/\Ua (Kq M s.eg.1 1) s.eg.2<=8200:=by
    rw[hv2];split<;>omega
   have hM2l:(Kq M s.eg.1 1).length<=M.length+1:=(Q0o m1 _ _).2.1
   have R1:=Q6v (M:=M) (e:=s.eg.1) (d:=1) (by omega) (by omega)
   have R2:=Q6v (M:=Kq M s.eg.1 1) (e:=s.eg.2) (d:=-1) (by omega) (by omega)
   rw[<- hms]at R2
   have hcl:=Q95 (K6 l (k+1)) 1
   generalize hM2:K6 l (k+1)=M2 at *
   generalize Kq M s.eg.1 1=M1 at *
   have hk1:s.eg.1.enc=V.a [V.i .i64 s.a.1,V.i .i64 s.a.2]:=rfl
   have hk2:s.eg.2.enc=V.a [V.i .i64 s.b.1,V.i .i64 s.b.2]:=rfl
   have w1:IntKind.i64.wrap 1=1:=rfl
   have wm1:IntKind.i64.wrap (-1)=-1:=rfl
   rw[hk1]at R1
   rw[hk2]at R2
   clear hms hv2
   have e1:∀n:Int,asG P2.enc evI (s.eg.1,n)=(V.a [V.i .i64 s.a.1,V.i .i64 s.a.2],.i .i64 n):=λ_=>rfl
   have e2:∀n:Int,asG P2.enc evI (s.eg.2,n)=(V.a [V.i .i64 s.b.1,V.i .i64 s.b.2],.i .i64 n):=λ_=>rfl
   rcases R1 with⟨a1,a2⟩ | ⟨i,n,a1,a2,a3,a4⟩
   ·rcases R2 with⟨b1,b2⟩ | ⟨i',n',b1,b2,b3,b4⟩
    ·
     simp (disch:=omega) [go_sem,Y7,hlt,hq,hq',Sg4.cs,a1,a2,b1,b2,w1,wm1,Xg,Xf,e1,e2]
     refine⟨k+1,by omega,by omega,Q3 (by omega) (by omega),by rw[hM2],?_⟩
     rw[hM2]
     exact hcl
    ·
     have b3':IntKind.i64.wrap (n'-1)=n'+-1:=b3
     simp (disch:=omega) [go_sem,Y7,hlt,hq,hq',Sg4.cs,a1,a2,b1,b2,b3',b4,Xe _ b2,w1,wm1,Xg,Xf,e1,e2]
     refine⟨k+1,by omega,by omega,Q3 (by omega) (by omega),by rw[hM2],?_⟩
     rw[hM2]
     exact hcl
   ·rcases R2 with⟨b1,b2⟩ | ⟨i',n',b1,b2,b3,b4⟩
    ·
     simp (disch:=omega) [go_sem,Y7,hlt,hq,hq',Sg4.cs,a1,a2,a3,a4,Xe _ a2,b1,b2,w1,wm1,Xg,Xf,e1,e2]
     refine⟨k+1,by omega,by omega,Q3 (by omega) (by omega),by rw[hM2],?_⟩
     rw[hM2]
     exact hcl
    ·
     have b3':IntKind.i64.wrap (n'-1)=n'+-1:=b3
     simp (disch:=omega) [go_sem,Y7,hlt,hq,hq',Sg4.cs,a1,a2,a3,a4,Xe _ a2,b1,b2,b3',b4,Xe _ b2,w1,wm1,Xg,Xf,e1,e2]
     refine⟨k+1,by omega,by omega,Q3 (by omega) (by omega),by rw[hM2],?_⟩
     rw[hM2]
     exact hcl
end
theorem Us {α β:Type} (f:α->β):∀(l:List α) (i:Nat),(l.map f).eraseIdx i=(l.eraseIdx i).map f
 | [],_=>rfl
 | _::_,0=>rfl
 | a::l,i+1=>by simp[Us f l i]
theorem K1 {α:Type}:∀(l:List α) (i:Nat) (a:α),l[i]?=some a->l.set i a=l
 | [],_,_,_=>rfl
 | b::l,0,a,h=>by simp at h;simp[h]
 | b::l,i+1,a,h=>by simp at h;simp[K1 l i a h]
structure PI where
 j:Nat
 g:Nat
 o:Nat
 n:Nat
def evP (p:PI):V:=.own p.j p.g p.o p.n
def Q16 (F:P2->List P2) (e:P2) (l:List P2):P2->List P2:=λk=>if k=e then l else F k
theorem Xy (F:P2->List P2) (e:P2) (l:List P2):Q16 F e l e=l:=if_pos rfl
theorem Xa {F:P2->List P2} {e k:P2} {l:List P2} (h:k≠e):Q16 F e l k=F k:=if_neg h
def PF (F:P2->List P2) (R:List Eg):Prop:=∀k,((R.filter λe=>decide (e.1=k)).map Prod.snd).Perm (F k)
theorem PF.mem {F:P2->List P2} {R:List Eg} (h:PF F R) {k v:P2}:v∈F k↔(k,v)∈R:=by
 rw[<- (h k).mem_iff,qo]
 constructor
 ·rintro⟨⟨a,b⟩,he,rfl⟩
  obtain⟨h1,h2⟩:=qu.1 he
  obtain rfl:a=k:=by simpa using h2
  exact h1
 ·intro hv
  exact⟨(k,v),qu.2 ⟨hv,by simp⟩,rfl⟩
theorem PF.take {F:P2->List P2} {R:List Eg} (h:PF F R) {e v:P2} {l:List P2} (he:F e=v::l):∃R',R.Perm ((e,v)::R')/\PF (Q16 F e l) R':=by
 have hm:(e,v)∈R:=h.mem.1 (by rw[he];simp)
 refine⟨R.erase (e,v),List.perm_cons_erase hm,λk=>?_⟩
 have hp:=((List.perm_cons_erase hm).filter λx=>decide (x.1=k)).map Prod.snd
 have hk:=h k
 by_cases hke:k=e
 ·subst hke
  rw[Xy]
  rw[he]at hk
  rw[List.filter_cons,if_pos (by simp),List.map_cons]at hp
  exact(hp.symm.trans hk).cons_inv
 ·rw[Xa hke]
  rw[List.filter_cons,if_neg (by simpa using λh=>hke h.symm)]at hp
  exact hp.symm.trans hk
theorem PF.none {F:P2->List P2} {R:List Eg} (h:PF F R) {k:P2}:F k=[]↔∀e∈R,e.1≠k:=by
 constructor
 ·rintro hk ⟨a,b⟩ he rfl
  have:=h.mem.2 he
  rw[hk]at this;simp at this
 ·intro hn
  refine List.eq_nil_iff_forall_not_mem.2 λv hv=>?_
  exact hn _ (h.mem.1 hv) rfl
structure PoolAt (b:Nat) (h:List O) (id:Nat) (o:O) (KJ:List (P2 × PI)) (F:P2->List P2):Prop where
 mp:Qn3 o (KJ.map (asG P2.enc evP))
 ob:h[id]?=some o
 val:∀(i:Nat) (k:P2) (p:PI),KJ[i]?=some (k,p)->p.n=(F k).length/\1<=p.n/\∃els:List P2,h[p.j]?=some (.arr p.g 2 (els.map P2.cs))/\p.o+p.n<=els.length/\(els.drop p.o).take p.n=F k
 key:(KJ.map Prod.fst).Nodup
 lt:∀(i:Nat) (k:P2) (p:PI),KJ[i]?=some (k,p)->p.j<b
 none:∀e,Z8 e KJ=Option.none->F e=[]
theorem PoolAt.app {b:Nat} {h:List O} {id:Nat} {o:O} {KJ:List (P2 × PI)} {F:P2->List P2} (H:PoolAt b h id o KJ F) (l:List O):PoolAt b (h++l) id o KJ F where
 mp:=H.mp
 ob:=by rw[qd (q8.1 H.ob).1];exact H.ob
 val i k p hi:=by
  obtain⟨h1,h2,els,h3,h4⟩:=H.val i k p hi
  exact⟨h1,h2,els,by rw[qd (q8.1 h3).1];exact h3,h4⟩
 key:=H.key
 lt:=H.lt
 none:=H.none
theorem PoolAt.sub {b:Nat} {h l:List O} {id:Nat} {o:O} {KJ:List (P2 × PI)} {F:P2->List P2} (H:PoolAt b (h++l) id o KJ F) (hb:b<=h.length) (hid:id<h.length):PoolAt b h id o KJ F where
 mp:=H.mp
 ob:=by have:=H.ob;rwa [qd hid]at this
 val i k p hi:=by
  obtain⟨h1,h2,els,h3,h4⟩:=H.val i k p hi
  have:=H.lt i k p hi
  exact⟨h1,h2,els,by rwa [qd (by omega)]at h3,h4⟩
 key:=H.key
 lt:=H.lt
 none:=H.none
theorem Qe8 {L:List (P2 × PI)} {i:Nat} {e:P2} {p:PI} (hn:(L.map Prod.fst).Nodup) (hi:L[i]?=some (e,p)):e∉(L.eraseIdx i).map Prod.fst/\∀k,k≠e->(k∈(L.eraseIdx i).map Prod.fst↔k∈L.map Prod.fst):=by
 have hlt:=(q8.1 hi).1
 have hp:L.Perm ((e,p)::L.eraseIdx i):=by
  have h1:=List.eraseIdx_eq_take_drop_succ L i
  have h2:L=L.take i++(e,p)::L.drop (i+1):=by
   have h3:=List.take_append_drop i L
   rw[List.drop_eq_getElem_cons hlt,(q8.1 hi).2]at h3
   exact h3.symm
  rw[h1]
  conv=>lhs;rw[h2]
  exact List.perm_middle
 have hm:=hp.map Prod.fst
 rw[List.map_cons]at hm
 have hnd:=hm.nodup_iff.1 hn
 refine⟨(List.nodup_cons.1 hnd).1,λk hk=>?_⟩
 rw[hm.mem_iff,List.mem_cons]
 simp[hk]
theorem PoolAt.take {b:Nat} {h:List O} {id:Nat} {o:O} {KJ:List (P2 × PI)} {F:P2->List P2} (H:PoolAt b h id o KJ F) {e v:P2} {l:List P2} (he:F e=v::l) :
  ∃(i:Nat) (p:PI) (els:List P2),Z8 e KJ=some (i,p)/\KJ[i]?=some (e,p)/\h[p.j]?=some (.arr p.g 2 (els.map P2.cs))/\1<=p.n/\p.o+p.n<=els.length/\els[p.o]?=some v /\
   ∀o',((p.n=1/\o'=.md ((KJ.map (asG P2.enc evP)).eraseIdx i))∨(p.n≠1/\Qn3 o' ((KJ.map (asG P2.enc evP)).set i (e.enc,.own p.j p.g (p.o+1) (p.n-1))))) ->
    ∃KJ',PoolAt b (h.set id o') id o' KJ' (Q16 F e l):=by
 cases hf:Z8 e KJ with
 | none=>rw[H.none e hf]at he;simp at he
 | some q =>
   obtain⟨i,p⟩:=q
   have hi:=Zt hf
   obtain⟨h1,h2,els,h3,h4,h5⟩:=H.val i e p hi
   have hlt:=(q8.1 H.ob).1
   rw[he]at h1 h5
   simp only[List.length_cons]at h1
   have hv:els[p.o]?=some v:=by
    have h6:=congrArg (λl:List P2=>l[0]?) h5
    simp only[jb,jc]at h6
    rw[if_pos (by omega)]at h6
    simpa using h6
   have hl:(els.drop (p.o+1)).take (p.n-1)=l:=by
    have h6:=congrArg List.tail h5
    simp only[List.tail_cons]at h6
    rw[<- h6,<- List.drop_one,List.drop_take,List.drop_drop]
   refine⟨i,p,els,rfl,hi,h3,h2,h4,hv,?_⟩
   have hkeep:∀(o':O) (j g:Nat) (x:List P2),h[j]?=some (.arr g 2 (x.map P2.cs))->(h.set id o')[j]?=some (.arr g 2 (x.map P2.cs)):=λo' j g x hj=>by
    rw[qt]
    ·exact hj
    ·rintro rfl
     rw[H.ob]at hj
     rcases H.mp with h | h<;>rw[h]at hj<;>simp at hj
   rintro o' (⟨a1,a2⟩ | ⟨a1,a2⟩)
   ·obtain⟨e1,e2⟩:=Qe8 H.key hi
    have hl0:l=[]:=ql (by omega)
    refine⟨KJ.eraseIdx i,?_,?_,?_,?_,?_,?_⟩
    ·rw[Us]at a2;exact .inr a2
    ·rw[qm hlt]
    ·intro i' k p' hk
     have hne:k≠e:=by
      rintro rfl
      exact e1 (qo.2 ⟨_,qb hk,rfl⟩)
     have hm:=List.mem_of_mem_eraseIdx (qb hk)
     obtain⟨i2,hi2⟩:=qq hm
     rw[Xa hne]
     obtain⟨b1,b2,els2,b3,b4⟩:=H.val i2 k p' hi2
     exact⟨b1,b2,els2,hkeep _ _ _ _ b3,b4⟩
    ·exact H.key.sublist ((List.eraseIdx_sublist KJ i).map Prod.fst)
    ·intro i' k p' hk
     obtain⟨i2,hi2⟩:=qq (List.mem_of_mem_eraseIdx (qb hk))
     exact H.lt i2 k p' hi2
    ·intro k hk
     by_cases hke:k=e
     ·subst hke;rw[Xy,hl0]
     ·rw[Xa hke]
      refine H.none k (fndG_none.2 λhm=>?_)
      exact fndG_none.1 hk ((e2 k hke).2 hm)
   ·refine⟨KJ.set i (e,⟨p.j,p.g,p.o+1,p.n-1⟩),?_,?_,?_,?_,?_,?_⟩
    ·rw[List.map_set];exact a2
    ·rw[qm hlt]
    ·intro i' k p' hk
     by_cases hii:i=i'
     ·subst hii
      rw[qm (q8.1 hi).1]at hk
      simp only[Option.some.injEq,Prod.mk.injEq]at hk
      obtain⟨rfl,rfl⟩:=hk
      rw[Xy]
      exact⟨by simp only[];omega,by simp only[];omega,els,hkeep _ _ _ _ h3,by simp only[];omega,hl⟩
     ·rw[qt hii]at hk
      have hne:k≠e:=by
       rintro rfl
       have:=Yl H.key hk
       rw[hf]at this
       simp only[Option.some.injEq,Prod.mk.injEq]at this
       exact hii this.1
      rw[Xa hne]
      obtain⟨b1,b2,els2,b3,b4⟩:=H.val i' k p' hk
      exact⟨b1,b2,els2,hkeep _ _ _ _ b3,b4⟩
    ·have:(KJ.set i (e,(⟨p.j,p.g,p.o+1,p.n-1⟩:PI))).map Prod.fst=KJ.map Prod.fst:=by
      rw[List.map_set]
      exact K1 _ _ _ (by rw[qp,hi];rfl)
     rw[this];exact H.key
    ·intro i' k p' hk
     by_cases hii:i=i'
     ·subst hii
      rw[qm (q8.1 hi).1]at hk
      simp only[Option.some.injEq,Prod.mk.injEq]at hk
      obtain⟨rfl,rfl⟩:=hk
      exact H.lt i _ p hi
     ·rw[qt hii]at hk
      exact H.lt i' k p' hk
    ·intro k hk
     rw[Ix hf]at hk
     split at hk
     ·simp at hk
     ·rename_i hne
      rw[Xa hne]
      exact H.none k hk
def Q4h (P:Program) (f:FuncId):Prop:=∀(b:Nat) (h:List O) (id:Nat) (o:O) (KJ:List (P2 × PI)) (F:P2->List P2) (R:List Eg) (first:P2),PoolAt b h id o KJ F->PF F R->Ba R->F first≠[]->R.length<=4096 ->
 ACall P f [.mp id,first.enc] h (λr h'=>∃(vs:List P2) (o':O) (KJ':List (P2 × PI)) (F':P2->List P2) (R':List Eg),r=.a [.own (h.length+2) vs.length 0 vs.length]/\h'=h.set id o'++[.dead,.dead,.arr vs.length 2 (vs.map P2.cs)] /\
  PoolAt b (h.set id o') id o' KJ' F'/\PF F' R'/\Ba R'/\(Z7 vs++R').Perm R/\vs≠[])
theorem Q5x {P:Program} {f:FuncId} (ht:Q96 P f) {b:Nat} {h:List O} {id:Nat} {o:O} {KJ:List (P2 × PI)} {F:P2->List P2} (H:PoolAt b h id o KJ F) {e v:P2} {l:List P2} (he:F e=v::l) (tl:List O) :
  ACall P f [.mp id,e.enc] (h++tl) (λr h'=>r=v.enc/\∃o' KJ',h'=h.set id o'++tl/\PoolAt b (h.set id o') id o' KJ' (Q16 F e l)):=by
 obtain⟨i,p,els,a1,a2,a3,a4,a5,a6,a7⟩:=H.take he
 have hlt:=(q8.1 H.ob).1
 have hjt:=(q8.1 a3).1
 have hfe:Ql [1,1] e.enc (KJ.map (asG P2.enc evP))=some (some (i,.own p.j p.g p.o p.n)):=by
  rw[Xv W9 evP e KJ,a1];rfl
 refine (ht (h++tl) id o _ e i p.j p.g p.o p.n (els.map P2.cs) v H.mp (by rw[qd hlt];exact H.ob) hfe (by rw[qd hjt];exact a3) a4 (by simpa using a5) (by rw[qp,a6];rfl)).mono ?_
 rintro r h' ⟨rfl,hor⟩
 refine⟨rfl,?_⟩
 rcases hor with⟨b1,rfl⟩ | ⟨b1,o',b2,rfl⟩
 ·obtain⟨KJ',hp⟩:=a7 _ (.inl ⟨b1,rfl⟩)
  exact⟨_,KJ',List.set_append_left _ _ hlt,hp⟩
 ·obtain⟨KJ',hp⟩:=a7 o' (.inr ⟨b1,b2⟩)
  exact⟨o',KJ',List.set_append_left _ _ hlt,hp⟩
section hset
variable {h l:List O} {id k:Nat} {o x:O}
theorem Jf:(h.set id o++l)[h.length+k]?=l[k]?:=by
 have:=Qd (h.set id o) l k
 rwa [List.length_set]at this
theorem Wy:(h.set id o++l)[h.length]?=l[0]?:=Jf (k:=0)
theorem K8:(h.set id o++l).set (h.length+k) x=h.set id o++l.set k x:=by
 have:=Qn (h.set id o) l k x
 rwa [List.length_set]at this
theorem Ww:(h.set id o++l).set h.length x=h.set id o++l.set 0 x:=K8 (k:=0)
theorem Wx {a b c d:O} {j:Nat}:(h.set id o++a::b::c::d::(List.replicate k O.dead++l))[h.length+4+k+j]?=l[j]?:=by
 rw[show h.length+4+k+j=h.length+(4+k+j) by omega,Jf]
 rw[show 4+k+j=(k+j)+1+1+1+1 by omega]
 simp only[List.getElem?_cons_succ]
 rw[qf (by simp)]
 simp
theorem Ek {a b c d:O}:(h.set id o++a::b::c::d::(List.replicate k O.dead++l))[h.length+4+k]?=l[0]?:=Wx (j:=0)
theorem Q0c {a b c d:O} {j:Nat}:(h.set id o++a::b::c::d::(List.replicate k O.dead++l)).set (h.length+4+k+j) x=h.set id o++a::b::c::d::(List.replicate k O.dead++l.set j x):=by
 rw[show h.length+4+k+j=h.length+(4+k+j) by omega,K8]
 rw[show 4+k+j=(k+j)+1+1+1+1 by omega]
 simp only[List.set_cons_succ]
 rw[ji _ _ (by simp)]
 simp
theorem Qev {n:Nat} {a b:List O} {x:O} (hw:WeakH n a b):WeakH n (List.replicate k O.dead++x::a) (List.replicate (k+1) O.dead++b):=by
 rw[List.replicate_succ',qz]
 exact Qy (λo ho=>by rw[(List.mem_replicate.1 ho).2];simp[O.cl]) ⟨.inl rfl,hw⟩
theorem PoolAt.clh {b:Nat} {KJ:List (P2 × PI)} {F:P2->List P2} (H:PoolAt b (h.set id o) id o KJ F) {n:Nat} (hc:∀x∈h,x.cl n) (hn:h.length<=n):∀x∈h.set id o,x.cl n:=by
 intro x hx
 rcases List.mem_or_eq_of_mem_set hx with hx | rfl
 ·exact hc x hx
 ·have he:∀e∈KJ.map (asG P2.enc evP),e.1.cl n=true/\e.2.cl n=true:=by
   intro e he
   obtain⟨⟨k,p⟩,hm,rfl⟩:=qo.1 he
   obtain⟨i,hi⟩:=qq hm
   obtain⟨_,_,els,h3,_⟩:=H.val i k p hi
   have:=(q8.1 h3).1
   rw[List.length_set]at this
   simp[asG,evP,P2.enc,P2.cs,V.cl,V.cl1,V.cl0]
   omega
  rcases H.mp with rfl | rfl
  ·exact he
  ·exact he
theorem Qfp {j:Nat}:(List.replicate k O.dead++l)[k+j]?=l[j]?:=by
 rw[qf (by simp)];simp
theorem Qfo {j:Nat}:(List.replicate k O.dead++l).set (k+j) x=List.replicate k O.dead++l.set j x:=by
 rw[ji _ _ (by simp)];simp
end hset
section
variable {P:Program} (hm:P.follows .mixedOrders=true)
include hm
theorem Ep {f ft:FuncId} (hf:Q9 P f (L06.c ft) L06.r L06.n) (ht:Q96 P ft):Q4h P f:=by
 intro b h id o KJ F R first H hF hB hne hR
 refine Bb λhcl=>?_
 obtain⟨v1,l1,hF1⟩:∃v l,F first=v::l:=by
  cases hh:F first with
  | nil=>exact absurd hh hne
  | cons v l=>exact⟨v,l,rfl⟩
 refine Q4c hm hf (qh rfl) ?_
 unfold L06.c
 generalize hK:Q6y h.length L06.r _=K
 have hlt:=(q8.1 H.ob).1
 simp (disch:=omega) [go_sem,P2.enc,P2.cs,Qd,Qg,Qn,Qt]
 refine (Q5x ht H hF1 _).mono ?_
 rintro r h' ⟨rfl,o1,KJ1,rfl,H1⟩
 obtain⟨R1,hR1,hPF1⟩:=hF.take hF1
 have hlen1:=hR1.length_eq
 rw[List.length_cons]at hlen1
 have hsl:(h.set id o1).length=h.length:=by simp
 simp (disch:=omega) [go_sem,P2.enc,P2.cs,Jf,Wy,K8,Ww]
 refine Qh (α:=O × List (P2 × PI) × (P2->List P2) × List Eg × P2 × List P2 × Nat)
  (λp=>PoolAt b (h.set id p.1) id p.1 p.2.1 p.2.2.1/\PF p.2.2.1 p.2.2.2.1/\Trail first p.2.2.2.2.1 p.2.2.2.2.2.1 p.2.2.2.1 R/\p.2.2.2.2.2.1≠[]/\p.2.2.2.2.2.1.length+p.2.2.2.1.length<=4096)
  (λp=>⟨[(0,.mp id),(3,.p h.length 1 0 0),(4,.p (h.length+1) 1 0 0),(5,.p (h.length+3) 1 0 0),(6,.p (h.length+4+p.2.2.2.2.2.2) 1 0 0)],
   h.set id p.1++([.arr 1 2 [first.cs],.arr 1 1 [[.nil]],.arr p.2.2.2.2.2.1.length 2 (p.2.2.2.2.2.1.map P2.cs),.arr 1 1 [[.own (h.length+2) p.2.2.2.2.2.1.length 0 p.2.2.2.2.2.1.length]]]++(List.replicate p.2.2.2.2.2.2 O.dead++[.arr 1 2 [p.2.2.2.2.1.cs]]))⟩)
  (λp=>p.2.2.2.1.length) (o1,KJ1,Q16 F first l1,R1,v1,[first],0) ⟨H1,hPF1,(Trail.start hB first).step hR1,by simp,by simp;omega⟩ ?_ ?_
 ·simp[go_sem]
  exact⟨by omega,Qy (H1.clh (hcl _ (by omega)) (by omega)) (by simp[WeakH,O.cl,P2.cs,V.cl,V.cl1,V.cl0])⟩
 ·rintro⟨o2,KJ2,F2,R2,cur,vs,k⟩ ⟨H2,hPF2,hT,hvs,hlen⟩
  simp only at H2 hPF2 hT hvs hlen ⊢
  have hlt2:id<(h.set id o2).length:=by rw[List.length_set];exact hlt
  have hob:∀tl,(h.set id o2++tl)[id]?=some o2:=λtl=>by rw[qd hlt2];exact H2.ob
  cases hbf:(!(cur.x == first.x) || !(cur.y == first.y)) with
  | true =>
    have hne2:cur≠first:=by
     intro hh
     rw[hh]at hbf
     simp at hbf
    obtain⟨e,he,he2⟩:=hT.more hne2
    obtain⟨v,l,hFc⟩:∃v l,F2 cur=v::l:=by
     cases hh:F2 cur with
     | nil=>exact absurd he2 (hPF2.none.1 hh e he)
     | cons v l=>exact⟨v,l,rfl⟩
    obtain⟨R3,hR3,hPF3⟩:=hPF2.take hFc
    have hlen3:=hR3.length_eq
    rw[List.length_cons]at hlen3
    obtain⟨i,p,els,a1,_,a3,a4,_,_,_⟩:=H2.take hFc
    have hpj:∀tl,(h.set id o2++tl)[p.j]?=some (O.arr p.g 2 (els.map P2.cs)):=λtl=>by rw[qd (q8.1 a3).1];exact a3
    have hfe:Ql [1,1] (V.a [V.i .i64 cur.x,V.i .i64 cur.y]) (KJ2.map (asG P2.enc evP))=some (some (i,.own p.j p.g p.o p.n)):=by
     rw[show V.a [V.i .i64 cur.x,V.i .i64 cur.y]=cur.enc from rfl,Xv W9 evP cur KJ2,a1];rfl
    have hent:∀tl,Ze (h.set id o2++tl) (.mp id)=some (KJ2.map (asG P2.enc evP)):=λtl=>by
     unfold Ze
     simp only[hob tl]
     rcases H2.mp with rfl | rfl<;>rfl
    have hpn:0<p.n:=a4
    have hvt:List.take vs.length (vs.map P2.cs)=vs.map P2.cs:=qe (by simp)
    simp (disch:=omega) [go_sem,P2.enc,P2.cs,Jf,Wy,K8,Ww,Wx,Ek,Q0c,hbf,hent,hfe,hpj,hpn,hvt,Qfp,Qfo]
    refine⟨⟨by omega,by omega⟩,?_⟩
    refine (Q5x ht H2 hFc _).mono ?_
    rintro r h' ⟨rfl,o3,KJ3,rfl,H3⟩
    rw[List.set_set]at H3
    have hsl3:(h.set id o3).length=h.length:=by simp
    simp (disch:=omega) [go_sem,P2.enc,P2.cs,Jf,Wy,K8,Ww,Wx,Ek,Q0c,Qfp,Qfo]
    refine⟨o3,KJ3,Q16 F2 cur l,R3,v,vs++[cur],⟨H3,hPF3,hT.step hR3,by simp,by simp;omega⟩,by omega,k+1,by omega,⟨by omega,by omega,by omega⟩,?_⟩
    have hclo:∀n,(O.arr (vs.length+1) 2 ((vs++[cur]).map P2.cs)).cl n:=Qds Qlm (vs++[cur])
    refine Qy (H3.clh (hcl _ (by omega)) (by omega)) ?_
    have hl1:(vs++[cur]).length=vs.length+1:=by simp
    have hm1:(vs++[cur]).map P2.cs=vs.map P2.cs++[[V.i .i64 cur.x,V.i .i64 cur.y]]:=by rw[qw];rfl
    rw[hl1,<- hm1]
    refine⟨.inr ⟨rfl,by simp[O.cl,V.cl,V.cl1,V.cl0]⟩,.inr ⟨rfl,by simp[O.cl,V.cl,V.cl1,V.cl0]⟩,.inr ⟨rfl,hclo _⟩,.inr ⟨rfl,by simp[O.cl,V.cl,V.cl1,V.cl0]⟩,Qev ⟨.inr ⟨rfl,by simp[O.cl,V.cl,V.cl1,V.cl0]⟩,trivial⟩⟩
  | false =>
    have hbe:cur=first:=by
     simp only[Bool.or_eq_false_iff,Bool.not_eq_false',beq_iff_eq]at hbf
     exact p2_iff.2 hbf
    rw[hbe]at hT
    obtain⟨hB2,hP2⟩:=hT.close hvs
    simp (disch:=omega) [go_sem,P2.enc,P2.cs,Jf,Wy,K8,Ww,Wx,Ek,Q0c,hbf]
    subst hK
    rw[Q9l]
    refine⟨[.a [.own (h.length+2) vs.length 0 vs.length]],h.set id o2++[.dead,.dead,.arr vs.length 2 (vs.map P2.cs)],?_,?_⟩
    ·simp (disch:=omega) [go_sem,L06.r,Jf]
    ·have hclo:∀n,(O.arr vs.length 2 (vs.map P2.cs)).cl n:=Qds Qlm vs
     refine⟨rfl,by simp[V.cl,V.cl1,V.cl0],by simp,by simp,Qy (H2.clh (hcl _ (by simp)) (by simp)) ⟨.inl rfl,.inl rfl,.inr ⟨rfl,hclo _⟩,trivial⟩,?_⟩
     exact⟨vs,o2,KJ2,F2,R2,rfl,rfl,H2,hPF2,hB2,hP2,hvs⟩
end
def Bv (R:List Eg):P2->List P2:=λk=>(R.filter λe=>decide (e.1=k)).map Prod.snd
theorem outF_ok (R:List Eg):PF (Bv R) R:=λ_=>List.Perm.refl _
theorem Qi2 (R:List Eg) (a b:P2):Bv (R++[(a,b)])=Q16 (Bv R) a (Bv R a++[b]):=by
 funext k
 unfold Bv Q16
 rw[List.filter_append,qw]
 by_cases h:k=a
 ·subst h;simp
 ·rw[if_neg h]
  simp
  exact λhh=>h hh.symm
structure UMc (hx:List O) (KJ:List (P2 × PI)) (F:P2->List P2):Prop where
 val:∀(i:Nat) (k:P2) (p:PI),KJ[i]?=some (k,p)->∃j,p=⟨j+2,(F k).length,0,(F k).length⟩/\1<=(F k).length/\hx[j]?=some (.arr (F k).length 2 ((F k).map P2.cs))
 inj:∀(i i':Nat) (k k':P2) (p p':PI),KJ[i]?=some (k,p)->KJ[i']?=some (k',p')->p.j=p'.j->i=i'
 key:(KJ.map Prod.fst).Nodup
 none:∀e,Z8 e KJ=Option.none->F e=[]
theorem UMc.nil:UMc [] [] (λ_=>[]):=⟨by simp,by simp,by simp,by simp⟩
theorem UMc.app {hx:List O} {KJ:List (P2 × PI)} {F:P2->List P2} (h:UMc hx KJ F) (l:List O):UMc (hx++l) KJ F :=
 ⟨λi k p hi=>by obtain⟨j,h1,h2,h3⟩:=h.val i k p hi;exact⟨j,h1,h2,by rw[qd (q8.1 h3).1];exact h3⟩,h.inj,h.key,h.none⟩
theorem UMc.new {hx:List O} {KJ:List (P2 × PI)} {F:P2->List P2} (h:UMc hx KJ F) {e v:P2} (he:Z8 e KJ=Option.none) {l:List O} {j0:Nat} (hj:hx.length<=j0) (ho:(hx++l)[j0]?=some (.arr 1 2 [v.cs])) :
  UMc (hx++l) (KJ++[(e,⟨j0+2,1,0,1⟩)]) (Q16 F e [v]):=by
 have hk:=fndG_none.1 he
 have hval:∀(i:Nat) (k:P2) (p:PI),(KJ++[(e,(⟨j0+2,1,0,1⟩:PI))])[i]?=some (k,p)->(i<KJ.length/\KJ[i]?=some (k,p)/\k≠e/\p.j<hx.length+2)∨(i=KJ.length/\k=e/\p=⟨j0+2,1,0,1⟩):=by
  intro i k p hi
  by_cases hl:i<KJ.length
  ·rw[qd hl]at hi
   obtain⟨j,rfl,_,h3⟩:=h.val i k p hi
   have:=(q8.1 h3).1
   refine .inl ⟨hl,hi,?_,by simp only[];omega⟩
   rintro rfl
   exact hk (qo.2 ⟨_,qb hi,rfl⟩)
  ·rw[qf (by omega)]at hi
   have h0:i-KJ.length=0:=by
    have:=(q8.1 hi).1
    simp at this;omega
   rw[h0]at hi
   simp at hi
   exact .inr ⟨by omega,hi.1.symm,hi.2.symm⟩
 refine⟨λi k p hi=>?_,λi i' k k' p p' h1 h2 h3=>?_,?_,λa ha=>?_⟩
 ·rcases hval i k p hi with⟨_,h1,h2,_⟩ | ⟨_,rfl,rfl⟩
  ·rw[Xa h2]
   exact(h.app l).val i k p h1
  ·rw[Xy]
   exact⟨j0,rfl,by simp,by simpa using ho⟩
 ·rcases hval i k p h1 with⟨_,a1,_,a3⟩ | ⟨a1,_,rfl⟩<;>rcases hval i' k' p' h2 with⟨_,b1,_,b3⟩ | ⟨b1,_,rfl⟩
  ·exact h.inj i i' k k' p p' a1 b1 h3
  ·simp only at h3;omega
  ·simp only at h3;omega
  ·omega
 ·rw[qw,List.nodup_append]
  exact⟨h.key,by simp,λa ha b hb=>by simp at hb;subst hb;rintro rfl;exact hk ha⟩
 ·have hn:=fndG_none.1 ha
  rw[qw,qg]at hn
  have hne:a≠e:=by rintro rfl;exact hn (.inr (by simp))
  rw[Xa hne]
  exact h.none a (fndG_none.2 λhm=>hn (.inl hm))
theorem UMc.old {hx:List O} {KJ:List (P2 × PI)} {F:P2->List P2} (h:UMc hx KJ F) {e:P2} {i j:Nat} {p:PI} (he:KJ[i]?=some (e,p)) (hj:p.j=j+2) {l:List P2} (hl:1<=l.length) :
  UMc (hx.set j (.arr l.length 2 (l.map P2.cs))) (KJ.set i (e,⟨j+2,l.length,0,l.length⟩)) (Q16 F e l):=by
 have hil:=(q8.1 he).1
 have hkey:(KJ.set i (e,(⟨j+2,l.length,0,l.length⟩:PI))).map Prod.fst=KJ.map Prod.fst:=by
  rw[List.map_set]
  exact K1 _ _ _ (by rw[qp,he];rfl)
 have hval:∀(i':Nat) (k:P2) (p':PI),(KJ.set i (e,(⟨j+2,l.length,0,l.length⟩:PI)))[i']?=some (k,p')->(i'≠i/\KJ[i']?=some (k,p')/\k≠e)∨(i'=i/\k=e/\p'=⟨j+2,l.length,0,l.length⟩):=by
  intro i' k p' hi
  by_cases hii:i=i'
  ·subst hii
   rw[qm hil]at hi
   simp only[Option.some.injEq,Prod.mk.injEq]at hi
   exact .inr ⟨rfl,hi.1.symm,hi.2.symm⟩
  ·rw[qt hii]at hi
   refine .inl ⟨λhh=>hii hh.symm,hi,?_⟩
   rintro rfl
   have h1:=Yl h.key hi
   have h2:=Yl h.key he
   rw[h1]at h2
   simp only[Option.some.injEq,Prod.mk.injEq]at h2
   exact hii h2.1.symm
 refine⟨λi' k p' hi=>?_,λi1 i2 k k' p1 p2 h1 h2 h3=>?_,by rw[hkey];exact h.key,λa ha=>?_⟩
 ·rcases hval i' k p' hi with⟨h1,h2,h3⟩ | ⟨_,rfl,rfl⟩
  ·rw[Xa h3]
   obtain⟨j',q1,q2,q3⟩:=h.val i' k p' h2
   refine⟨j',q1,q2,?_⟩
   rw[qt]
   ·exact q3
   ·rintro rfl
    exact h1 (h.inj i' i k e p' p h2 he (by rw[q1,hj]))
  ·rw[Xy]
   refine⟨j,rfl,hl,?_⟩
   obtain⟨j',q1,q2,q3⟩:=h.val i k p he
   have hjj:j'=j:=by rw[q1]at hj;simp only at hj;omega
   subst hjj
   rw[qm (q8.1 q3).1]
 ·rcases hval i1 k p1 h1 with⟨a1,a2,_⟩ | ⟨rfl,_,rfl⟩<;>rcases hval i2 k' p2 h2 with⟨b1,b2,_⟩ | ⟨rfl,_,rfl⟩
  ·exact h.inj i1 i2 k k' p1 p2 a2 b2 h3
  ·exact h.inj i1 i2 k e p1 p a2 he (by rw[h3,hj])
  ·exact h.inj i1 i2 e k' p p2 he b2 (by rw[<- h3,hj])
  ·rfl
 ·have hn:=fndG_none.1 ha
  rw[hkey]at hn
  have hne:a≠e:=by rintro rfl;exact hn (qo.2 ⟨_,qb he,rfl⟩)
  rw[Xa hne]
  exact h.none a (fndG_none.2 hn)
theorem UMc.pool {hx:List O} {KJ:List (P2 × PI)} {F:P2->List P2} (h:UMc hx KJ F) (o1:O):PoolAt (hx.length+2) (.mp (KJ.map (asG P2.enc evP))::o1::hx) 0 (.mp (KJ.map (asG P2.enc evP))) KJ F where
 mp:=.inl rfl
 ob:=rfl
 val i k p hi:=by
  obtain⟨j,rfl,h2,h3⟩:=h.val i k p hi
  exact⟨rfl,h2,F k,by simpa using h3,by simp,by simp⟩
 key:=h.key
 lt i k p hi:=by
  obtain⟨j,rfl,h2,h3⟩:=h.val i k p hi
  have:=(q8.1 h3).1
  simp only[];omega
 none:=h.none
theorem UMc.cl2 {hx:List O} {KJ:List (P2 × PI)} {F:P2->List P2} (h:UMc hx KJ F) {N:Nat} (hN:hx.length+2<=N):∀(a b:V) (x:P2) (y:PI),(x,y)∈KJ->asG P2.enc evP (x,y)=(a,b)->a.cl N=true/\b.cl N=true:=λa b x y hm he=>by
 obtain⟨i,hi⟩:=qq hm
 obtain⟨j,rfl,_,h3⟩:=h.val i x y hi
 have:=(q8.1 h3).1
 simp only[asG,evP,Prod.mk.injEq]at he
 obtain⟨rfl,rfl⟩:=he
 simp[P2.enc,P2.cs,V.cl,V.cl1,V.cl0]
 omega
theorem ne_take {l:List Sg4} {k:Nat} {s:Sg4} (h:l[k]?=some s):neE (egs (l.take (k+1)))=neE (egs (l.take k))++(if s.eg.1=s.eg.2 then [] else [s.eg]):=by
 rw[Qa3 l h]
 unfold neE
 rw[List.filter_append]
 congr 1
 by_cases h:s.eg.1=s.eg.2
 ·simp[h]
 ·simp[h]
end Go.Abs
