/- Part of the library on which the proof stands: an abstract machine, its values and its soundness against the model; or what functions of the program do to such values. -/
import Derived.Test.YtnaehggpjfdenaaGreatGoRpB
import Derived.Test.YtnaehggpjfdenaaGreatGoSet
import Derived.Test.YtnaehggpjfdenaaGreatAbsSS
import Derived.Test.YtnaehggpjfdenaaGreatGoRsD
set_option linter.unusedVariables false
set_option linter.unusedSimpArgs false
set_option maxHeartbeats 16000000
set_option maxRecDepth 20000
namespace Go.Abs
def Q7t (a b:P2):Int:=if a.x<b.x∨(a.x=b.x/\a.y<b.y) then -1 else if a=b then 0 else 1
theorem Jx (a b:P2):ltC Q7t a b=decide (a.x<b.x∨(a.x=b.x/\a.y<b.y)):=by
 unfold ltC Q7t
 by_cases h:a.x<b.x∨(a.x=b.x/\a.y<b.y)
 ·simp[h]
 ·rw[if_neg h]
  by_cases h2:a=b<;>simp[h,h2]
theorem Qkv:Go.Sort.SWO (ltC Q7t) where
 irrefl x:=by rw[Jx];simp
 trans x y z:=by
  rw[Jx,Jx,Jx]
  simp only[decide_eq_true_eq]
  omega
 ntrans x y z:=by
  rw[Jx,Jx,Jx]
  simp only[decide_eq_false_iff_not]
  omega
def Qal (P:Program) (f:FuncId):Prop:=∀a b:P2,CallIs P f [a.enc,b.enc] (.i .i64 (Q7t a b))
def Qox (o:O) (ents:List (V × V)):Prop:=o=.mp ents∨o=.md ents
def Qae (P:Program) (f:FuncId):Prop:=∀(h:List O) (id:Nat) (o:O) (ents:List (V × V)) (e:P2) (i q g off n:Nat) (els:List (List V)) (v:P2),Qox o ents->h[id]?=some o ->
 Qm [1,1] e.enc ents=some (some (i,.own q g off n))->h[q]?=some (.arr g 2 els)->1<=n->off+n<=els.length->els[off]?=some v.cs ->
 ACall P f [.mp id,e.enc] h (λr h'=>r=v.enc/\((n=1/\h'=h.set id (.md (ents.eraseIdx i)))∨(n≠1/\∃o',Qox o' (ents.set i (e.enc,.own q g (off+1) (n-1)))/\h'=h.set id o')))
section
variable {P:Program} (hm:P.follows .mixedOrders=true)
include hm
theorem Bq {f:FuncId} (hf:Q9 P f L05.c L05.r L05.n):Qal P f:=by
 intro a b
 refine PureC.is (Q7 hm hf (qh rfl) ?_) rfl
 unfold L05.c Q7t
 by_cases h1:a.x<b.x
 ·simp[go_sem,P2.enc,P2.cs,h1,L05.r]
 ·by_cases h2:a.x=b.x
  ·by_cases h3:a.y<b.y
   ·simp[go_sem,P2.enc,P2.cs,h2,h3,L05.r]
   ·by_cases h4:a.y=b.y
    ·simp[go_sem,P2.enc,P2.cs,h2,h4,p2_iff,L05.r]
    ·simp[go_sem,P2.enc,P2.cs,h2,h3,h4,p2_iff,L05.r]
  ·have h2':(a.x == b.x)=false:=by simpa using h2
   simp[go_sem,P2.enc,P2.cs,h1,h2,h2',p2_iff,L05.r]
theorem Q2y {f:FuncId} (hf:Q9 P f L07.c L07.r L07.n):Qae P f:=by
 intro h id o ents e i q g off n els v ho hid hfe hq hn hol hv
 refine W7 λhcl=>?_
 obtain⟨hlt,hid'⟩:=q8.1 hid
 obtain⟨hqt,hq'⟩:=q8.1 hq
 have hvl:=(q8.1 hv).1
 obtain⟨_,hv'⟩:=q8.1 hv
 have hqid:q≠id:=by
  rintro rfl
  rw[hid]at hq
  rcases ho with rfl | rfl<;>simp at hq
 have hqs:∀o',(h.set id o')[q]?=some (.arr g 2 els):=λo'=>by rw[qt (λhh=>hqid hh.symm)];exact hq
 have hqs':∀o' (hh:q<(h.set id o').length),(h.set id o')[q]=.arr g 2 els:=λo' hh=>(q8.1 (hqs o')).2
 have hentcl:∀N,h.length<=N->∀x∈ents,x.1.cl N=true/\x.2.cl N=true:=λN hN x hx=>by
  have:=hcl N hN o (qb hid)
  rcases ho with rfl | rfl<;>exact this x hx
 have hpad:∀(o':O) (l:List O) (N:Nat),h.length<=N->o'.cl N->WeakH N (h.set id o'++l) (h.set id o'):=λo' l N hN ho'=>by
  have:=Qr (n:=N) (a:=l) (b:=[]) (h:=h.set id o') (λo1 h1=>by
   rcases List.mem_or_eq_of_mem_set h1 with h1 | rfl
   ·exact hcl N hN o1 h1
   ·exact ho') (by cases l<;>trivial)
  rwa [List.append_nil]at this
 refine Ie hm hf (qh rfl) ?_
 unfold L07.c
 generalize hK:Q5c h.length L07.r _=K
 simp only[P2.enc,P2.cs]at hfe hv
 have hqa:∀(o':O) (l:List O),(h.set id o'++l)[q]?=some (.arr g 2 els):=λo' l=>by
  rw[qd (by rw[List.length_set];exact hqt)];exact hqs o'
 have g0:∀(o':O) (l:List O),(h.set id o'++l)[h.length]?=l[0]?:=λo' l=>by
  have:=Qf (h.set id o') l
  rwa [List.length_set]at this
 have gk:∀(o':O) (l:List O) (k:Nat),(h.set id o'++l)[h.length+k]?=l[k]?:=λo' l k=>by
  have:=Qg (h.set id o') l k
  rwa [List.length_set]at this
 have sk:∀(o':O) (l:List O) (k:Nat) (x:O),(h.set id o'++l).set (h.length+k) x=h.set id o'++l.set k x:=λo' l k x=>by
  have:=Qn (h.set id o') l k x
  rwa [List.length_set]at this
 have fin:∀(env:List (Nat × V)) (o':O) (x:O),get 4 env=.p (h.length+1) 1 0 0->(∀N,h.length<=N->o'.cl N) ->
   ((n=1/\o'=.md (ents.eraseIdx i))∨(n≠1/\Qox o' (ents.set i (e.enc,.own q g (off+1) (n-1))))) ->
   K .r ⟨env,h.set id o'++[x,.arr 1 2 [v.cs]]⟩:=by
  intro env o' x henv hocl hor
  rw[<- hK,Q3b]
  refine⟨[v.enc],h.set id o',?_,rfl,?_,by simp,by simp,hpad o' _ _ (by simp) (hocl _ (by simp)),rfl,?_⟩
  ·simp[L07.r,Ym,henv,gk,Yg,Xs,P2.cs,P2.enc]
  ·simp[P2.enc,P2.cs,V.cl,V.cl1,V.cl0]
  ·rcases hor with⟨a,rfl⟩ | ⟨a,b⟩
   ·exact .inl ⟨a,rfl⟩
   ·exact .inr ⟨a,o',b,rfl⟩
 have hecl:∀N,h.length<=N->(O.md (ents.eraseIdx i)).cl N:=λN hN x hx=>hentcl N hN x (List.mem_of_mem_eraseIdx hx)
 have hscl:∀N,h.length<=N->∀x∈ents.set i (e.enc,.own q g (off+1) (n-1)),x.1.cl N=true/\x.2.cl N=true:=λN hN x hx=>by
  rcases List.mem_or_eq_of_mem_set hx with h1 | rfl
  ·exact hentcl N hN x h1
  ·simp[P2.enc,P2.cs,V.cl,V.cl1,V.cl0];omega
 simp only[P2.enc,P2.cs]at fin hscl
 by_cases h1:n=1
 ·subst h1
  rcases ho with rfl | rfl
  ·simp (disch:=omega) [go_sem,P2.enc,P2.cs,hid,hid',hlt,hqt,hq,hq',hfe,hv,hv',hvl,hqa,gk,g0,sk,Qg,Qf,Qn,Qq,J0 hlt,Bv hlt,J0 hqt]
   exact fin _ _ _ (by simp[go_sem]) hecl (.inl ⟨rfl,rfl⟩)
  ·simp (disch:=omega) [go_sem,P2.enc,P2.cs,hid,hid',hlt,hqt,hq,hq',hfe,hv,hv',hvl,hqa,gk,g0,sk,Qg,Qf,Qn,Qq,J0 hlt,Bv hlt,J0 hqt]
   exact fin _ _ _ (by simp[go_sem]) hecl (.inl ⟨rfl,rfl⟩)
 ·have hn1:¬ ((n:Int)=1):=by omega
  have hn2:(n == 1)=false:=by simpa using h1
  rcases ho with rfl | rfl
  ·simp (disch:=omega) [go_sem,P2.enc,P2.cs,hid,hid',hlt,hqt,hq,hq',hfe,hv,hv',hvl,hqa,gk,g0,sk,h1,hn1,hn,Qg,Qf,Qn,Qq,J0 hlt,Bv hlt,J0 hqt]
   refine⟨by omega,fin _ _ _ ?_ ?_ ?_⟩
   ·simp[go_sem]
   ·exact λN hN=>hscl N hN
   ·exact .inr ⟨h1,.inl rfl⟩
  ·simp (disch:=omega) [go_sem,P2.enc,P2.cs,hid,hid',hlt,hqt,hq,hq',hfe,hv,hv',hvl,hqa,gk,g0,sk,h1,hn1,hn,Qg,Qf,Qn,Qq,J0 hlt,Bv hlt,J0 hqt]
   refine⟨by omega,fin _ _ _ ?_ ?_ ?_⟩
   ·simp[go_sem]
   ·exact λN hN=>hscl N hN
   ·exact .inr ⟨h1,.inr rfl⟩
end
def Uu (L:List (P2 × Int)) (e:P2):Int:=match Za e L with | some (_,n)=>n | none=>0
def W5 (L:List (P2 × Int)) (e:P2) (d:Int):List (P2 × Int):=Qby e (Uu L e+d) L
theorem Qb4 (L:List (P2 × Int)) (e:P2):Uu L e=((Za e L).map Prod.snd).getD 0:=by
 unfold Uu;cases Za e L with
 | none=>rfl
 | some p=>rfl
theorem Q04 (L:List (P2 × Int)) (e e':P2) (d:Int):Uu (W5 L e d) e'=Uu L e'+if e'=e then d else 0:=by
 rw[Qb4 (W5 L e d),W5,Qpt]
 by_cases h:e'=e
 ·subst h;simp
 ·rw[if_neg h,if_neg h,<- Qb4];omega
def Qdq (L:List (P2 × Int)):Prop:=(L.map Prod.fst).Nodup
theorem Q17 {L:List (P2 × Int)} (h:Qdq L) (e:P2) (d:Int):Qdq (W5 L e d)/\(W5 L e d).length<=L.length+1/\∀x,x∈(W5 L e d).map Prod.fst↔x∈L.map Prod.fst∨x=e:=by
 have hk:=Qji e (Uu L e+d) L
 unfold Qdq W5
 rw[hk]
 have hl:(Qby e (Uu L e+d) L).length=((Qby e (Uu L e+d) L).map Prod.fst).length:=by simp
 rw[hl,hk]
 by_cases hm:e∈L.map Prod.fst
 ·rw[if_pos hm]
  refine⟨h,by simp,λx=>⟨.inl,?_⟩⟩
  rintro (hx | rfl)
  ·exact hx
  ·exact hm
 ·rw[if_neg hm]
  refine⟨?_,by simp,λx=>by simp⟩
  rw[List.nodup_append]
  exact⟨h,by simp,λa ha b hb=>by simp at hb;subst hb;rintro rfl;exact hm ha⟩
def Kj (l:List Sg4) (k:Nat):List (P2 × Int):=(l.take k).foldl (λL s=>W5 (W5 L s.eg.1 1) s.eg.2 (-1)) []
theorem Q7f {l:List Sg4} {k:Nat} {s:Sg4} (h:l[k]?=some s):Kj l (k+1)=W5 (W5 (Kj l k) s.eg.1 1) s.eg.2 (-1):=by
 unfold Kj
 rw[List.take_add_one,h]
 simp
theorem Q31 (l:List Sg4):∀k,k<=l.length->Qdq (Kj l k)/\(Kj l k).length<=2*k/\(∀p,Uu (Kj l k) p=Ih (egs (l.take k)) p)/\∀e∈egs (l.take k),e.1∈(Kj l k).map Prod.fst/\e.2∈(Kj l k).map Prod.fst
 | 0,_=>⟨by simp[Kj,Qdq],by simp[Kj],λp=>by simp[Kj,Uu,Za,Ih,egs],by simp[egs]⟩
 | k+1,h=>by
   obtain⟨h1,h2,h3,h4⟩:=Q31 l k (by omega)
   have hq:=Wj (show k<l.length by omega)
   generalize Qei l k=s at hq
   obtain⟨a1,a2,a3⟩:=Q17 h1 s.eg.1 1
   obtain⟨b1,b2,b3⟩:=Q17 a1 s.eg.2 (-1)
   rw[Q7f hq,Qba l hq]
   refine⟨b1,by omega,λp=>?_,λe he=>?_⟩
   ·rw[Q04,Q04,h3,Ql1]
    by_cases c1:p=s.eg.1<;>by_cases c2:p=s.eg.2
    ·rw[if_pos c1,if_pos c2,if_pos c1.symm,if_pos c2.symm];omega
    ·rw[if_pos c1,if_neg c2,if_pos c1.symm,if_neg (λh=>c2 h.symm)];omega
    ·rw[if_neg c1,if_pos c2,if_neg (λh=>c1 h.symm),if_pos c2.symm];omega
    ·rw[if_neg c1,if_neg c2,if_neg (λh=>c1 h.symm),if_neg (λh=>c2 h.symm)];omega
   ·rcases qg.1 he with he | he
    ·obtain⟨q1,q2⟩:=h4 e he
     exact⟨(b3 _).2 (.inl ((a3 _).2 (.inl q1))),(b3 _).2 (.inl ((a3 _).2 (.inl q2)))⟩
    ·rw[qn.1 he]
     exact⟨(b3 _).2 (.inl ((a3 _).2 (.inr rfl))),(b3 _).2 (.inr rfl)⟩
theorem Qo4 (l:List Sg4):Qdf (egs l)=(Kj l l.length).all λp=>decide (p.2=0):=by
 obtain⟨h1,h2,h3,h4⟩:=Q31 l l.length (Nat.le_refl _)
 rw[qi]at h3 h4
 have hv:∀p n,(p,n)∈Kj l l.length->n=Ih (egs l) p:=by
  intro p n hp
  obtain⟨i,hi⟩:=qq hp
  have:=Yv h1 hi
  rw[<- h3 p];unfold Uu;rw[this]
 rw[Bool.eq_iff_iff]
 unfold Qdf
 rw[qj,qj]
 constructor
 ·rintro h ⟨p,n⟩ hp
  have hb:=balB_iff.1 (qj.2 h:Qdf (egs l)=true) p
  have:=hv p n hp
  unfold Ih at this
  simp only[decide_eq_true_eq];omega
 ·intro h e he
  obtain⟨k1,k2⟩:=h4 e he
  obtain⟨⟨p1,n1⟩,m1,rfl⟩:=qo.1 k1
  obtain⟨⟨p2,n2⟩,m2,e2⟩:=qo.1 k2
  have z1:=h _ m1
  have z2:=h _ m2
  have v1:=hv _ _ m1
  have v2:=hv _ _ m2
  simp only[decide_eq_true_eq]at z1 z2
  simp only[]at e2
  rw[e2]at v2
  simp only[Bool.and_eq_true,decide_eq_true_eq]
  exact⟨by omega,by omega⟩
def evI (n:Int):V:=.i .i64 n
theorem Qad (M:List (P2 × Int)) (n:Nat):∀(a b:V) (x:P2) (y:Int),(x,y)∈M->asG P2.enc evI (x,y)=(a,b)->a.cl n=true/\b.cl n=true:=by
 intro a b x y _ he
 simp only[asG,evI,Prod.mk.injEq]at he
 obtain⟨rfl,rfl⟩:=he
 simp[P2.enc,P2.cs,V.cl,V.cl1,V.cl0]
theorem Q82 {M:List (P2 × Int)} {e:P2} {d:Int} (h1:-100000<=Uu M e+d) (h2:Uu M e+d<=100000) :
  (Qm [1,1] e.enc (M.map (asG P2.enc evI))=some none/\M.map (asG P2.enc evI)++[(e.enc,.i .i64 d)]=(W5 M e d).map (asG P2.enc evI)) ∨
  ∃(i:Nat) (n:Int),Qm [1,1] e.enc (M.map (asG P2.enc evI))=some (some (i,.i .i64 n))/\M[i]?=some (e,n)/\IntKind.i64.wrap (n+d)=n+d /\
   (M.map (asG P2.enc evI)).set i (e.enc,.i .i64 (n+d))=(W5 M e d).map (asG P2.enc evI):=by
 have hf:=Jb Wq evI e M
 unfold W5 Qby
 unfold Uu at *
 cases hfn:Za e M with
 | none =>
   rw[hfn]at hf
   refine .inl ⟨hf,?_⟩
   simp[asG,evI]
 | some p =>
   obtain⟨i,n⟩:=p
   rw[hfn]at hf h1 h2
   simp only[]at h1 h2
   refine .inr ⟨i,n,hf,?_,Q0 (by omega) (by omega),?_⟩
   ·exact Zy hfn
   ·rw[List.map_set];rfl
theorem Xv {α β:Type} (f:α->β) (M:List α) (x:β):(M.map f++[x])[M.length]?=some x:=by
 rw[qf (by simp)];simp
theorem Xu {α β:Type} (f:α->β) (M:List α) (x y:β):(M.map f++[x]).set M.length y=M.map f++[y]:=by
 have:=jm (s:=M.map f) (t:=[x]) (x:=y) M.length (by simp)
 rw[this];simp
theorem Xt {α β:Type} (f:α->β) {M:List α} {i:Nat} {y:α} (h:M[i]?=some y) (x:β):((M.map f).set i x)[i]?=some x:=by
 have:=(q8.1 h).1
 rw[qm (by simpa using this)]
def SeenZ (M:List (P2 × Int)) (seen:List Nat):Prop:=∀i∈seen,∀p,M[i]?=some p->p.2=0
section
variable {P:Program} (hm:P.follows .mixedOrders=true)
include hm
theorem E7 {f:FuncId} (hf:Q9 P f L03.c L03.r L03.n):Qsl P f:=by
 intro l hl
 rw[Qo4]
 refine PureC.is (Q7 hm hf (qh rfl) ?_) rfl
 unfold L03.c
 simp[go_sem,Yd]
 refine Qi (α:=Nat) (λk=>k<=l.length)
  (λk=>⟨[(3,.mp 0),(9,Yd l),(10,.i .i64 l.length),(11,.i .i64 k)],[.mp ((Kj l k).map (asG P2.enc evI))]⟩)
  (λk=>l.length-k) 0 (Nat.zero_le _) ?_ ?_
 ·simp[go_sem,Yd,Kj]
 ·intro k hk
  by_cases hkl:k=l.length
  ·subst hkl
   obtain⟨h1,h2,_,_⟩:=Q31 l l.length (Nat.le_refl _)
   generalize Kj l l.length=M at *
   generalize hB:(M.all λp=>decide (p.2=0))=B
   simp[go_sem,Yd]
   refine Qi (α:=List Nat) (λseen=>SeenZ M seen)
    (λseen=>⟨[(31,.p 1 1 0 0)],[.mp (M.map (asG P2.enc evI)),.it (some 0) M.length seen]⟩)
    (λseen=>left M.length seen) [] (by simp[SeenZ]) ?_ ?_
   ·simp[go_sem]
    exact Qad _ _
   ·intro seen hseen
    simp[go_sem,Mnx]
    refine⟨λhall=>?_,?_⟩
    ·obtain rfl:true=B:=by
      rw[<- hB];symm
      rw[qj]
      intro p hp
      obtain⟨i,hi⟩:=qq hp
      simpa using hseen i (hall i (q8.1 hi).1) p hi
     simp[go_sem,L03.r]
    ·rintro i a b e n hi hab hni
     simp only[asG,Prod.mk.injEq]at hab
     obtain⟨rfl,rfl⟩:=hab
     have hil:i<M.length:=(q8.1 hi).1
     have hleft:=Qhg hil hni
     have hgi:(M.map (asG P2.enc evI))[i]?=some (e.enc,.i .i64 n):=by rw[qp,hi];rfl
     simp[go_sem,hi,asG,evI]
     by_cases hn:n=0
     ·subst hn
      simp[go_sem]
      refine⟨seen++[i],?_,hleft,?_,rfl⟩
      case refine_2 =>
       rintro a b x y hxy rfl rfl
       exact Qad M 2 _ _ x y hxy rfl
      intro j hj p hp
      rcases qg.1 hj with h | h
      ·exact hseen j h p hp
      ·rw[qn.1 h,hi]at hp
       obtain rfl:=Option.some.inj hp
       rfl
     ·obtain rfl:false=B:=by
       rw[<- hB];symm
       rw[List.all_eq_false]
       exact⟨_,qb hi,by simpa using hn⟩
      have hnb:(n != 0)=true:=by simpa using hn
      simp[go_sem,hn,hnb,L03.r]
  ·have hlt:k<l.length:=by omega
   have hq:=Wj hlt
   generalize Qei l k=s at hq
   obtain⟨_,hq'⟩:=q8.1 hq
   obtain⟨m1,m2,m3,m4⟩:=Q31 l k hk
   have hms:=Q7f hq
   have hb1:=Qi0 (egs (l.take k)) s.eg.1
   have hb2:=Qi0 (egs (l.take k)) s.eg.2
   rw[<- m3,Q37,qv]at hb1 hb2
   have hv2:=Q04 (Kj l k) s.eg.1 s.eg.2 1
   generalize Kj l k=M at *
   have hbb:-8200<=Uu (W5 M s.eg.1 1) s.eg.2/\Uu (W5 M s.eg.1 1) s.eg.2<=8200:=by
    rw[hv2];split<;>omega
   have hM2l:(W5 M s.eg.1 1).length<=M.length+1:=(Q17 m1 _ _).2.1
   have R1:=Q82 (M:=M) (e:=s.eg.1) (d:=1) (by omega) (by omega)
   have R2:=Q82 (M:=W5 M s.eg.1 1) (e:=s.eg.2) (d:=-1) (by omega) (by omega)
   rw[<- hms]at R2
   have hcl:=Qad (Kj l (k+1)) 1
   generalize hM2:Kj l (k+1)=M2 at *
   generalize W5 M s.eg.1 1=M1 at *
   have hk1:s.eg.1.enc=V.a [V.i .i64 s.a.1,V.i .i64 s.a.2]:=rfl
   have hk2:s.eg.2.enc=V.a [V.i .i64 s.b.1,V.i .i64 s.b.2]:=rfl
   have w1:IntKind.i64.wrap 1=1:=rfl
   have wm1:IntKind.i64.wrap (-1)=-1:=rfl
   rw[hk1]at R1
   rw[hk2]at R2
   clear hms hv2
   have e1:∀n:Int,asG P2.enc evI (s.eg.1,n)=(V.a [V.i .i64 s.a.1,V.i .i64 s.a.2],.i .i64 n):=λ_=>rfl
   have e2:∀n:Int,asG P2.enc evI (s.eg.2,n)=(V.a [V.i .i64 s.b.1,V.i .i64 s.b.2],.i .i64 n):=λ_=>rfl
   rcases R1 with⟨a1,a2⟩ | ⟨i,n,a1,a2,a3,a4⟩
   ·rcases R2 with⟨b1,b2⟩ | ⟨i',n',b1,b2,b3,b4⟩
    ·
     simp (disch:=omega) [go_sem,Yd,hlt,hq,hq',Sg4.cs,a1,a2,b1,b2,w1,wm1,Xv,Xu,e1,e2]
     refine⟨k+1,by omega,by omega,Q0 (by omega) (by omega),by rw[hM2],?_⟩
     rw[hM2]
     exact hcl
    ·
     have b3':IntKind.i64.wrap (n'-1)=n'+-1:=b3
     simp (disch:=omega) [go_sem,Yd,hlt,hq,hq',Sg4.cs,a1,a2,b1,b2,b3',b4,Xt _ b2,w1,wm1,Xv,Xu,e1,e2]
     refine⟨k+1,by omega,by omega,Q0 (by omega) (by omega),by rw[hM2],?_⟩
     rw[hM2]
     exact hcl
   ·rcases R2 with⟨b1,b2⟩ | ⟨i',n',b1,b2,b3,b4⟩
    ·
     simp (disch:=omega) [go_sem,Yd,hlt,hq,hq',Sg4.cs,a1,a2,a3,a4,Xt _ a2,b1,b2,w1,wm1,Xv,Xu,e1,e2]
     refine⟨k+1,by omega,by omega,Q0 (by omega) (by omega),by rw[hM2],?_⟩
     rw[hM2]
     exact hcl
    ·
     have b3':IntKind.i64.wrap (n'-1)=n'+-1:=b3
     simp (disch:=omega) [go_sem,Yd,hlt,hq,hq',Sg4.cs,a1,a2,a3,a4,Xt _ a2,b1,b2,b3',b4,Xt _ b2,w1,wm1,Xv,Xu,e1,e2]
     refine⟨k+1,by omega,by omega,Q0 (by omega) (by omega),by rw[hM2],?_⟩
     rw[hM2]
     exact hcl
end
theorem Ee {α β:Type} (f:α->β):∀(l:List α) (i:Nat),(l.map f).eraseIdx i=(l.eraseIdx i).map f
 | [],_=>rfl
 | _::_,0=>rfl
 | a::l,i+1=>by simp[Ee f l i]
theorem Ke {α:Type}:∀(l:List α) (i:Nat) (a:α),l[i]?=some a->l.set i a=l
 | [],_,_,_=>rfl
 | b::l,0,a,h=>by simp at h;simp[h]
 | b::l,i+1,a,h=>by simp at h;simp[Ke l i a h]
structure PI where
 j:Nat
 g:Nat
 o:Nat
 n:Nat
def evP (p:PI):V:=.own p.j p.g p.o p.n
def Q1u (F:P2->List P2) (e:P2) (l:List P2):P2->List P2:=λk=>if k=e then l else F k
theorem Je (F:P2->List P2) (e:P2) (l:List P2):Q1u F e l e=l:=if_pos rfl
theorem Xn {F:P2->List P2} {e k:P2} {l:List P2} (h:k≠e):Q1u F e l k=F k:=if_neg h
def PF (F:P2->List P2) (R:List Eg):Prop:=∀k,((R.filter λe=>decide (e.1=k)).map Prod.snd).Perm (F k)
theorem PF.mem {F:P2->List P2} {R:List Eg} (h:PF F R) {k v:P2}:v∈F k↔(k,v)∈R:=by
 rw[<- (h k).mem_iff,qo]
 constructor
 ·rintro⟨⟨a,b⟩,he,rfl⟩
  obtain⟨h1,h2⟩:=qu.1 he
  obtain rfl:a=k:=by simpa using h2
  exact h1
 ·intro hv
  exact⟨(k,v),qu.2 ⟨hv,by simp⟩,rfl⟩
theorem PF.take {F:P2->List P2} {R:List Eg} (h:PF F R) {e v:P2} {l:List P2} (he:F e=v::l):∃R',R.Perm ((e,v)::R')/\PF (Q1u F e l) R':=by
 have hm:(e,v)∈R:=h.mem.1 (by rw[he];simp)
 refine⟨R.erase (e,v),List.perm_cons_erase hm,λk=>?_⟩
 have hp:=((List.perm_cons_erase hm).filter λx=>decide (x.1=k)).map Prod.snd
 have hk:=h k
 by_cases hke:k=e
 ·subst hke
  rw[Je]
  rw[he]at hk
  rw[List.filter_cons,if_pos (by simp),List.map_cons]at hp
  exact(hp.symm.trans hk).cons_inv
 ·rw[Xn hke]
  rw[List.filter_cons,if_neg (by simpa using λh=>hke h.symm)]at hp
  exact hp.symm.trans hk
theorem PF.none {F:P2->List P2} {R:List Eg} (h:PF F R) {k:P2}:F k=[]↔∀e∈R,e.1≠k:=by
 constructor
 ·rintro hk ⟨a,b⟩ he rfl
  have:=h.mem.2 he
  rw[hk]at this;simp at this
 ·intro hn
  refine List.eq_nil_iff_forall_not_mem.2 λv hv=>?_
  exact hn _ (h.mem.1 hv) rfl
structure PoolAt (b:Nat) (h:List O) (id:Nat) (o:O) (KJ:List (P2 × PI)) (F:P2->List P2):Prop where
 mp:Qox o (KJ.map (asG P2.enc evP))
 ob:h[id]?=some o
 val:∀(i:Nat) (k:P2) (p:PI),KJ[i]?=some (k,p)->p.n=(F k).length/\1<=p.n/\∃els:List P2,h[p.j]?=some (.arr p.g 2 (els.map P2.cs))/\p.o+p.n<=els.length/\(els.drop p.o).take p.n=F k
 key:(KJ.map Prod.fst).Nodup
 lt:∀(i:Nat) (k:P2) (p:PI),KJ[i]?=some (k,p)->p.j<b
 none:∀e,Za e KJ=Option.none->F e=[]
theorem PoolAt.app {b:Nat} {h:List O} {id:Nat} {o:O} {KJ:List (P2 × PI)} {F:P2->List P2} (H:PoolAt b h id o KJ F) (l:List O):PoolAt b (h++l) id o KJ F where
 mp:=H.mp
 ob:=by rw[qd (q8.1 H.ob).1];exact H.ob
 val i k p hi:=by
  obtain⟨h1,h2,els,h3,h4⟩:=H.val i k p hi
  exact⟨h1,h2,els,by rw[qd (q8.1 h3).1];exact h3,h4⟩
 key:=H.key
 lt:=H.lt
 none:=H.none
theorem PoolAt.sub {b:Nat} {h l:List O} {id:Nat} {o:O} {KJ:List (P2 × PI)} {F:P2->List P2} (H:PoolAt b (h++l) id o KJ F) (hb:b<=h.length) (hid:id<h.length):PoolAt b h id o KJ F where
 mp:=H.mp
 ob:=by have:=H.ob;rwa [qd hid]at this
 val i k p hi:=by
  obtain⟨h1,h2,els,h3,h4⟩:=H.val i k p hi
  have:=H.lt i k p hi
  exact⟨h1,h2,els,by rwa [qd (by omega)]at h3,h4⟩
 key:=H.key
 lt:=H.lt
 none:=H.none
theorem Qfn {L:List (P2 × PI)} {i:Nat} {e:P2} {p:PI} (hn:(L.map Prod.fst).Nodup) (hi:L[i]?=some (e,p)):e∉(L.eraseIdx i).map Prod.fst/\∀k,k≠e->(k∈(L.eraseIdx i).map Prod.fst↔k∈L.map Prod.fst):=by
 have hlt:=(q8.1 hi).1
 have hp:L.Perm ((e,p)::L.eraseIdx i):=by
  have h1:=List.eraseIdx_eq_take_drop_succ L i
  have h2:L=L.take i++(e,p)::L.drop (i+1):=by
   have h3:=List.take_append_drop i L
   rw[List.drop_eq_getElem_cons hlt,(q8.1 hi).2]at h3
   exact h3.symm
  rw[h1]
  conv=>lhs;rw[h2]
  exact List.perm_middle
 have hm:=hp.map Prod.fst
 rw[List.map_cons]at hm
 have hnd:=hm.nodup_iff.1 hn
 refine⟨(List.nodup_cons.1 hnd).1,λk hk=>?_⟩
 rw[hm.mem_iff,List.mem_cons]
 simp[hk]
theorem PoolAt.take {b:Nat} {h:List O} {id:Nat} {o:O} {KJ:List (P2 × PI)} {F:P2->List P2} (H:PoolAt b h id o KJ F) {e v:P2} {l:List P2} (he:F e=v::l) :
  ∃(i:Nat) (p:PI) (els:List P2),Za e KJ=some (i,p)/\KJ[i]?=some (e,p)/\h[p.j]?=some (.arr p.g 2 (els.map P2.cs))/\1<=p.n/\p.o+p.n<=els.length/\els[p.o]?=some v /\
   ∀o',((p.n=1/\o'=.md ((KJ.map (asG P2.enc evP)).eraseIdx i))∨(p.n≠1/\Qox o' ((KJ.map (asG P2.enc evP)).set i (e.enc,.own p.j p.g (p.o+1) (p.n-1))))) ->
    ∃KJ',PoolAt b (h.set id o') id o' KJ' (Q1u F e l):=by
 cases hf:Za e KJ with
 | none=>rw[H.none e hf]at he;simp at he
 | some q =>
   obtain⟨i,p⟩:=q
   have hi:=Zy hf
   obtain⟨h1,h2,els,h3,h4,h5⟩:=H.val i e p hi
   have hlt:=(q8.1 H.ob).1
   rw[he]at h1 h5
   simp only[List.length_cons]at h1
   have hv:els[p.o]?=some v:=by
    have h6:=congrArg (λl:List P2=>l[0]?) h5
    simp only[jb,jd]at h6
    rw[if_pos (by omega)]at h6
    simpa using h6
   have hl:(els.drop (p.o+1)).take (p.n-1)=l:=by
    have h6:=congrArg List.tail h5
    simp only[List.tail_cons]at h6
    rw[<- h6,<- List.drop_one,List.drop_take,List.drop_drop]
   refine⟨i,p,els,rfl,hi,h3,h2,h4,hv,?_⟩
   have hkeep:∀(o':O) (j g:Nat) (x:List P2),h[j]?=some (.arr g 2 (x.map P2.cs))->(h.set id o')[j]?=some (.arr g 2 (x.map P2.cs)):=λo' j g x hj=>by
    rw[qt]
    ·exact hj
    ·rintro rfl
     rw[H.ob]at hj
     rcases H.mp with h | h<;>rw[h]at hj<;>simp at hj
   rintro o' (⟨a1,a2⟩ | ⟨a1,a2⟩)
   ·obtain⟨e1,e2⟩:=Qfn H.key hi
    have hl0:l=[]:=ql (by omega)
    refine⟨KJ.eraseIdx i,?_,?_,?_,?_,?_,?_⟩
    ·rw[Ee]at a2;exact .inr a2
    ·rw[qm hlt]
    ·intro i' k p' hk
     have hne:k≠e:=by
      rintro rfl
      exact e1 (qo.2 ⟨_,qb hk,rfl⟩)
     have hm:=List.mem_of_mem_eraseIdx (qb hk)
     obtain⟨i2,hi2⟩:=qq hm
     rw[Xn hne]
     obtain⟨b1,b2,els2,b3,b4⟩:=H.val i2 k p' hi2
     exact⟨b1,b2,els2,hkeep _ _ _ _ b3,b4⟩
    ·exact H.key.sublist ((List.eraseIdx_sublist KJ i).map Prod.fst)
    ·intro i' k p' hk
     obtain⟨i2,hi2⟩:=qq (List.mem_of_mem_eraseIdx (qb hk))
     exact H.lt i2 k p' hi2
    ·intro k hk
     by_cases hke:k=e
     ·subst hke;rw[Je,hl0]
     ·rw[Xn hke]
      refine H.none k (fndG_none.2 λhm=>?_)
      exact fndG_none.1 hk ((e2 k hke).2 hm)
   ·refine⟨KJ.set i (e,⟨p.j,p.g,p.o+1,p.n-1⟩),?_,?_,?_,?_,?_,?_⟩
    ·rw[List.map_set];exact a2
    ·rw[qm hlt]
    ·intro i' k p' hk
     by_cases hii:i=i'
     ·subst hii
      rw[qm (q8.1 hi).1]at hk
      simp only[Option.some.injEq,Prod.mk.injEq]at hk
      obtain⟨rfl,rfl⟩:=hk
      rw[Je]
      exact⟨by simp only[];omega,by simp only[];omega,els,hkeep _ _ _ _ h3,by simp only[];omega,hl⟩
     ·rw[qt hii]at hk
      have hne:k≠e:=by
       rintro rfl
       have:=Yv H.key hk
       rw[hf]at this
       simp only[Option.some.injEq,Prod.mk.injEq]at this
       exact hii this.1
      rw[Xn hne]
      obtain⟨b1,b2,els2,b3,b4⟩:=H.val i' k p' hk
      exact⟨b1,b2,els2,hkeep _ _ _ _ b3,b4⟩
    ·have:(KJ.set i (e,(⟨p.j,p.g,p.o+1,p.n-1⟩:PI))).map Prod.fst=KJ.map Prod.fst:=by
      rw[List.map_set]
      exact Ke _ _ _ (by rw[qp,hi];rfl)
     rw[this];exact H.key
    ·intro i' k p' hk
     by_cases hii:i=i'
     ·subst hii
      rw[qm (q8.1 hi).1]at hk
      simp only[Option.some.injEq,Prod.mk.injEq]at hk
      obtain⟨rfl,rfl⟩:=hk
      exact H.lt i _ p hi
     ·rw[qt hii]at hk
      exact H.lt i' k p' hk
    ·intro k hk
     rw[Bm hf]at hk
     split at hk
     ·simp at hk
     ·rename_i hne
      rw[Xn hne]
      exact H.none k hk
def Q5e (P:Program) (f:FuncId):Prop:=∀(b:Nat) (h:List O) (id:Nat) (o:O) (KJ:List (P2 × PI)) (F:P2->List P2) (R:List Eg) (first:P2),PoolAt b h id o KJ F->PF F R->Q00 R->F first≠[]->R.length<=4096 ->
 ACall P f [.mp id,first.enc] h (λr h'=>∃(vs:List P2) (o':O) (KJ':List (P2 × PI)) (F':P2->List P2) (R':List Eg),r=.a [.own (h.length+2) vs.length 0 vs.length]/\h'=h.set id o'++[.dead,.dead,.arr vs.length 2 (vs.map P2.cs)] /\
  PoolAt b (h.set id o') id o' KJ' F'/\PF F' R'/\Q00 R'/\(Z9 vs++R').Perm R/\vs≠[])
theorem Q6x {P:Program} {f:FuncId} (ht:Qae P f) {b:Nat} {h:List O} {id:Nat} {o:O} {KJ:List (P2 × PI)} {F:P2->List P2} (H:PoolAt b h id o KJ F) {e v:P2} {l:List P2} (he:F e=v::l) (tl:List O) :
  ACall P f [.mp id,e.enc] (h++tl) (λr h'=>r=v.enc/\∃o' KJ',h'=h.set id o'++tl/\PoolAt b (h.set id o') id o' KJ' (Q1u F e l)):=by
 obtain⟨i,p,els,a1,a2,a3,a4,a5,a6,a7⟩:=H.take he
 have hlt:=(q8.1 H.ob).1
 have hjt:=(q8.1 a3).1
 have hfe:Qm [1,1] e.enc (KJ.map (asG P2.enc evP))=some (some (i,.own p.j p.g p.o p.n)):=by
  rw[Jb Wq evP e KJ,a1];rfl
 refine (ht (h++tl) id o _ e i p.j p.g p.o p.n (els.map P2.cs) v H.mp (by rw[qd hlt];exact H.ob) hfe (by rw[qd hjt];exact a3) a4 (by simpa using a5) (by rw[qp,a6];rfl)).mono ?_
 rintro r h' ⟨rfl,hor⟩
 refine⟨rfl,?_⟩
 rcases hor with⟨b1,rfl⟩ | ⟨b1,o',b2,rfl⟩
 ·obtain⟨KJ',hp⟩:=a7 _ (.inl ⟨b1,rfl⟩)
  exact⟨_,KJ',List.set_append_left _ _ hlt,hp⟩
 ·obtain⟨KJ',hp⟩:=a7 o' (.inr ⟨b1,b2⟩)
  exact⟨o',KJ',List.set_append_left _ _ hlt,hp⟩
section hset
variable {h l:List O} {id k:Nat} {o x:O}
theorem Jt:(h.set id o++l)[h.length+k]?=l[k]?:=by
 have:=Qg (h.set id o) l k
 rwa [List.length_set]at this
theorem Uh:(h.set id o++l)[h.length]?=l[0]?:=Jt (k:=0)
theorem Km:(h.set id o++l).set (h.length+k) x=h.set id o++l.set k x:=by
 have:=Qn (h.set id o) l k x
 rwa [List.length_set]at this
theorem Uf:(h.set id o++l).set h.length x=h.set id o++l.set 0 x:=Km (k:=0)
theorem Ug {a b c d:O} {j:Nat}:(h.set id o++a::b::c::d::(List.replicate k O.dead++l))[h.length+4+k+j]?=l[j]?:=by
 rw[show h.length+4+k+j=h.length+(4+k+j) by omega,Jt]
 rw[show 4+k+j=(k+j)+1+1+1+1 by omega]
 simp only[List.getElem?_cons_succ]
 rw[qf (by simp)]
 simp
theorem I7 {a b c d:O}:(h.set id o++a::b::c::d::(List.replicate k O.dead++l))[h.length+4+k]?=l[0]?:=Ug (j:=0)
theorem Q0v {a b c d:O} {j:Nat}:(h.set id o++a::b::c::d::(List.replicate k O.dead++l)).set (h.length+4+k+j) x=h.set id o++a::b::c::d::(List.replicate k O.dead++l.set j x):=by
 rw[show h.length+4+k+j=h.length+(4+k+j) by omega,Km]
 rw[show 4+k+j=(k+j)+1+1+1+1 by omega]
 simp only[List.set_cons_succ]
 rw[jm _ _ (by simp)]
 simp
theorem Qga {n:Nat} {a b:List O} {x:O} (hw:WeakH n a b):WeakH n (List.replicate k O.dead++x::a) (List.replicate (k+1) O.dead++b):=by
 rw[List.replicate_succ',qz]
 exact Qr (λo ho=>by rw[(List.mem_replicate.1 ho).2];simp[O.cl]) ⟨.inl rfl,hw⟩
theorem PoolAt.clh {b:Nat} {KJ:List (P2 × PI)} {F:P2->List P2} (H:PoolAt b (h.set id o) id o KJ F) {n:Nat} (hc:∀x∈h,x.cl n) (hn:h.length<=n):∀x∈h.set id o,x.cl n:=by
 intro x hx
 rcases List.mem_or_eq_of_mem_set hx with hx | rfl
 ·exact hc x hx
 ·have he:∀e∈KJ.map (asG P2.enc evP),e.1.cl n=true/\e.2.cl n=true:=by
   intro e he
   obtain⟨⟨k,p⟩,hm,rfl⟩:=qo.1 he
   obtain⟨i,hi⟩:=qq hm
   obtain⟨_,_,els,h3,_⟩:=H.val i k p hi
   have:=(q8.1 h3).1
   rw[List.length_set]at this
   simp[asG,evP,P2.enc,P2.cs,V.cl,V.cl1,V.cl0]
   omega
  rcases H.mp with rfl | rfl
  ·exact he
  ·exact he
theorem Qh5 {j:Nat}:(List.replicate k O.dead++l)[k+j]?=l[j]?:=by
 rw[qf (by simp)];simp
theorem Qh4 {j:Nat}:(List.replicate k O.dead++l).set (k+j) x=List.replicate k O.dead++l.set j x:=by
 rw[jm _ _ (by simp)];simp
end hset
section
variable {P:Program} (hm:P.follows .mixedOrders=true)
include hm
theorem Ib {f ft:FuncId} (hf:Q9 P f (L06.c ft) L06.r L06.n) (ht:Qae P ft):Q5e P f:=by
 intro b h id o KJ F R first H hF hB hne hR
 refine W7 λhcl=>?_
 obtain⟨v1,l1,hF1⟩:∃v l,F first=v::l:=by
  cases hh:F first with
  | nil=>exact absurd hh hne
  | cons v l=>exact⟨v,l,rfl⟩
 refine Ie hm hf (qh rfl) ?_
 unfold L06.c
 generalize hK:Q5c h.length L06.r _=K
 have hlt:=(q8.1 H.ob).1
 simp (disch:=omega) [go_sem,P2.enc,P2.cs,Qg,Qf,Qn,Qq]
 refine (Q6x ht H hF1 _).mono ?_
 rintro r h' ⟨rfl,o1,KJ1,rfl,H1⟩
 obtain⟨R1,hR1,hPF1⟩:=hF.take hF1
 have hlen1:=hR1.length_eq
 rw[List.length_cons]at hlen1
 have hsl:(h.set id o1).length=h.length:=by simp
 simp (disch:=omega) [go_sem,P2.enc,P2.cs,Jt,Uh,Km,Uf]
 refine Qi (α:=O × List (P2 × PI) × (P2->List P2) × List Eg × P2 × List P2 × Nat)
  (λp=>PoolAt b (h.set id p.1) id p.1 p.2.1 p.2.2.1/\PF p.2.2.1 p.2.2.2.1/\Trail first p.2.2.2.2.1 p.2.2.2.2.2.1 p.2.2.2.1 R/\p.2.2.2.2.2.1≠[]/\p.2.2.2.2.2.1.length+p.2.2.2.1.length<=4096)
  (λp=>⟨[(0,.mp id),(3,.p h.length 1 0 0),(4,.p (h.length+1) 1 0 0),(5,.p (h.length+3) 1 0 0),(6,.p (h.length+4+p.2.2.2.2.2.2) 1 0 0)],
   h.set id p.1++([.arr 1 2 [first.cs],.arr 1 1 [[.nil]],.arr p.2.2.2.2.2.1.length 2 (p.2.2.2.2.2.1.map P2.cs),.arr 1 1 [[.own (h.length+2) p.2.2.2.2.2.1.length 0 p.2.2.2.2.2.1.length]]]++(List.replicate p.2.2.2.2.2.2 O.dead++[.arr 1 2 [p.2.2.2.2.1.cs]]))⟩)
  (λp=>p.2.2.2.1.length) (o1,KJ1,Q1u F first l1,R1,v1,[first],0) ⟨H1,hPF1,(Trail.start hB first).step hR1,by simp,by simp;omega⟩ ?_ ?_
 ·simp[go_sem]
  exact⟨by omega,Qr (H1.clh (hcl _ (by omega)) (by omega)) (by simp[WeakH,O.cl,P2.cs,V.cl,V.cl1,V.cl0])⟩
 ·rintro⟨o2,KJ2,F2,R2,cur,vs,k⟩ ⟨H2,hPF2,hT,hvs,hlen⟩
  simp only at H2 hPF2 hT hvs hlen ⊢
  have hlt2:id<(h.set id o2).length:=by rw[List.length_set];exact hlt
  have hob:∀tl,(h.set id o2++tl)[id]?=some o2:=λtl=>by rw[qd hlt2];exact H2.ob
  cases hbf:(!(cur.x == first.x) || !(cur.y == first.y)) with
  | true =>
    have hne2:cur≠first:=by
     intro hh
     rw[hh]at hbf
     simp at hbf
    obtain⟨e,he,he2⟩:=hT.more hne2
    obtain⟨v,l,hFc⟩:∃v l,F2 cur=v::l:=by
     cases hh:F2 cur with
     | nil=>exact absurd he2 (hPF2.none.1 hh e he)
     | cons v l=>exact⟨v,l,rfl⟩
    obtain⟨R3,hR3,hPF3⟩:=hPF2.take hFc
    have hlen3:=hR3.length_eq
    rw[List.length_cons]at hlen3
    obtain⟨i,p,els,a1,_,a3,a4,_,_,_⟩:=H2.take hFc
    have hpj:∀tl,(h.set id o2++tl)[p.j]?=some (O.arr p.g 2 (els.map P2.cs)):=λtl=>by rw[qd (q8.1 a3).1];exact a3
    have hfe:Qm [1,1] (V.a [V.i .i64 cur.x,V.i .i64 cur.y]) (KJ2.map (asG P2.enc evP))=some (some (i,.own p.j p.g p.o p.n)):=by
     rw[show V.a [V.i .i64 cur.x,V.i .i64 cur.y]=cur.enc from rfl,Jb Wq evP cur KJ2,a1];rfl
    have hent:∀tl,Zg (h.set id o2++tl) (.mp id)=some (KJ2.map (asG P2.enc evP)):=λtl=>by
     unfold Zg
     simp only[hob tl]
     rcases H2.mp with rfl | rfl<;>rfl
    have hpn:0<p.n:=a4
    have hvt:List.take vs.length (vs.map P2.cs)=vs.map P2.cs:=qe (by simp)
    simp (disch:=omega) [go_sem,P2.enc,P2.cs,Jt,Uh,Km,Uf,Ug,I7,Q0v,hbf,hent,hfe,hpj,hpn,hvt,Qh5,Qh4]
    refine⟨⟨by omega,by omega⟩,?_⟩
    refine (Q6x ht H2 hFc _).mono ?_
    rintro r h' ⟨rfl,o3,KJ3,rfl,H3⟩
    rw[List.set_set]at H3
    have hsl3:(h.set id o3).length=h.length:=by simp
    simp (disch:=omega) [go_sem,P2.enc,P2.cs,Jt,Uh,Km,Uf,Ug,I7,Q0v,Qh5,Qh4]
    refine⟨o3,KJ3,Q1u F2 cur l,R3,v,vs++[cur],⟨H3,hPF3,hT.step hR3,by simp,by simp;omega⟩,by omega,k+1,by omega,⟨by omega,by omega,by omega⟩,?_⟩
    have hclo:∀n,(O.arr (vs.length+1) 2 ((vs++[cur]).map P2.cs)).cl n:=Qf6 Qna (vs++[cur])
    refine Qr (H3.clh (hcl _ (by omega)) (by omega)) ?_
    have hl1:(vs++[cur]).length=vs.length+1:=by simp
    have hm1:(vs++[cur]).map P2.cs=vs.map P2.cs++[[V.i .i64 cur.x,V.i .i64 cur.y]]:=by rw[qw];rfl
    rw[hl1,<- hm1]
    refine⟨.inr ⟨rfl,by simp[O.cl,V.cl,V.cl1,V.cl0]⟩,.inr ⟨rfl,by simp[O.cl,V.cl,V.cl1,V.cl0]⟩,.inr ⟨rfl,hclo _⟩,.inr ⟨rfl,by simp[O.cl,V.cl,V.cl1,V.cl0]⟩,Qga ⟨.inr ⟨rfl,by simp[O.cl,V.cl,V.cl1,V.cl0]⟩,trivial⟩⟩
  | false =>
    have hbe:cur=first:=by
     simp only[Bool.or_eq_false_iff,Bool.not_eq_false',beq_iff_eq]at hbf
     exact p2_iff.2 hbf
    rw[hbe]at hT
    obtain⟨hB2,hP2⟩:=hT.close hvs
    simp (disch:=omega) [go_sem,P2.enc,P2.cs,Jt,Uh,Km,Uf,Ug,I7,Q0v,hbf]
    subst hK
    rw[Q3b]
    refine⟨[.a [.own (h.length+2) vs.length 0 vs.length]],h.set id o2++[.dead,.dead,.arr vs.length 2 (vs.map P2.cs)],?_,?_⟩
    ·simp (disch:=omega) [go_sem,L06.r,Jt]
    ·have hclo:∀n,(O.arr vs.length 2 (vs.map P2.cs)).cl n:=Qf6 Qna vs
     refine⟨rfl,by simp[V.cl,V.cl1,V.cl0],by simp,by simp,Qr (H2.clh (hcl _ (by simp)) (by simp)) ⟨.inl rfl,.inl rfl,.inr ⟨rfl,hclo _⟩,trivial⟩,?_⟩
     exact⟨vs,o2,KJ2,F2,R2,rfl,rfl,H2,hPF2,hB2,hP2,hvs⟩
end
end Go.Abs
