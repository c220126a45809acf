/- Part of the library on which the proof stands: an abstract machine, its values and its soundness against the model; or what functions of the program do to such values. -/
import Derived.Test.YtjggbpiapinceaaGreatGoCtE
import Derived.Test.YtjggbpiapinceaaGreatGoRsD
import Derived.Test.YtjggbpiapinceaaGreatGoSkE
import Derived.Test.YtjggbpiapinceaaGreatGoSo
set_option linter.unusedVariables false
set_option linter.unusedSimpArgs false
set_option maxHeartbeats 16000000
set_option maxRecDepth 20000
namespace Go.Abs
def I1 (L:List (P2 × Int)) (e:P2):Int:=match Z2 e L with | some (_,n)=>n | none=>0
def Wy (L:List (P2 × Int)) (e:P2) (d:Int):List (P2 × Int):=U9 e (I1 L e+d) L
theorem Qcm (L:List (P2 × Int)) (e:P2):I1 L e=((Z2 e L).map Prod.snd).getD 0:=by
 unfold I1;cases Z2 e L with
 | none=>rfl
 | some p=>rfl
theorem Q1e (L:List (P2 × Int)) (e e':P2) (d:Int):I1 (Wy L e d) e'=I1 L e'+if e'=e then d else 0:=by
 rw[Qcm (Wy L e d),Wy,Qe5]
 by_cases h:e'=e
 ·subst h;simp
 ·rw[if_neg h,if_neg h,<- Qcm];omega
def Qf8 (L:List (P2 × Int)):Prop:=(L.map Prod.fst).Nodup
theorem Q2k {L:List (P2 × Int)} (h:Qf8 L) (e:P2) (d:Int):Qf8 (Wy L e d)/\(Wy L e d).length<=L.length+1/\∀x,x∈(Wy L e d).map Prod.fst↔x∈L.map Prod.fst∨x=e:=by
 have hk:=Qla e (I1 L e+d) L
 unfold Qf8 Wy
 rw[hk]
 have hl:(U9 e (I1 L e+d) L).length=((U9 e (I1 L e+d) L).map Prod.fst).length:=by simp
 rw[hl,hk]
 by_cases hm:e∈L.map Prod.fst
 ·rw[if_pos hm]
  refine⟨h,by simp,λx=>⟨.inl,?_⟩⟩
  rintro (hx | rfl)
  ·exact hx
  ·exact hm
 ·rw[if_neg hm]
  refine⟨?_,by simp,λx=>by simp⟩
  rw[List.nodup_append]
  exact⟨h,by simp,λa ha b hb=>by simp at hb;subst hb;rintro rfl;exact hm ha⟩
def W4 (l:List Sg4) (k:Nat):List (P2 × Int):=(l.take k).foldl (λL s=>Wy (Wy L s.eg.1 1) s.eg.2 (-1)) []
theorem Q8t {l:List Sg4} {k:Nat} {s:Sg4} (h:l[k]?=some s):W4 l (k+1)=Wy (Wy (W4 l k) s.eg.1 1) s.eg.2 (-1):=by
 unfold W4
 rw[List.take_add_one,h]
 simp
theorem Q41 (l:List Sg4):∀k,k<=l.length->Qf8 (W4 l k)/\(W4 l k).length<=2*k/\(∀p,I1 (W4 l k) p=Bs (egs (l.take k)) p)/\∀e∈egs (l.take k),e.1∈(W4 l k).map Prod.fst/\e.2∈(W4 l k).map Prod.fst
 | 0,_=>⟨by simp[W4,Qf8],by simp[W4],λp=>by simp[W4,I1,Z2,Bs,egs],by simp[egs]⟩
 | k+1,h=>by
   obtain⟨h1,h2,h3,h4⟩:=Q41 l k (by omega)
   have hq:=Ug (show k<l.length by omega)
   generalize Qfx l k=s at hq
   obtain⟨a1,a2,a3⟩:=Q2k h1 s.eg.1 1
   obtain⟨b1,b2,b3⟩:=Q2k a1 s.eg.2 (-1)
   rw[Q8t hq,Qcn l hq]
   refine⟨b1,by omega,λp=>?_,λe he=>?_⟩
   ·rw[Q1e,Q1e,h3,Qmw]
    by_cases c1:p=s.eg.1<;>by_cases c2:p=s.eg.2
    ·rw[if_pos c1,if_pos c2,if_pos c1.symm,if_pos c2.symm];omega
    ·rw[if_pos c1,if_neg c2,if_pos c1.symm,if_neg (λh=>c2 h.symm)];omega
    ·rw[if_neg c1,if_pos c2,if_neg (λh=>c1 h.symm),if_pos c2.symm];omega
    ·rw[if_neg c1,if_neg c2,if_neg (λh=>c1 h.symm),if_neg (λh=>c2 h.symm)];omega
   ·rcases qg.1 he with he | he
    ·obtain⟨q1,q2⟩:=h4 e he
     exact⟨(b3 _).2 (.inl ((a3 _).2 (.inl q1))),(b3 _).2 (.inl ((a3 _).2 (.inl q2)))⟩
    ·rw[qo.1 he]
     exact⟨(b3 _).2 (.inl ((a3 _).2 (.inr rfl))),(b3 _).2 (.inr rfl)⟩
theorem Qq0 (l:List Sg4):Qez (egs l)=(W4 l l.length).all λp=>decide (p.2=0):=by
 obtain⟨h1,h2,h3,h4⟩:=Q41 l l.length (Nat.le_refl _)
 rw[qi]at h3 h4
 have hv:∀p n,(p,n)∈W4 l l.length->n=Bs (egs l) p:=by
  intro p n hp
  obtain⟨i,hi⟩:=qr hp
  have:=Yo h1 hi
  rw[<- h3 p];unfold I1;rw[this]
 rw[Bool.eq_iff_iff]
 unfold Qez
 rw[qj,qj]
 constructor
 ·rintro h ⟨p,n⟩ hp
  have hb:=balB_iff.1 (qj.2 h:Qez (egs l)=true) p
  have:=hv p n hp
  unfold Bs at this
  simp only[decide_eq_true_eq];omega
 ·intro h e he
  obtain⟨k1,k2⟩:=h4 e he
  obtain⟨⟨p1,n1⟩,m1,rfl⟩:=qp.1 k1
  obtain⟨⟨p2,n2⟩,m2,e2⟩:=qp.1 k2
  have z1:=h _ m1
  have z2:=h _ m2
  have v1:=hv _ _ m1
  have v2:=hv _ _ m2
  simp only[decide_eq_true_eq]at z1 z2
  simp only[]at e2
  rw[e2]at v2
  simp only[Bool.and_eq_true,decide_eq_true_eq]
  exact⟨by omega,by omega⟩
def evI (n:Int):V:=.i .i64 n
theorem Qbu (M:List (P2 × Int)) (n:Nat):∀(a b:V) (x:P2) (y:Int),(x,y)∈M->asG P2.enc evI (x,y)=(a,b)->a.cl n=true/\b.cl n=true:=by
 intro a b x y _ he
 simp only[asG,evI,Prod.mk.injEq]at he
 obtain⟨rfl,rfl⟩:=he
 simp[P2.enc,P2.cs,V.cl,V.cl1,V.cl0]
theorem Q9i {M:List (P2 × Int)} {e:P2} {d:Int} (h1:-100000<=I1 M e+d) (h2:I1 M e+d<=100000) :
  (Qj [1,1] e.enc (M.map (asG P2.enc evI))=some none/\M.map (asG P2.enc evI)++[(e.enc,.i .i64 d)]=(Wy M e d).map (asG P2.enc evI)) ∨
  ∃(i:Nat) (n:Int),Qj [1,1] e.enc (M.map (asG P2.enc evI))=some (some (i,.i .i64 n))/\M[i]?=some (e,n)/\IntKind.i64.wrap (n+d)=n+d /\
   (M.map (asG P2.enc evI)).set i (e.enc,.i .i64 (n+d))=(Wy M e d).map (asG P2.enc evI):=by
 have hf:=Zw Kq evI e M
 unfold Wy U9
 unfold I1 at *
 cases hfn:Z2 e M with
 | none =>
   rw[hfn]at hf
   refine .inl ⟨hf,?_⟩
   simp[asG,evI]
 | some p =>
   obtain⟨i,n⟩:=p
   rw[hfn]at hf h1 h2
   simp only[]at h1 h2
   refine .inr ⟨i,n,hf,?_,Q3 (by omega) (by omega),?_⟩
   ·exact Zm hfn
   ·rw[List.map_set];rfl
theorem Ja {α β:Type} (f:α->β) (M:List α) (x:β):(M.map f++[x])[M.length]?=some x:=by
 rw[qf (by simp)];simp
theorem J9 {α β:Type} (f:α->β) (M:List α) (x y:β):(M.map f++[x]).set M.length y=M.map f++[y]:=by
 have:=jl (s:=M.map f) (t:=[x]) (x:=y) M.length (by simp)
 rw[this];simp
theorem J8 {α β:Type} (f:α->β) {M:List α} {i:Nat} {y:α} (h:M[i]?=some y) (x:β):((M.map f).set i x)[i]?=some x:=by
 have:=(q8.1 h).1
 rw[qn (by simpa using this)]
def SeenZ (M:List (P2 × Int)) (seen:List Nat):Prop:=∀i∈seen,∀p,M[i]?=some p->p.2=0
section
variable {P:Program} (hm:P.follows .mixedOrders=true)
include hm
theorem Ib {f:FuncId} (hf:Qa P f L07.c L07.r L07.n):Qu9 P f:=by
 intro l hl
 rw[Qq0]
 refine PureC.is (Q8 hm hf (qh rfl) ?_) rfl
 unfold L07.c
 simp[go_sem,Yt]
 refine Qf (α:=Nat) (λk=>k<=l.length)
  (λk=>⟨[(3,.mp 0),(9,Yt l),(10,.i .i64 l.length),(11,.i .i64 k)],[.mp ((W4 l k).map (asG P2.enc evI))]⟩)
  (λk=>l.length-k) 0 (Nat.zero_le _) ?_ ?_
 ·simp[go_sem,Yt,W4]
 ·intro k hk
  by_cases hkl:k=l.length
  ·subst hkl
   obtain⟨h1,h2,_,_⟩:=Q41 l l.length (Nat.le_refl _)
   generalize W4 l l.length=M at *
   generalize hB:(M.all λp=>decide (p.2=0))=B
   simp[go_sem,Yt]
   refine Qf (α:=List Nat) (λseen=>SeenZ M seen)
    (λseen=>⟨[(31,.p 1 1 0 0)],[.mp (M.map (asG P2.enc evI)),.it (some 0) M.length seen]⟩)
    (λseen=>left M.length seen) [] (by simp[SeenZ]) ?_ ?_
   ·simp[go_sem]
    exact Qbu _ _
   ·intro seen hseen
    simp[go_sem,Mnx]
    refine⟨λhall=>?_,?_⟩
    ·obtain rfl:true=B:=by
      rw[<- hB];symm
      rw[qj]
      intro p hp
      obtain⟨i,hi⟩:=qr hp
      simpa using hseen i (hall i (q8.1 hi).1) p hi
     simp[go_sem,L07.r]
    ·rintro i a b e n hi hab hni
     simp only[asG,Prod.mk.injEq]at hab
     obtain⟨rfl,rfl⟩:=hab
     have hil:i<M.length:=(q8.1 hi).1
     have hleft:=Qj8 hil hni
     have hgi:(M.map (asG P2.enc evI))[i]?=some (e.enc,.i .i64 n):=by rw[qq,hi];rfl
     simp[go_sem,hi,asG,evI]
     by_cases hn:n=0
     ·subst hn
      simp[go_sem]
      refine⟨seen++[i],?_,hleft,?_,rfl⟩
      case refine_2 =>
       rintro a b x y hxy rfl rfl
       exact Qbu M 2 _ _ x y hxy rfl
      intro j hj p hp
      rcases qg.1 hj with h | h
      ·exact hseen j h p hp
      ·rw[qo.1 h,hi]at hp
       obtain rfl:=Option.some.inj hp
       rfl
     ·obtain rfl:false=B:=by
       rw[<- hB];symm
       rw[List.all_eq_false]
       exact⟨_,qb hi,by simpa using hn⟩
      have hnb:(n != 0)=true:=by simpa using hn
      simp[go_sem,hn,hnb,L07.r]
  ·have hlt:k<l.length:=by omega
   have hq:=Ug hlt
   generalize Qfx l k=s at hq
   obtain⟨_,hq'⟩:=q8.1 hq
   obtain⟨m1,m2,m3,m4⟩:=Q41 l k hk
   have hms:=Q8t hq
   have hb1:=Qjp (egs (l.take k)) s.eg.1
   have hb2:=Qjp (egs (l.take k)) s.eg.2
   rw[<- m3,Q46,qw]at hb1 hb2
   have hv2:=Q1e (W4 l k) s.eg.1 s.eg.2 1
   generalize W4 l k=M at *
   have hbb:-8200<=I1 (Wy M s.eg.1 1) s.eg.2/\I1 (Wy M s.eg.1 1) s.eg.2<=8200:=by
    rw[hv2];split<;>omega
   have hM2l:(Wy M s.eg.1 1).length<=M.length+1:=(Q2k m1 _ _).2.1
   have R1:=Q9i (M:=M) (e:=s.eg.1) (d:=1) (by omega) (by omega)
   have R2:=Q9i (M:=Wy M s.eg.1 1) (e:=s.eg.2) (d:=-1) (by omega) (by omega)
   rw[<- hms]at R2
   have hcl:=Qbu (W4 l (k+1)) 1
   generalize hM2:W4 l (k+1)=M2 at *
   generalize Wy M s.eg.1 1=M1 at *
   have hk1:s.eg.1.enc=V.a [V.i .i64 s.a.1,V.i .i64 s.a.2]:=rfl
   have hk2:s.eg.2.enc=V.a [V.i .i64 s.b.1,V.i .i64 s.b.2]:=rfl
   have w1:IntKind.i64.wrap 1=1:=rfl
   have wm1:IntKind.i64.wrap (-1)=-1:=rfl
   rw[hk1]at R1
   rw[hk2]at R2
   clear hms hv2
   have e1:∀n:Int,asG P2.enc evI (s.eg.1,n)=(V.a [V.i .i64 s.a.1,V.i .i64 s.a.2],.i .i64 n):=λ_=>rfl
   have e2:∀n:Int,asG P2.enc evI (s.eg.2,n)=(V.a [V.i .i64 s.b.1,V.i .i64 s.b.2],.i .i64 n):=λ_=>rfl
   rcases R1 with⟨a1,a2⟩ | ⟨i,n,a1,a2,a3,a4⟩
   ·rcases R2 with⟨b1,b2⟩ | ⟨i',n',b1,b2,b3,b4⟩
    ·
     simp (disch:=omega) [go_sem,Yt,hlt,hq,hq',Sg4.cs,a1,a2,b1,b2,w1,wm1,Ja,J9,e1,e2]
     refine⟨k+1,by omega,by omega,Q3 (by omega) (by omega),by rw[hM2],?_⟩
     rw[hM2]
     exact hcl
    ·
     have b3':IntKind.i64.wrap (n'-1)=n'+-1:=b3
     simp (disch:=omega) [go_sem,Yt,hlt,hq,hq',Sg4.cs,a1,a2,b1,b2,b3',b4,J8 _ b2,w1,wm1,Ja,J9,e1,e2]
     refine⟨k+1,by omega,by omega,Q3 (by omega) (by omega),by rw[hM2],?_⟩
     rw[hM2]
     exact hcl
   ·rcases R2 with⟨b1,b2⟩ | ⟨i',n',b1,b2,b3,b4⟩
    ·
     simp (disch:=omega) [go_sem,Yt,hlt,hq,hq',Sg4.cs,a1,a2,a3,a4,J8 _ a2,b1,b2,w1,wm1,Ja,J9,e1,e2]
     refine⟨k+1,by omega,by omega,Q3 (by omega) (by omega),by rw[hM2],?_⟩
     rw[hM2]
     exact hcl
    ·
     have b3':IntKind.i64.wrap (n'-1)=n'+-1:=b3
     simp (disch:=omega) [go_sem,Yt,hlt,hq,hq',Sg4.cs,a1,a2,a3,a4,J8 _ a2,b1,b2,b3',b4,J8 _ b2,w1,wm1,Ja,J9,e1,e2]
     refine⟨k+1,by omega,by omega,Q3 (by omega) (by omega),by rw[hM2],?_⟩
     rw[hM2]
     exact hcl
end
theorem Ik {α β:Type} (f:α->β):∀(l:List α) (i:Nat),(l.map f).eraseIdx i=(l.eraseIdx i).map f
 | [],_=>rfl
 | _::_,0=>rfl
 | a::l,i+1=>by simp[Ik f l i]
theorem Ky {α:Type}:∀(l:List α) (i:Nat) (a:α),l[i]?=some a->l.set i a=l
 | [],_,_,_=>rfl
 | b::l,0,a,h=>by simp at h;simp[h]
 | b::l,i+1,a,h=>by simp at h;simp[Ky l i a h]
structure PI where
 j:Nat
 g:Nat
 o:Nat
 n:Nat
def evP (p:PI):V:=.own p.j p.g p.o p.n
def Q33 (F:P2->List P2) (e:P2) (l:List P2):P2->List P2:=λk=>if k=e then l else F k
theorem Jr (F:P2->List P2) (e:P2) (l:List P2):Q33 F e l e=l:=if_pos rfl
theorem J4 {F:P2->List P2} {e k:P2} {l:List P2} (h:k≠e):Q33 F e l k=F k:=if_neg h
def PF (F:P2->List P2) (R:List Eg):Prop:=∀k,((R.filter λe=>decide (e.1=k)).map Prod.snd).Perm (F k)
theorem PF.mem {F:P2->List P2} {R:List Eg} (h:PF F R) {k v:P2}:v∈F k↔(k,v)∈R:=by
 rw[<- (h k).mem_iff,qp]
 constructor
 ·rintro⟨⟨a,b⟩,he,rfl⟩
  obtain⟨h1,h2⟩:=qv.1 he
  obtain rfl:a=k:=by simpa using h2
  exact h1
 ·intro hv
  exact⟨(k,v),qv.2 ⟨hv,by simp⟩,rfl⟩
theorem PF.take {F:P2->List P2} {R:List Eg} (h:PF F R) {e v:P2} {l:List P2} (he:F e=v::l):∃R',R.Perm ((e,v)::R')/\PF (Q33 F e l) R':=by
 have hm:(e,v)∈R:=h.mem.1 (by rw[he];simp)
 refine⟨R.erase (e,v),List.perm_cons_erase hm,λk=>?_⟩
 have hp:=((List.perm_cons_erase hm).filter λx=>decide (x.1=k)).map Prod.snd
 have hk:=h k
 by_cases hke:k=e
 ·subst hke
  rw[Jr]
  rw[he]at hk
  rw[List.filter_cons,if_pos (by simp),List.map_cons]at hp
  exact(hp.symm.trans hk).cons_inv
 ·rw[J4 hke]
  rw[List.filter_cons,if_neg (by simpa using λh=>hke h.symm)]at hp
  exact hp.symm.trans hk
theorem PF.none {F:P2->List P2} {R:List Eg} (h:PF F R) {k:P2}:F k=[]↔∀e∈R,e.1≠k:=by
 constructor
 ·rintro hk ⟨a,b⟩ he rfl
  have:=h.mem.2 he
  rw[hk]at this;simp at this
 ·intro hn
  refine List.eq_nil_iff_forall_not_mem.2 λv hv=>?_
  exact hn _ (h.mem.1 hv) rfl
structure PoolAt (b:Nat) (h:List O) (id:Nat) (o:O) (KJ:List (P2 × PI)) (F:P2->List P2):Prop where
 mp:Qqr o (KJ.map (asG P2.enc evP))
 ob:h[id]?=some o
 val:∀(i:Nat) (k:P2) (p:PI),KJ[i]?=some (k,p)->p.n=(F k).length/\1<=p.n/\∃els:List P2,h[p.j]?=some (.arr p.g 2 (els.map P2.cs))/\p.o+p.n<=els.length/\(els.drop p.o).take p.n=F k
 key:(KJ.map Prod.fst).Nodup
 lt:∀(i:Nat) (k:P2) (p:PI),KJ[i]?=some (k,p)->p.j<b
 none:∀e,Z2 e KJ=Option.none->F e=[]
theorem PoolAt.app {b:Nat} {h:List O} {id:Nat} {o:O} {KJ:List (P2 × PI)} {F:P2->List P2} (H:PoolAt b h id o KJ F) (l:List O):PoolAt b (h++l) id o KJ F where
 mp:=H.mp
 ob:=by rw[qd (q8.1 H.ob).1];exact H.ob
 val i k p hi:=by
  obtain⟨h1,h2,els,h3,h4⟩:=H.val i k p hi
  exact⟨h1,h2,els,by rw[qd (q8.1 h3).1];exact h3,h4⟩
 key:=H.key
 lt:=H.lt
 none:=H.none
theorem PoolAt.sub {b:Nat} {h l:List O} {id:Nat} {o:O} {KJ:List (P2 × PI)} {F:P2->List P2} (H:PoolAt b (h++l) id o KJ F) (hb:b<=h.length) (hid:id<h.length):PoolAt b h id o KJ F where
 mp:=H.mp
 ob:=by have:=H.ob;rwa [qd hid]at this
 val i k p hi:=by
  obtain⟨h1,h2,els,h3,h4⟩:=H.val i k p hi
  have:=H.lt i k p hi
  exact⟨h1,h2,els,by rwa [qd (by omega)]at h3,h4⟩
 key:=H.key
 lt:=H.lt
 none:=H.none
theorem Qh8 {L:List (P2 × PI)} {i:Nat} {e:P2} {p:PI} (hn:(L.map Prod.fst).Nodup) (hi:L[i]?=some (e,p)):e∉(L.eraseIdx i).map Prod.fst/\∀k,k≠e->(k∈(L.eraseIdx i).map Prod.fst↔k∈L.map Prod.fst):=by
 have hlt:=(q8.1 hi).1
 have hp:L.Perm ((e,p)::L.eraseIdx i):=by
  have h1:=List.eraseIdx_eq_take_drop_succ L i
  have h2:L=L.take i++(e,p)::L.drop (i+1):=by
   have h3:=List.take_append_drop i L
   rw[List.drop_eq_getElem_cons hlt,(q8.1 hi).2]at h3
   exact h3.symm
  rw[h1]
  conv=>lhs;rw[h2]
  exact List.perm_middle
 have hm:=hp.map Prod.fst
 rw[List.map_cons]at hm
 have hnd:=hm.nodup_iff.1 hn
 refine⟨(List.nodup_cons.1 hnd).1,λk hk=>?_⟩
 rw[hm.mem_iff,List.mem_cons]
 simp[hk]
theorem PoolAt.take {b:Nat} {h:List O} {id:Nat} {o:O} {KJ:List (P2 × PI)} {F:P2->List P2} (H:PoolAt b h id o KJ F) {e v:P2} {l:List P2} (he:F e=v::l) :
  ∃(i:Nat) (p:PI) (els:List P2),Z2 e KJ=some (i,p)/\KJ[i]?=some (e,p)/\h[p.j]?=some (.arr p.g 2 (els.map P2.cs))/\1<=p.n/\p.o+p.n<=els.length/\els[p.o]?=some v /\
   ∀o',((p.n=1/\o'=.md ((KJ.map (asG P2.enc evP)).eraseIdx i))∨(p.n≠1/\Qqr o' ((KJ.map (asG P2.enc evP)).set i (e.enc,.own p.j p.g (p.o+1) (p.n-1))))) ->
    ∃KJ',PoolAt b (h.set id o') id o' KJ' (Q33 F e l):=by
 cases hf:Z2 e KJ with
 | none=>rw[H.none e hf]at he;simp at he
 | some q =>
   obtain⟨i,p⟩:=q
   have hi:=Zm hf
   obtain⟨h1,h2,els,h3,h4,h5⟩:=H.val i e p hi
   have hlt:=(q8.1 H.ob).1
   rw[he]at h1 h5
   simp only[List.length_cons]at h1
   have hv:els[p.o]?=some v:=by
    have h6:=congrArg (λl:List P2=>l[0]?) h5
    simp only[jc,jd]at h6
    rw[if_pos (by omega)]at h6
    simpa using h6
   have hl:(els.drop (p.o+1)).take (p.n-1)=l:=by
    have h6:=congrArg List.tail h5
    simp only[List.tail_cons]at h6
    rw[<- h6,<- List.drop_one,List.drop_take,List.drop_drop]
   refine⟨i,p,els,rfl,hi,h3,h2,h4,hv,?_⟩
   have hkeep:∀(o':O) (j g:Nat) (x:List P2),h[j]?=some (.arr g 2 (x.map P2.cs))->(h.set id o')[j]?=some (.arr g 2 (x.map P2.cs)):=λo' j g x hj=>by
    rw[qu]
    ·exact hj
    ·rintro rfl
     rw[H.ob]at hj
     rcases H.mp with h | h<;>rw[h]at hj<;>simp at hj
   rintro o' (⟨a1,a2⟩ | ⟨a1,a2⟩)
   ·obtain⟨e1,e2⟩:=Qh8 H.key hi
    have hl0:l=[]:=qm (by omega)
    refine⟨KJ.eraseIdx i,?_,?_,?_,?_,?_,?_⟩
    ·rw[Ik]at a2;exact .inr a2
    ·rw[qn hlt]
    ·intro i' k p' hk
     have hne:k≠e:=by
      rintro rfl
      exact e1 (qp.2 ⟨_,qb hk,rfl⟩)
     have hm:=List.mem_of_mem_eraseIdx (qb hk)
     obtain⟨i2,hi2⟩:=qr hm
     rw[J4 hne]
     obtain⟨b1,b2,els2,b3,b4⟩:=H.val i2 k p' hi2
     exact⟨b1,b2,els2,hkeep _ _ _ _ b3,b4⟩
    ·exact H.key.sublist ((List.eraseIdx_sublist KJ i).map Prod.fst)
    ·intro i' k p' hk
     obtain⟨i2,hi2⟩:=qr (List.mem_of_mem_eraseIdx (qb hk))
     exact H.lt i2 k p' hi2
    ·intro k hk
     by_cases hke:k=e
     ·subst hke;rw[Jr,hl0]
     ·rw[J4 hke]
      refine H.none k (fndG_none.2 λhm=>?_)
      exact fndG_none.1 hk ((e2 k hke).2 hm)
   ·refine⟨KJ.set i (e,⟨p.j,p.g,p.o+1,p.n-1⟩),?_,?_,?_,?_,?_,?_⟩
    ·rw[List.map_set];exact a2
    ·rw[qn hlt]
    ·intro i' k p' hk
     by_cases hii:i=i'
     ·subst hii
      rw[qn (q8.1 hi).1]at hk
      simp only[Option.some.injEq,Prod.mk.injEq]at hk
      obtain⟨rfl,rfl⟩:=hk
      rw[Jr]
      exact⟨by simp only[];omega,by simp only[];omega,els,hkeep _ _ _ _ h3,by simp only[];omega,hl⟩
     ·rw[qu hii]at hk
      have hne:k≠e:=by
       rintro rfl
       have:=Yo H.key hk
       rw[hf]at this
       simp only[Option.some.injEq,Prod.mk.injEq]at this
       exact hii this.1
      rw[J4 hne]
      obtain⟨b1,b2,els2,b3,b4⟩:=H.val i' k p' hk
      exact⟨b1,b2,els2,hkeep _ _ _ _ b3,b4⟩
    ·have:(KJ.set i (e,(⟨p.j,p.g,p.o+1,p.n-1⟩:PI))).map Prod.fst=KJ.map Prod.fst:=by
      rw[List.map_set]
      exact Ky _ _ _ (by rw[qq,hi];rfl)
     rw[this];exact H.key
    ·intro i' k p' hk
     by_cases hii:i=i'
     ·subst hii
      rw[qn (q8.1 hi).1]at hk
      simp only[Option.some.injEq,Prod.mk.injEq]at hk
      obtain⟨rfl,rfl⟩:=hk
      exact H.lt i _ p hi
     ·rw[qu hii]at hk
      exact H.lt i' k p' hk
    ·intro k hk
     rw[Q0q hf]at hk
     split at hk
     ·simp at hk
     ·rename_i hne
      rw[J4 hne]
      exact H.none k hk
def Q6v (P:Program) (f:FuncId):Prop:=∀(b:Nat) (h:List O) (id:Nat) (o:O) (KJ:List (P2 × PI)) (F:P2->List P2) (R:List Eg) (first:P2),PoolAt b h id o KJ F->PF F R->Q19 R->F first≠[]->R.length<=4096 ->
 ACall P f [.mp id,first.enc] h (λr h'=>∃(vs:List P2) (o':O) (KJ':List (P2 × PI)) (F':P2->List P2) (R':List Eg),r=.a [.own (h.length+2) vs.length 0 vs.length]/\h'=h.set id o'++[.dead,.dead,.arr vs.length 2 (vs.map P2.cs)] /\
  PoolAt b (h.set id o') id o' KJ' F'/\PF F' R'/\Q19 R'/\(Za vs++R').Perm R/\vs≠[])
theorem Q8e {P:Program} {f:FuncId} (ht:Qbx P f) {b:Nat} {h:List O} {id:Nat} {o:O} {KJ:List (P2 × PI)} {F:P2->List P2} (H:PoolAt b h id o KJ F) {e v:P2} {l:List P2} (he:F e=v::l) (tl:List O) :
  ACall P f [.mp id,e.enc] (h++tl) (λr h'=>r=v.enc/\∃o' KJ',h'=h.set id o'++tl/\PoolAt b (h.set id o') id o' KJ' (Q33 F e l)):=by
 obtain⟨i,p,els,a1,a2,a3,a4,a5,a6,a7⟩:=H.take he
 have hlt:=(q8.1 H.ob).1
 have hjt:=(q8.1 a3).1
 have hfe:Qj [1,1] e.enc (KJ.map (asG P2.enc evP))=some (some (i,.own p.j p.g p.o p.n)):=by
  rw[Zw Kq evP e KJ,a1];rfl
 refine (ht (h++tl) id o _ e i p.j p.g p.o p.n (els.map P2.cs) v H.mp (by rw[qd hlt];exact H.ob) hfe (by rw[qd hjt];exact a3) a4 (by simpa using a5) (by rw[qq,a6];rfl)).mono ?_
 rintro r h' ⟨rfl,hor⟩
 refine⟨rfl,?_⟩
 rcases hor with⟨b1,rfl⟩ | ⟨b1,o',b2,rfl⟩
 ·obtain⟨KJ',hp⟩:=a7 _ (.inl ⟨b1,rfl⟩)
  exact⟨_,KJ',List.set_append_left _ _ hlt,hp⟩
 ·obtain⟨KJ',hp⟩:=a7 o' (.inr ⟨b1,b2⟩)
  exact⟨o',KJ',List.set_append_left _ _ hlt,hp⟩
section hset
variable {h l:List O} {id k:Nat} {o x:O}
theorem K6:(h.set id o++l)[h.length+k]?=l[k]?:=by
 have:=Q9 (h.set id o) l k
 rwa [List.length_set]at this
theorem Eo:(h.set id o++l)[h.length]?=l[0]?:=K6 (k:=0)
theorem W7:(h.set id o++l).set (h.length+k) x=h.set id o++l.set k x:=by
 have:=Qk (h.set id o) l k x
 rwa [List.length_set]at this
theorem Em:(h.set id o++l).set h.length x=h.set id o++l.set 0 x:=W7 (k:=0)
theorem En {a b c d:O} {j:Nat}:(h.set id o++a::b::c::d::(List.replicate k O.dead++l))[h.length+4+k+j]?=l[j]?:=by
 rw[show h.length+4+k+j=h.length+(4+k+j) by omega,K6]
 rw[show 4+k+j=(k+j)+1+1+1+1 by omega]
 simp only[List.getElem?_cons_succ]
 rw[qf (by simp)]
 simp
theorem Bi {a b c d:O}:(h.set id o++a::b::c::d::(List.replicate k O.dead++l))[h.length+4+k]?=l[0]?:=En (j:=0)
theorem Q28 {a b c d:O} {j:Nat}:(h.set id o++a::b::c::d::(List.replicate k O.dead++l)).set (h.length+4+k+j) x=h.set id o++a::b::c::d::(List.replicate k O.dead++l.set j x):=by
 rw[show h.length+4+k+j=h.length+(4+k+j) by omega,W7]
 rw[show 4+k+j=(k+j)+1+1+1+1 by omega]
 simp only[List.set_cons_succ]
 rw[jl _ _ (by simp)]
 simp
theorem Qhv {n:Nat} {a b:List O} {x:O} (hw:WeakH n a b):WeakH n (List.replicate k O.dead++x::a) (List.replicate (k+1) O.dead++b):=by
 rw[List.replicate_succ',j3]
 exact Qs (λo ho=>by rw[(List.mem_replicate.1 ho).2];simp[O.cl]) ⟨.inl rfl,hw⟩
theorem PoolAt.clh {b:Nat} {KJ:List (P2 × PI)} {F:P2->List P2} (H:PoolAt b (h.set id o) id o KJ F) {n:Nat} (hc:∀x∈h,x.cl n) (hn:h.length<=n):∀x∈h.set id o,x.cl n:=by
 intro x hx
 rcases List.mem_or_eq_of_mem_set hx with hx | rfl
 ·exact hc x hx
 ·have he:∀e∈KJ.map (asG P2.enc evP),e.1.cl n=true/\e.2.cl n=true:=by
   intro e he
   obtain⟨⟨k,p⟩,hm,rfl⟩:=qp.1 he
   obtain⟨i,hi⟩:=qr hm
   obtain⟨_,_,els,h3,_⟩:=H.val i k p hi
   have:=(q8.1 h3).1
   rw[List.length_set]at this
   simp[asG,evP,P2.enc,P2.cs,V.cl,V.cl1,V.cl0]
   omega
  rcases H.mp with rfl | rfl
  ·exact he
  ·exact he
theorem Qiv {j:Nat}:(List.replicate k O.dead++l)[k+j]?=l[j]?:=by
 rw[qf (by simp)];simp
theorem Qiu {j:Nat}:(List.replicate k O.dead++l).set (k+j) x=List.replicate k O.dead++l.set j x:=by
 rw[jl _ _ (by simp)];simp
end hset
section
variable {P:Program} (hm:P.follows .mixedOrders=true)
include hm
theorem Bo {f ft:FuncId} (hf:Qa P f (L0a.c ft) L0a.r L0a.n) (ht:Qbx P ft):Q6v P f:=by
 intro b h id o KJ F R first H hF hB hne hR
 refine Yb λhcl=>?_
 obtain⟨v1,l1,hF1⟩:∃v l,F first=v::l:=by
  cases hh:F first with
  | nil=>exact absurd hh hne
  | cons v l=>exact⟨v,l,rfl⟩
 refine X9 hm hf (qh rfl) ?_
 unfold L0a.c
 generalize hK:Eb h.length L0a.r _=K
 have hlt:=(q8.1 H.ob).1
 simp (disch:=omega) [go_sem,P2.enc,P2.cs,Q9,Qb,Qk,Ql]
 refine (Q8e ht H hF1 _).mono ?_
 rintro r h' ⟨rfl,o1,KJ1,rfl,H1⟩
 obtain⟨R1,hR1,hPF1⟩:=hF.take hF1
 have hlen1:=hR1.length_eq
 rw[List.length_cons]at hlen1
 have hsl:(h.set id o1).length=h.length:=by simp
 simp (disch:=omega) [go_sem,P2.enc,P2.cs,K6,Eo,W7,Em]
 refine Qf (α:=O × List (P2 × PI) × (P2->List P2) × List Eg × P2 × List P2 × Nat)
  (λp=>PoolAt b (h.set id p.1) id p.1 p.2.1 p.2.2.1/\PF p.2.2.1 p.2.2.2.1/\Trail first p.2.2.2.2.1 p.2.2.2.2.2.1 p.2.2.2.1 R/\p.2.2.2.2.2.1≠[]/\p.2.2.2.2.2.1.length+p.2.2.2.1.length<=4096)
  (λp=>⟨[(0,.mp id),(3,.p h.length 1 0 0),(4,.p (h.length+1) 1 0 0),(5,.p (h.length+3) 1 0 0),(6,.p (h.length+4+p.2.2.2.2.2.2) 1 0 0)],
   h.set id p.1++([.arr 1 2 [first.cs],.arr 1 1 [[.nil]],.arr p.2.2.2.2.2.1.length 2 (p.2.2.2.2.2.1.map P2.cs),.arr 1 1 [[.own (h.length+2) p.2.2.2.2.2.1.length 0 p.2.2.2.2.2.1.length]]]++(List.replicate p.2.2.2.2.2.2 O.dead++[.arr 1 2 [p.2.2.2.2.1.cs]]))⟩)
  (λp=>p.2.2.2.1.length) (o1,KJ1,Q33 F first l1,R1,v1,[first],0) ⟨H1,hPF1,(Trail.start hB first).step hR1,by simp,by simp;omega⟩ ?_ ?_
 ·simp[go_sem]
  exact⟨by omega,Qs (H1.clh (hcl _ (by omega)) (by omega)) (by simp[WeakH,O.cl,P2.cs,V.cl,V.cl1,V.cl0])⟩
 ·rintro⟨o2,KJ2,F2,R2,cur,vs,k⟩ ⟨H2,hPF2,hT,hvs,hlen⟩
  simp only at H2 hPF2 hT hvs hlen ⊢
  have hlt2:id<(h.set id o2).length:=by rw[List.length_set];exact hlt
  have hob:∀tl,(h.set id o2++tl)[id]?=some o2:=λtl=>by rw[qd hlt2];exact H2.ob
  cases hbf:(!(cur.x == first.x) || !(cur.y == first.y)) with
  | true =>
    have hne2:cur≠first:=by
     intro hh
     rw[hh]at hbf
     simp at hbf
    obtain⟨e,he,he2⟩:=hT.more hne2
    obtain⟨v,l,hFc⟩:∃v l,F2 cur=v::l:=by
     cases hh:F2 cur with
     | nil=>exact absurd he2 (hPF2.none.1 hh e he)
     | cons v l=>exact⟨v,l,rfl⟩
    obtain⟨R3,hR3,hPF3⟩:=hPF2.take hFc
    have hlen3:=hR3.length_eq
    rw[List.length_cons]at hlen3
    obtain⟨i,p,els,a1,_,a3,a4,_,_,_⟩:=H2.take hFc
    have hpj:∀tl,(h.set id o2++tl)[p.j]?=some (O.arr p.g 2 (els.map P2.cs)):=λtl=>by rw[qd (q8.1 a3).1];exact a3
    have hfe:Qj [1,1] (V.a [V.i .i64 cur.x,V.i .i64 cur.y]) (KJ2.map (asG P2.enc evP))=some (some (i,.own p.j p.g p.o p.n)):=by
     rw[show V.a [V.i .i64 cur.x,V.i .i64 cur.y]=cur.enc from rfl,Zw Kq evP cur KJ2,a1];rfl
    have hent:∀tl,Zl (h.set id o2++tl) (.mp id)=some (KJ2.map (asG P2.enc evP)):=λtl=>by
     unfold Zl
     simp only[hob tl]
     rcases H2.mp with rfl | rfl<;>rfl
    have hpn:0<p.n:=a4
    have hvt:List.take vs.length (vs.map P2.cs)=vs.map P2.cs:=qe (by simp)
    simp (disch:=omega) [go_sem,P2.enc,P2.cs,K6,Eo,W7,Em,En,Bi,Q28,hbf,hent,hfe,hpj,hpn,hvt,Qiv,Qiu]
    refine⟨⟨by omega,by omega⟩,?_⟩
    refine (Q8e ht H2 hFc _).mono ?_
    rintro r h' ⟨rfl,o3,KJ3,rfl,H3⟩
    rw[List.set_set]at H3
    have hsl3:(h.set id o3).length=h.length:=by simp
    simp (disch:=omega) [go_sem,P2.enc,P2.cs,K6,Eo,W7,Em,En,Bi,Q28,Qiv,Qiu]
    refine⟨o3,KJ3,Q33 F2 cur l,R3,v,vs++[cur],⟨H3,hPF3,hT.step hR3,by simp,by simp;omega⟩,by omega,k+1,by omega,⟨by omega,by omega,by omega⟩,?_⟩
    have hclo:∀n,(O.arr (vs.length+1) 2 ((vs++[cur]).map P2.cs)).cl n:=Qgp Qpd (vs++[cur])
    refine Qs (H3.clh (hcl _ (by omega)) (by omega)) ?_
    have hl1:(vs++[cur]).length=vs.length+1:=by simp
    have hm1:(vs++[cur]).map P2.cs=vs.map P2.cs++[[V.i .i64 cur.x,V.i .i64 cur.y]]:=by rw[qx];rfl
    rw[hl1,<- hm1]
    refine⟨.inr ⟨rfl,by simp[O.cl,V.cl,V.cl1,V.cl0]⟩,.inr ⟨rfl,by simp[O.cl,V.cl,V.cl1,V.cl0]⟩,.inr ⟨rfl,hclo _⟩,.inr ⟨rfl,by simp[O.cl,V.cl,V.cl1,V.cl0]⟩,Qhv ⟨.inr ⟨rfl,by simp[O.cl,V.cl,V.cl1,V.cl0]⟩,trivial⟩⟩
  | false =>
    have hbe:cur=first:=by
     simp only[Bool.or_eq_false_iff,Bool.not_eq_false',beq_iff_eq]at hbf
     exact p2_iff.2 hbf
    rw[hbe]at hT
    obtain⟨hB2,hP2⟩:=hT.close hvs
    simp (disch:=omega) [go_sem,P2.enc,P2.cs,K6,Eo,W7,Em,En,Bi,Q28,hbf]
    subst hK
    rw[Km]
    refine⟨[.a [.own (h.length+2) vs.length 0 vs.length]],h.set id o2++[.dead,.dead,.arr vs.length 2 (vs.map P2.cs)],?_,?_⟩
    ·simp (disch:=omega) [go_sem,L0a.r,K6]
    ·have hclo:∀n,(O.arr vs.length 2 (vs.map P2.cs)).cl n:=Qgp Qpd vs
     refine⟨rfl,by simp[V.cl,V.cl1,V.cl0],by simp,by simp,Qs (H2.clh (hcl _ (by simp)) (by simp)) ⟨.inl rfl,.inl rfl,.inr ⟨rfl,hclo _⟩,trivial⟩,?_⟩
     exact⟨vs,o2,KJ2,F2,R2,rfl,rfl,H2,hPF2,hB2,hP2,hvs⟩
end
def Q1p (R:List Eg):P2->List P2:=λk=>(R.filter λe=>decide (e.1=k)).map Prod.snd
theorem outF_ok (R:List Eg):PF (Q1p R) R:=λ_=>List.Perm.refl _
theorem Qlf (R:List Eg) (a b:P2):Q1p (R++[(a,b)])=Q33 (Q1p R) a (Q1p R a++[b]):=by
 funext k
 unfold Q1p Q33
 rw[List.filter_append,qx]
 by_cases h:k=a
 ·subst h;simp
 ·rw[if_neg h]
  simp
  exact λhh=>h hh.symm
structure UMc (hx:List O) (KJ:List (P2 × PI)) (F:P2->List P2):Prop where
 val:∀(i:Nat) (k:P2) (p:PI),KJ[i]?=some (k,p)->∃j,p=⟨j+2,(F k).length,0,(F k).length⟩/\1<=(F k).length/\hx[j]?=some (.arr (F k).length 2 ((F k).map P2.cs))
 inj:∀(i i':Nat) (k k':P2) (p p':PI),KJ[i]?=some (k,p)->KJ[i']?=some (k',p')->p.j=p'.j->i=i'
 key:(KJ.map Prod.fst).Nodup
 none:∀e,Z2 e KJ=Option.none->F e=[]
theorem UMc.nil:UMc [] [] (λ_=>[]):=⟨by simp,by simp,by simp,by simp⟩
theorem UMc.app {hx:List O} {KJ:List (P2 × PI)} {F:P2->List P2} (h:UMc hx KJ F) (l:List O):UMc (hx++l) KJ F :=
 ⟨λi k p hi=>by obtain⟨j,h1,h2,h3⟩:=h.val i k p hi;exact⟨j,h1,h2,by rw[qd (q8.1 h3).1];exact h3⟩,h.inj,h.key,h.none⟩
theorem UMc.new {hx:List O} {KJ:List (P2 × PI)} {F:P2->List P2} (h:UMc hx KJ F) {e v:P2} (he:Z2 e KJ=Option.none) {l:List O} {j0:Nat} (hj:hx.length<=j0) (ho:(hx++l)[j0]?=some (.arr 1 2 [v.cs])) :
  UMc (hx++l) (KJ++[(e,⟨j0+2,1,0,1⟩)]) (Q33 F e [v]):=by
 have hk:=fndG_none.1 he
 have hval:∀(i:Nat) (k:P2) (p:PI),(KJ++[(e,(⟨j0+2,1,0,1⟩:PI))])[i]?=some (k,p)->(i<KJ.length/\KJ[i]?=some (k,p)/\k≠e/\p.j<hx.length+2)∨(i=KJ.length/\k=e/\p=⟨j0+2,1,0,1⟩):=by
  intro i k p hi
  by_cases hl:i<KJ.length
  ·rw[qd hl]at hi
   obtain⟨j,rfl,_,h3⟩:=h.val i k p hi
   have:=(q8.1 h3).1
   refine .inl ⟨hl,hi,?_,by simp only[];omega⟩
   rintro rfl
   exact hk (qp.2 ⟨_,qb hi,rfl⟩)
  ·rw[qf (by omega)]at hi
   have h0:i-KJ.length=0:=by
    have:=(q8.1 hi).1
    simp at this;omega
   rw[h0]at hi
   simp at hi
   exact .inr ⟨by omega,hi.1.symm,hi.2.symm⟩
 refine⟨λi k p hi=>?_,λi i' k k' p p' h1 h2 h3=>?_,?_,λa ha=>?_⟩
 ·rcases hval i k p hi with⟨_,h1,h2,_⟩ | ⟨_,rfl,rfl⟩
  ·rw[J4 h2]
   exact(h.app l).val i k p h1
  ·rw[Jr]
   exact⟨j0,rfl,by simp,by simpa using ho⟩
 ·rcases hval i k p h1 with⟨_,a1,_,a3⟩ | ⟨a1,_,rfl⟩<;>rcases hval i' k' p' h2 with⟨_,b1,_,b3⟩ | ⟨b1,_,rfl⟩
  ·exact h.inj i i' k k' p p' a1 b1 h3
  ·simp only at h3;omega
  ·simp only at h3;omega
  ·omega
 ·rw[qx,List.nodup_append]
  exact⟨h.key,by simp,λa ha b hb=>by simp at hb;subst hb;rintro rfl;exact hk ha⟩
 ·have hn:=fndG_none.1 ha
  rw[qx,qg]at hn
  have hne:a≠e:=by rintro rfl;exact hn (.inr (by simp))
  rw[J4 hne]
  exact h.none a (fndG_none.2 λhm=>hn (.inl hm))
theorem UMc.old {hx:List O} {KJ:List (P2 × PI)} {F:P2->List P2} (h:UMc hx KJ F) {e:P2} {i j:Nat} {p:PI} (he:KJ[i]?=some (e,p)) (hj:p.j=j+2) {l:List P2} (hl:1<=l.length) :
  UMc (hx.set j (.arr l.length 2 (l.map P2.cs))) (KJ.set i (e,⟨j+2,l.length,0,l.length⟩)) (Q33 F e l):=by
 have hil:=(q8.1 he).1
 have hkey:(KJ.set i (e,(⟨j+2,l.length,0,l.length⟩:PI))).map Prod.fst=KJ.map Prod.fst:=by
  rw[List.map_set]
  exact Ky _ _ _ (by rw[qq,he];rfl)
 have hval:∀(i':Nat) (k:P2) (p':PI),(KJ.set i (e,(⟨j+2,l.length,0,l.length⟩:PI)))[i']?=some (k,p')->(i'≠i/\KJ[i']?=some (k,p')/\k≠e)∨(i'=i/\k=e/\p'=⟨j+2,l.length,0,l.length⟩):=by
  intro i' k p' hi
  by_cases hii:i=i'
  ·subst hii
   rw[qn hil]at hi
   simp only[Option.some.injEq,Prod.mk.injEq]at hi
   exact .inr ⟨rfl,hi.1.symm,hi.2.symm⟩
  ·rw[qu hii]at hi
   refine .inl ⟨λhh=>hii hh.symm,hi,?_⟩
   rintro rfl
   have h1:=Yo h.key hi
   have h2:=Yo h.key he
   rw[h1]at h2
   simp only[Option.some.injEq,Prod.mk.injEq]at h2
   exact hii h2.1.symm
 refine⟨λi' k p' hi=>?_,λi1 i2 k k' p1 p2 h1 h2 h3=>?_,by rw[hkey];exact h.key,λa ha=>?_⟩
 ·rcases hval i' k p' hi with⟨h1,h2,h3⟩ | ⟨_,rfl,rfl⟩
  ·rw[J4 h3]
   obtain⟨j',q1,q2,q3⟩:=h.val i' k p' h2
   refine⟨j',q1,q2,?_⟩
   rw[qu]
   ·exact q3
   ·rintro rfl
    exact h1 (h.inj i' i k e p' p h2 he (by rw[q1,hj]))
  ·rw[Jr]
   refine⟨j,rfl,hl,?_⟩
   obtain⟨j',q1,q2,q3⟩:=h.val i k p he
   have hjj:j'=j:=by rw[q1]at hj;simp only at hj;omega
   subst hjj
   rw[qn (q8.1 q3).1]
 ·rcases hval i1 k p1 h1 with⟨a1,a2,_⟩ | ⟨rfl,_,rfl⟩<;>rcases hval i2 k' p2 h2 with⟨b1,b2,_⟩ | ⟨rfl,_,rfl⟩
  ·exact h.inj i1 i2 k k' p1 p2 a2 b2 h3
  ·exact h.inj i1 i2 k e p1 p a2 he (by rw[h3,hj])
  ·exact h.inj i1 i2 e k' p p2 he b2 (by rw[<- h3,hj])
  ·rfl
 ·have hn:=fndG_none.1 ha
  rw[hkey]at hn
  have hne:a≠e:=by rintro rfl;exact hn (qp.2 ⟨_,qb he,rfl⟩)
  rw[J4 hne]
  exact h.none a (fndG_none.2 hn)
theorem UMc.pool {hx:List O} {KJ:List (P2 × PI)} {F:P2->List P2} (h:UMc hx KJ F) (o1:O):PoolAt (hx.length+2) (.mp (KJ.map (asG P2.enc evP))::o1::hx) 0 (.mp (KJ.map (asG P2.enc evP))) KJ F where
 mp:=.inl rfl
 ob:=rfl
 val i k p hi:=by
  obtain⟨j,rfl,h2,h3⟩:=h.val i k p hi
  exact⟨rfl,h2,F k,by simpa using h3,by simp,by simp⟩
 key:=h.key
 lt i k p hi:=by
  obtain⟨j,rfl,h2,h3⟩:=h.val i k p hi
  have:=(q8.1 h3).1
  simp only[];omega
 none:=h.none
theorem UMc.cl2 {hx:List O} {KJ:List (P2 × PI)} {F:P2->List P2} (h:UMc hx KJ F) {N:Nat} (hN:hx.length+2<=N):∀(a b:V) (x:P2) (y:PI),(x,y)∈KJ->asG P2.enc evP (x,y)=(a,b)->a.cl N=true/\b.cl N=true:=λa b x y hm he=>by
 obtain⟨i,hi⟩:=qr hm
 obtain⟨j,rfl,_,h3⟩:=h.val i x y hi
 have:=(q8.1 h3).1
 simp only[asG,evP,Prod.mk.injEq]at he
 obtain⟨rfl,rfl⟩:=he
 simp[P2.enc,P2.cs,V.cl,V.cl1,V.cl0]
 omega
theorem ne_take {l:List Sg4} {k:Nat} {s:Sg4} (h:l[k]?=some s):neE (egs (l.take (k+1)))=neE (egs (l.take k))++(if s.eg.1=s.eg.2 then [] else [s.eg]):=by
 rw[Qcn l h]
 unfold neE
 rw[List.filter_append]
 congr 1
 by_cases h:s.eg.1=s.eg.2
 ·simp[h]
 ·simp[h]
end Go.Abs
