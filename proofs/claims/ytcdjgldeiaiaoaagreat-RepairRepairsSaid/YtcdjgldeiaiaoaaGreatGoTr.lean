/- Part of the library on which the proof stands: an abstract machine, its values and its soundness against the model; or what functions of the program do to such values. -/
import Derived.Test.YtcdjgldeiaiaoaaGreatGoOriA
import Derived.Test.YtcdjgldeiaiaoaaGreatGoRevC
import Derived.Test.YtcdjgldeiaiaoaaGreatGoLpB
import Derived.Test.YtcdjgldeiaiaoaaGreatGoTpE
set_option linter.unusedVariables false
set_option linter.unusedSimpArgs false
namespace Go.Abs
section
variable {K β:Type} [DecidableEq K]
def Zh (e:K):List (K × β)->Option (Nat × β)
 | []=>none
 | (k,n)::r=>if e=k then some (0,n) else (Zh e r).map λp=>(p.1+1,p.2)
structure KeyOk (ls:List Nat) (en:K->V):Prop where
 shape:∀a,Zi ls (en a)=true
 len:∀a,(en a).cells.length=ls.length
 eq:∀a b,Ze ls (en a).cells (en b).cells=some (decide (a=b))
def asG (en:K->V) (ev:β->V) (p:K × β):V × V:=(en p.1,ev p.2)
theorem Xn {ls:List Nat} {en:K->V} (O:KeyOk ls en) (ev:β->V) (e:K):∀L:List (K × β),Qm ls (en e) (L.map (asG en ev))=some ((Zh e L).map λp=>(p.1,ev p.2))
 | []=>by simp[Qm,O.shape,O.len,Zh]
 | (k,n)::r=>by
   simp only[List.map_cons,asG,Qm,Zh,O.shape,O.eq,Bool.and_self,if_true]
   by_cases h:e=k
   ·simp[h]
   ·simp only[h,decide_false,if_false]
    have:=Xn O ev e r
    rw[this]
    cases Zh e r<;>rfl
theorem fndG_none {e:K}:∀{L:List (K × β)},Zh e L=none↔e∉L.map Prod.fst
 | []=>by simp[Zh]
 | (k,n)::r=>by
   simp only[Zh]
   by_cases h:e=k
   ·simp[h]
   ·rw[if_neg h,Option.map_eq_none_iff,fndG_none (L:=r)]
    simp[h]
theorem K8 {e:K}:∀{L:List (K × β)} {i:Nat} {n:β},Zh e L=some (i,n)->L[i]?=some (e,n)
 | [],i,n,h=>by simp[Zh]at h
 | (k,m)::r,i,n,h=>by
   simp only[Zh]at h
   by_cases hk:e=k
   ·simp[hk]at h;obtain⟨rfl,rfl⟩:=h;simp[hk]
   ·simp only[hk,if_false,Option.map_eq_some_iff,Prod.mk.injEq]at h
    obtain⟨⟨j,n1⟩,hj,rfl,rfl⟩:=h
    simpa using K8 hj
theorem E4:∀{L:List (K × β)} {i:Nat} {e:K} {n:β},(L.map Prod.fst).Nodup->L[i]?=some (e,n)->Zh e L=some (i,n)
 | [],i,e,n,_,h=>by simp at h
 | (k,m)::r,0,e,n,_,h=>by simp at h;obtain⟨rfl,rfl⟩:=h;simp[Zh]
 | (k,m)::r,i+1,e,n,hn,h=>by
   simp only[List.map_cons,List.nodup_cons]at hn
   simp only[List.getElem?_cons_succ]at h
   have hk:¬ e=k:=by
    rintro rfl
    exact hn.1 (List.mem_map.2 ⟨(e,n),List.mem_of_getElem? h,rfl⟩)
   simp[Zh,hk,E4 hn.2 h]
theorem E5 {e e':K} {n:β}:∀{L:List (K × β)},Zh e L=none->Zh e' (L++[(e,n)])=if e'=e then some (L.length,n) else Zh e' L
 | [],_=>by simp[Zh]
 | (k,m)::r,h=>by
   simp only[Zh]at h
   by_cases hk:e=k
   ·simp[hk]at h
   ·simp only[hk,if_false,Option.map_eq_none_iff]at h
    by_cases he:e'=e
    ·subst he;simp[Zh,hk,E5 h]
    ·simp only[List.cons_append,Zh,E5 h,he,if_false]
theorem fndG_set {e e':K} {n':β}:∀{L:List (K × β)} {i:Nat} {n:β},Zh e L=some (i,n)->Zh e' (L.set i (e,n'))=if e'=e then some (i,n') else Zh e' L
 | [],i,n,h=>by simp[Zh]at h
 | (k,m)::r,i,n,h=>by
   simp only[Zh]at h
   by_cases hk:e=k
   ·simp[hk]at h;obtain⟨rfl,rfl⟩:=h
    subst hk
    by_cases he:e'=e<;>simp[Zh,he]
   ·simp only[hk,if_false,Option.map_eq_some_iff,Prod.mk.injEq]at h
    obtain⟨⟨j,n1⟩,hj,rfl,rfl⟩:=h
    have:=fndG_set (e':=e') (n':=n') hj
    by_cases he:e'=e
    ·subst he;simp[Zh,hk,this]
    ·simp only[List.set_cons_succ,Zh,this,he,if_false]
def putG (e:K) (n:β) (L:List (K × β)):List (K × β):=match Zh e L with | some (i,_)=>L.set i (e,n) | none=>L++[(e,n)]
theorem fndG_put (e e':K) (n:β) (L:List (K × β)):(Zh e' (putG e n L)).map Prod.snd=if e'=e then some n else (Zh e' L).map Prod.snd:=by
 unfold putG
 cases h:Zh e L with
 | none=>simp only[E5 h];split<;>simp
 | some p=>obtain⟨i,m⟩:=p;simp only[fndG_set h];split<;>simp
end
theorem key_P2:KeyOk [1,1] P2.enc:=⟨λ_=>rfl,λ_=>rfl,veq2⟩
theorem key_V3:KeyOk [1,1,1] V3.enc:=⟨λ_=>rfl,λ_=>rfl,λa b=>by
 cases a;cases b
 simp[Ze,V3.enc,V3.cs,V.cells,Bt,V3.mk.injEq]
 rw[Bool.eq_iff_iff];simp⟩
theorem key_T3:KeyOk [1,1,1] T3.enc:=⟨λ_=>rfl,λ_=>rfl,λa b=>by
 cases a;cases b
 simp[Ze,T3.enc,T3.cs,V.cells,Bt,T3.mk.injEq]
 rw[Bool.eq_iff_iff];simp⟩
theorem key_i64:KeyOk [1] (V.i .i64):=⟨λ_=>rfl,λ_=>rfl,λa b=>by
 simp[Ze,V.cells,Bt]
 rw[Bool.eq_iff_iff];simp⟩
end Go.Abs
set_option linter.unusedVariables false
set_option linter.unusedSimpArgs false
namespace Go.Abs
def kt {K:Type} (en:K->V) (v:K):V × V:=(en v,.b true)
theorem Eq {K:Type} [DecidableEq K] {ls:List Nat} {en:K->V} (O:KeyOk ls en) (e:K) (U:List K):Qm ls (en e) (U.map (kt en))=some (if e∈U then some (U.idxOf e,.b true) else none):=by
 induction U with
 | nil=>simp[Qm,O.shape,O.len]
 | cons x r ih =>
   simp only[List.map_cons,kt,Qm,O.shape,O.eq,Bool.and_self,if_true]
   by_cases h:e=x
   ·simp[h]
   ·simp only[h,decide_false]
    have ih':Qm ls (en e) (r.map λv=>(en v,V.b true))=_:=ih
    have hm:(e∈x::r)=(e∈r):=by simp[h]
    have h':¬ x=e:=λhh=>h hh.symm
    show Option.map _ (Qm ls (en e) (r.map (kt en)))=_
    rw[ih]
    have hb:(x == e)=false:=by simp[h']
    by_cases hr:e∈r<;>simp[hr,h,List.idxOf_cons,h',hb]
theorem Jf (t:V3) (n:Nat):(∀y∈t.cs,y.cl n=true)=True:=by simp[V3.cs,V.cl,V.cl1,V.cl0]
theorem Xl (v:V3) (n:Nat):v.enc.cl n=true:=by simp[V3.enc,V3.cs,V.cl,V.cl1,V.cl0]
theorem Qp (t:T3) (n:Nat):(∀y∈t.cs,y.cl n=true)=True:=by simp[T3.cs,V.cl,V.cl1,V.cl0]
end Go.Abs
set_option linter.unusedVariables false
set_option linter.unusedSimpArgs false
namespace Go.Abs
def Xa (l:List P2) (k:Nat):List (Int × Int):=(l.take k).foldl (λM e=>putG e.y e.x M) []
theorem fromK_succ {l:List P2} {k:Nat} {e:P2} (h:l[k]?=some e):Xa l (k+1)=putG e.y e.x (Xa l k):=by unfold Xa;rw[Qd h,List.foldl_append];rfl
theorem ynd_inj {l:List P2} (hy:(l.map P2.y).Nodup) {a b:P2} (ha:a∈l) (hb:b∈l) (h:a.y=b.y):a=b:=by
 obtain⟨i,hi,rfl⟩:=List.mem_iff_getElem.1 ha
 obtain⟨j,hj,rfl⟩:=List.mem_iff_getElem.1 hb
 have e1:(l.map P2.y).idxOf l[i].y=i:=by
  have:=hy.idxOf_getElem i (by simpa using hi)
  simpa using this
 have e2:(l.map P2.y).idxOf l[j].y=j:=by
  have:=hy.idxOf_getElem j (by simpa using hj)
  simpa using this
 rw[h]at e1
 have:i=j:=by omega
 subst this;rfl
theorem fromK_get {l:List P2} (hy:(l.map P2.y).Nodup):∀(k:Nat),k<=l.length->∀e∈l.take k,(Zh e.y (Xa l k)).map Prod.snd=some e.x
 | 0,_,e,he=>by simp at he
 | k+1,hk,e,he=>by
   have hp:l[k]?=some l[k]:=List.getElem?_eq_getElem (by omega)
   rw[Qd hp]at he
   rw[fromK_succ hp,fndG_put]
   by_cases h:e.y=l[k].y
   ·rw[if_pos h]
    have hel:e∈l:=by
     rcases List.mem_append.1 he with h1 | h1
     ·exact List.mem_of_mem_take h1
     ·simp at h1;subst h1;exact List.getElem_mem _
    rw[ynd_inj hy hel (List.getElem_mem _) h]
   ·rw[if_neg h]
    rcases List.mem_append.1 he with h1 | h1
    ·exact fromK_get hy k (by omega) e h1
    ·simp at h1;subst h1;exact absurd rfl h
theorem from_nxt {m:Mesh} (hz:m.check=0) (h:m.simple m.border=true) {v:Int} (hv:v∈m.border.map P2.x):∃i:Nat,Zh v (Xa m.border m.border.length)=some (i,nxt m.border v):=by
 rw[border_xy hz h]at hv
 obtain⟨e,he,rfl⟩:=List.mem_map.1 hv
 have hy:=Bf hz h
 have h1:=fromK_get hy m.border.length (Nat.le_refl _) e (by rw[List.take_length];exact he)
 rw[nxt_of hy he]
 cases hf:Zh e.y (Xa m.border m.border.length) with
 | none=>rw[hf]at h1;simp at h1
 | some p =>
   rw[hf]at h1
   simp only[Option.map_some,Option.some.injEq]at h1
   exact⟨p.1,by rw[<- h1]⟩
theorem Yq (L:List (Int × Int)) (n:Nat):∀(a b:V) (x y:Int),(x,y)∈L->asG (V.i .i64) (V.i .i64) (x,y)=(a,b)->a.cl n=true/\b.cl n=true:=by
 rintro a b x y _ h
 simp only[asG,Prod.mk.injEq]at h
 obtain⟨rfl,rfl⟩:=h
 exact⟨rfl,rfl⟩
theorem find_use {m:Mesh} {e:P2} (h:e∈m.border):∃i:Nat,fnd e (Z3 m)=some (i,m.use e):=by
 obtain⟨hz,he,_⟩:=mem_border.1 h
 obtain⟨i,hi⟩:=tallyM_of hz he
 exact⟨i,Kn (Bn m) hi⟩
section
variable {P:Program} (hm:P.follows .mixedOrders=true)
include hm
set_option maxRecDepth 20000 in
set_option maxHeartbeats 8000000 in
theorem topo_Loops_ok {f fc fn fb fr:FuncId} (hf:Q9 P f (topo_Loops.c fc fn fb fr) topo_Loops.r topo_Loops.n) (hc:Z8 P fc) (hn:CountedC P fn) (hb:Xd P fb) (hr:RevC P fr):LoopsC P f:=by
 intro m
 by_cases hz:m.check=0
 case neg =>
  have he:m.loops=([],m.check):=by simp[Mesh.loops,hz]
  rw[he]
  refine CallIs.res (r:=.t [.nil,.i .i64 m.check]) ?_ (lsV_no _)
  refine PureC.is (Q7 hm hf (Nat.le_of_ble_eq_true rfl) ?_) rfl
  unfold topo_Loops.c
  simp[go_sem,Mesh.enc,Mesh.cs]
  refine Q3 (hc m) ?_
  simp[go_sem,hz,topo_Loops.r]
 have hbl:=Ks m
 have hLl:=tallyM_len m
 have hmain:PureC P f [m.enc] (·=if m.simple m.border=true then V.t [lsV (Jz m.border),.i .i64 0] else .t [.nil,.i .i64 13]):=by
  refine pure_ofF hm hf (Nat.le_of_ble_eq_true rfl) ?_
  have hrange:∀e∈m.border,0<=e.x/\e.x<m.verts.length:=λe he=>⟨(K1 he).1,(K1 he).2.1⟩
  have hnm:∀v,m.simple m.border=true->v∈m.border.map P2.x->nxt m.border v∈m.border.map P2.x:=λv hsi=>nxt_mem hz hsi
  have hfx:∀v,m.simple m.border=true->v∈m.border.map P2.x->∃i:Nat,Zh v (Xa m.border m.border.length)=some (i,nxt m.border v):=λv hsi=>from_nxt hz hsi
  have hfu:∀e∈m.border,∃i:Nat,fnd e (Z3 m)=some (i,m.use e):=λe he=>find_use he
  have hvu:∀e,val e (Z3 m)=m.use e:=val_tallyM m
  unfold topo_Loops.c
  simp[go_sem,Mesh.enc,Mesh.cs]
  refine Q3 (hc m) ?_
  simp[go_sem,hz]
  refine Ws (hn m) rfl ?_
  simp only[List.map_cons,List.map_nil,sh_asV]
  simp[go_sem]
  refine Q3 (hb m) ?_
  generalize m.border=l at *
  generalize hT:Z3 m=T at *
  simp[go_sem,psV]
  refine Qe (α:=Nat) (λk=>k<=l.length/\∀i,i<k->Xw m l i=true)
   (λk=>⟨[(5,.mp 2),(6,psV l),(7,.mp 3),(26,psV l),(27,.i .i64 l.length),(28,.i .i64 k)],[.dead,.dead,.mp (T.map asV),.mp ((Xa l k).map (asG (V.i .i64) (V.i .i64)))]⟩)
   (λk=>l.length-k) 0 ⟨Nat.zero_le _,by simp⟩ ?_ ?_
  ·simp[go_sem,psV,Xa]
   exact Zv _ 4
  ·rintro k ⟨hk,hok⟩
   by_cases hkl:k=l.length
   ·subst hkl
    have hsi:m.simple l=true:=List.all_eq_true.2 λi hi=>hok i (List.mem_range.1 hi)
    rw[if_pos hsi]
    replace hnm:=λv=>hnm v hsi
    replace hfx:=λv=>hfx v hsi
    unfold Jz
    simp[go_sem,psV]
    have hxr:∀v,v∈l.map P2.x->nxt l v∈l.map P2.x:=hnm
    refine Qq [.t 10 1] (α:=Nat × List O × List (List V)) (λp=>p.1<=l.length/\Held 6 p.2.1 (Qt (nxt l) l p.1).2 p.2.2/\Flt p.2.1/\(Qt (nxt l) l p.1).2.length<=p.1)
     (λp=>⟨[(7,.mp 3),(10,.own 5 ((Qt (nxt l) l p.1).2.length+1) 0 (Qt (nxt l) l p.1).2.length),(11,.mp 4),(66,psV l),(67,.i .i64 l.length),(68,.i .i64 p.1)],
      .dead::.dead::.dead::.mp ((Xa l l.length).map (asG (V.i .i64) (V.i .i64)))::.mp ((Qt (nxt l) l p.1).1.map (kt (V.i .i64)))::.arr ((Qt (nxt l) l p.1).2.length+1) 1 p.2.2::p.2.1⟩)
     (λp=>l.length-p.1) (0,[],[]) ⟨Nat.zero_le _,Held.nil 6,by simp[Flt],by simp[Qt]⟩ ?_ ?_
    ·simp[go_sem,psV,Qt]
     exact Yq _ _
    ·rintro⟨k,hx,cells⟩ ⟨hk,hH,hF,hkl⟩
     simp only at hk hH hF hkl ⊢
     by_cases hkl:k=l.length
     ·subst hkl
      have hfz:=held_if (base:=[.dead,.dead,.dead,.mp ((Xa l l.length).map (asG (V.i .i64) (V.i .i64))),.mp ((Qt (nxt l) l l.length).1.map (kt (V.i .i64))),.arr ((Qt (nxt l) l l.length).2.length+1) 1 cells]) hH rfl
      simp only[List.cons_append,List.nil_append]at hfz
      generalize Qt (nxt l) l l.length=D at *
      simp[go_sem,psV,topo_Loops.r,K2]
      rw[hfz];rfl
     ·have hlt:k<l.length:=by omega
      have hp:l[k]?=some l[k]:=List.getElem?_eq_getElem hlt
      have hmem:l[k]∈l:=List.getElem_mem _
      have hst:=Uv (nxt l) hp
      generalize l[k]=e at hp hst hmem
      obtain⟨_,hp'⟩:=List.getElem?_eq_some_iff.1 hp
      generalize Qt (nxt l) l k=D at *
      obtain⟨done,ls⟩:=D
      simp only at *
      unfold Jj at hst
      simp only at hst
      have f1:Qm [1] (V.i .i64 e.x) (done.map (kt (V.i .i64)))=_:=Eq key_i64 e.x done
      by_cases hd:e.x∈done
      ·rw[if_pos hd]at hst f1
       simp (disch:=omega) [go_sem,psV,hlt,hp,hp',pcs,f1,Q0,Qa,Qc]
       exact⟨k+1,hx,cells,⟨by omega,by rw[hst];exact hH,hF,by rw[hst];simp only;omega⟩,by omega,by omega,⟨by rw[hst],by simp⟩,Yq _ _,⟨by rw[hst],λa _=>⟨rfl,rfl⟩⟩,⟨⟨by rw[hst],rfl⟩,hH.cl (by omega)⟩,hF.WeakH _⟩
      ·rw[if_neg hd]at hst f1
       simp (disch:=omega) [go_sem,psV,hlt,hp,hp',pcs,f1,Q0,Qa,Qc]
       have hxA:e.x∈l.map P2.x:=List.mem_map.2 ⟨e,hmem,rfl⟩
       have htd:=todo_le (l.map P2.x) done
       rw[List.length_map]at htd
       generalize hR:Kd (nxt l) done (l.length+1) [] e.x=R at hst
       refine Qq [.t 14 1] (α:=Nat × List Int × Int) (λq=>q.2.2∈l.map P2.x/\todo (l.map P2.x) (done++q.2.1)<q.1/\Kd (nxt l) done q.1 q.2.1 q.2.2=R/\q.2.1.length+q.1<=l.length+1)
        (λq=>⟨[(7,.mp 3),(10,.own 5 (ls.length+1) 0 ls.length),(11,.mp 4),(14,.own (hx.length+7) (q.2.1.length+1) 0 q.2.1.length),(15,.i .i64 q.2.2),(66,psV l),(67,.i .i64 l.length),(68,.i .i64 k)],
         .dead::.dead::.dead::.mp ((Xa l l.length).map (asG (V.i .i64) (V.i .i64)))::.mp ((done++q.2.1).map (kt (V.i .i64)))::.arr (ls.length+1) 1 cells::(hx++[.dead,.arr (q.2.1.length+1) 1 (ics q.2.1)])⟩)
        (λq=>q.1) (l.length+1,[],e.x) ⟨hxA,by simp only[List.append_nil];omega,hR,by simp⟩ ?_ ?_
       ·simp[go_sem,psV,ics]
        exact⟨Yq _ _,λa _=>⟨rfl,rfl⟩,hH.cl (by omega),Z5 (λo ho=>hF o ho _) (by simp[go_sem])⟩
       ·rintro⟨fu,w,v⟩ ⟨q1,q2,q3,q4⟩
        simp only at q1 q2 q3 q4 ⊢
        have f2:Qm [1] (V.i .i64 v) ((done++w).map (kt (V.i .i64)))=_:=Eq key_i64 v (done++w)
        cases fu with
        | zero=>omega
        | succ fu =>
          unfold Kd at q3
          by_cases hvd:v∈done++w
          ·rw[if_pos hvd]at q3 f2
           subst q3
           have htc:List.take ls.length cells=cells:=List.take_of_length_le (by rw[hH.1];exact Nat.le_refl _)
           have e4:hx.length+7=6+(hx.length+1):=by omega
           have hHs:Held 6 (hx++[.dead,.arr (w.length+1) 1 (ics w)]) (ls++[w]) (cells++[[.own (hx.length+7) (w.length+1) 0 w.length]]):=by
            rw[e4]
            exact(hH.app _).snoc (by rw[Qa];rfl)
           have hFs:Flt (hx++[.dead,.arr (w.length+1) 1 (ics w)]):=hF.app λo ho n=>by
            simp at ho
            rcases ho with rfl | rfl
            ·trivial
            ·exact Zt w n
           generalize hdw:done++w=dw at *
           simp (disch:=omega) [go_sem,psV,f2,Q0,Qa,Qc,htc]
           refine⟨⟨by have:=hH.1;omega,by omega,by omega⟩,k+1,hx++[.dead,.arr (w.length+1) 1 (ics w)],_,⟨by omega,by rw[hst];exact hHs,hFs,by rw[hst];simp only[List.length_append,List.length_cons,List.length_nil];omega⟩,by omega,by simp,⟨by rw[hst];simp,by simp⟩,Yq _ _,⟨by rw[hst],λa _=>⟨rfl,rfl⟩⟩,⟨⟨by rw[hst];simp,rfl⟩,hHs.cl (by simp;omega)⟩,?_⟩
           have:=hFs.WeakH (l:=[O.arr 1 1 [[V.own (hx.length+7) (w.length+1) 0 w.length]]]) ((hx++[O.dead,O.arr (w.length+1) 1 (ics w)]).length+1+1+1+1+1+1)
           rwa [List.append_assoc]at this
          ·rw[if_neg hvd]at q3 f2
           have htl:=todo_lt q1 hvd
           obtain⟨i4,hi4⟩:=hfx v q1
           have f4:Qm [1] (V.i .i64 v) ((Xa l l.length).map (asG (V.i .i64) (V.i .i64)))=_:=Xn key_i64 (V.i .i64) v (Xa l l.length)
           rw[hi4,Option.map_some]at f4
           have hnv:=hnm v q1
           rw[List.mem_map]at hnv
           have htw:List.take w.length (ics w)=ics w:=List.take_of_length_le (by simp[ics])
           have hdw2:done++(w++[v])=done++w++[v]:=(List.append_assoc _ _ _).symm
           have hics:ics (w++[v])=ics w++[[.i .i64 v]]:=by simp[ics]
           have hwl:(w++[v]).length=w.length+1:=by simp
           have hwi:w.length<=(ics w).length:=by simp[ics]
           generalize hdw:done++w=dw at *
           simp (disch:=omega) [go_sem,psV,f2,f4,Q0,Qa,Qc,htw,hwi]
           refine⟨⟨by omega,by omega⟩,fu,w++[v],nxt l v,⟨hnv,by rw[hdw2];omega,q3,by simp;omega⟩,by omega,⟨hwl.symm,rfl⟩,Yq _ _,⟨?_,?_⟩,hH.cl (by omega),?_⟩
           ·rw[<- hdw];simp[kt]
           ·rintro a b (⟨_,_,h⟩ | ⟨_,_,h⟩)<;>(simp only[kt,Prod.mk.injEq]at h;obtain⟨rfl,rfl⟩:=h;exact⟨rfl,rfl⟩)
           ·rw[hics,hwl]
            exact Z5 (λo ho=>hF o ho _) ⟨.inl rfl,.inr ⟨rfl,by rw[<- hics];exact Zt _ _⟩,trivial⟩
   ·have hlt:k<l.length:=by omega
    have hp:l[k]?=some l[k]:=List.getElem?_eq_getElem hlt
    have hmem:l[k]∈l:=List.getElem_mem _
    have hfs:=fromK_succ hp
    generalize l[k]=e at hp hmem hfs
    obtain⟨_,hp'⟩:=List.getElem?_eq_some_iff.1 hp
    have hoe:Xw m l k=(decide (m.use e=1) && (decide (m.use e.rev=0) && !(decide (0<k) && decide (((l[k-1]?).getD ⟨0,0⟩).x=e.x)))):=by unfold Xw;rw[hp]
    have hfalse:Xw m l k=false->m.simple l=false:=Br hlt
    have hnext:Xw m l k=true->∀i,i<k+1->Xw m l i=true:=λh i hi=>by
     by_cases hik:i=k
     ·subst hik;exact h
     ·exact hok i (by omega)
    obtain⟨i1,hi1⟩:=hfu e hmem
    have f1:Qm [1,1] (V.a [V.i .i64 e.x,V.i .i64 e.y]) (T.map asV)=_:=Xb e T
    rw[hi1]at f1
    simp only[Option.map_some]at f1
    have f2:Qm [1,1] (V.a [V.i .i64 e.y,V.i .i64 e.x]) (T.map asV)=_:=Xb e.rev T
    have hv2:=hvu e.rev
    unfold val at hv2
    have f3:Qm [1] (V.i .i64 e.y) ((Xa l k).map (asG (V.i .i64) (V.i .i64)))=_:=Xn key_i64 (V.i .i64) e.y (Xa l k)
    simp (disch:=omega) [go_sem,psV,hlt,hp,hp',pcs,f1]
    by_cases c1:m.use e=1
    ·simp (disch:=omega) [go_sem,c1]
     refine Qf (hr e) ?_
     simp only[P2.enc,P2.rev,pcs]
     cases hfn:fnd e.rev T with
     | none =>
       rw[hfn]at f2 hv2
       simp only[Option.map_none]at f2
       simp only at hv2
       have c2:m.use e.rev=0:=hv2.symm
       cases k with
       | zero =>
         have hT2:Xw m l 0=true:=by rw[hoe];simp[c1,c2]
         cases hfg:Zh e.y (Xa l 0) with
         | none =>
           rw[hfg,Option.map_none]at f3
           simp (disch:=omega) [go_sem,psV,f2,Q0,f3,c2]
           refine⟨1,⟨by omega,hnext hT2⟩,by omega,by simp,Zv _ _,?_,?_⟩
           ·rw[hfs,putG,hfg];simp[asG]
           ·exact Yq _ _
         | some p =>
           obtain⟨q,n3⟩:=p
           rw[hfg,Option.map_some]at f3
           simp (disch:=omega) [go_sem,psV,f2,Q0,f3,c2]
           refine⟨1,⟨by omega,hnext hT2⟩,by omega,by simp,Zv _ _,?_,?_⟩
           ·rw[hfs,putG,hfg];simp[asG,List.map_set]
           ·exact Yq _ _
       | succ j =>
         have hq:l[j]?=some l[j]:=List.getElem?_eq_getElem (by omega)
         rw[Nat.add_sub_cancel,hq]at hoe
         simp only[Option.getD_some]at hoe
         generalize l[j]=d at hq hoe
         obtain⟨_,hq'⟩:=List.getElem?_eq_some_iff.1 hq
         by_cases c3:d.x=e.x
         ·have hF:Xw m l (j+1)=false:=by rw[hoe];simp[c1,c2,c3]
          simp (disch:=omega) [go_sem,c2,c3,f2,psV,Q0,hq,hq',pcs,show j<l.length by omega,hfalse hF,topo_Loops.r,K2,show (0:Int)<(j:Int)+1 by omega]
         ·have hT2:Xw m l (j+1)=true:=by rw[hoe];simp[c1,c2,c3]
          cases hfg:Zh e.y (Xa l (j+1)) with
          | none =>
            rw[hfg,Option.map_none]at f3
            simp (disch:=omega) [go_sem,psV,f2,Q0,f3,c2,c3,hq,hq',pcs,show j<l.length by omega,show (0:Int)<(j:Int)+1 by omega]
            refine⟨j+1+1,⟨by omega,hnext hT2⟩,by omega,by simp,Zv _ _,?_,?_⟩
            ·rw[hfs,putG,hfg];simp[asG]
            ·exact Yq _ _
          | some p =>
            obtain⟨q,n3⟩:=p
            rw[hfg,Option.map_some]at f3
            simp (disch:=omega) [go_sem,psV,f2,Q0,f3,c2,c3,hq,hq',pcs,show j<l.length by omega,show (0:Int)<(j:Int)+1 by omega]
            refine⟨j+1+1,⟨by omega,hnext hT2⟩,by omega,by simp,Zv _ _,?_,?_⟩
            ·rw[hfs,putG,hfg];simp[asG,List.map_set]
            ·exact Yq _ _
     | some p =>
       obtain⟨jj,n2⟩:=p
       rw[hfn]at f2 hv2
       simp only[Option.map_some]at f2
       simp only at hv2
       by_cases c2:n2=0
       ·subst c2
        have c2:m.use e.rev=0:=hv2.symm
        cases k with
        | zero =>
          have hT2:Xw m l 0=true:=by rw[hoe];simp[c1,c2]
          cases hfg:Zh e.y (Xa l 0) with
          | none =>
            rw[hfg,Option.map_none]at f3
            simp (disch:=omega) [go_sem,psV,f2,Q0,f3,c2]
            refine⟨1,⟨by omega,hnext hT2⟩,by omega,by simp,Zv _ _,?_,?_⟩
            ·rw[hfs,putG,hfg];simp[asG]
            ·exact Yq _ _
          | some p =>
            obtain⟨q,n3⟩:=p
            rw[hfg,Option.map_some]at f3
            simp (disch:=omega) [go_sem,psV,f2,Q0,f3,c2]
            refine⟨1,⟨by omega,hnext hT2⟩,by omega,by simp,Zv _ _,?_,?_⟩
            ·rw[hfs,putG,hfg];simp[asG,List.map_set]
            ·exact Yq _ _
        | succ j =>
          have hq:l[j]?=some l[j]:=List.getElem?_eq_getElem (by omega)
          rw[Nat.add_sub_cancel,hq]at hoe
          simp only[Option.getD_some]at hoe
          generalize l[j]=d at hq hoe
          obtain⟨_,hq'⟩:=List.getElem?_eq_some_iff.1 hq
          by_cases c3:d.x=e.x
          ·have hF:Xw m l (j+1)=false:=by rw[hoe];simp[c1,c2,c3]
           simp (disch:=omega) [go_sem,c2,c3,f2,psV,Q0,hq,hq',pcs,show j<l.length by omega,hfalse hF,topo_Loops.r,K2,show (0:Int)<(j:Int)+1 by omega]
          ·have hT2:Xw m l (j+1)=true:=by rw[hoe];simp[c1,c2,c3]
           cases hfg:Zh e.y (Xa l (j+1)) with
           | none =>
             rw[hfg,Option.map_none]at f3
             simp (disch:=omega) [go_sem,psV,f2,Q0,f3,c2,c3,hq,hq',pcs,show j<l.length by omega,show (0:Int)<(j:Int)+1 by omega]
             refine⟨j+1+1,⟨by omega,hnext hT2⟩,by omega,by simp,Zv _ _,?_,?_⟩
             ·rw[hfs,putG,hfg];simp[asG]
             ·exact Yq _ _
           | some p =>
             obtain⟨q,n3⟩:=p
             rw[hfg,Option.map_some]at f3
             simp (disch:=omega) [go_sem,psV,f2,Q0,f3,c2,c3,hq,hq',pcs,show j<l.length by omega,show (0:Int)<(j:Int)+1 by omega]
             refine⟨j+1+1,⟨by omega,hnext hT2⟩,by omega,by simp,Zv _ _,?_,?_⟩
             ·rw[hfs,putG,hfg];simp[asG,List.map_set]
             ·exact Yq _ _
       ·have hF:Xw m l k=false:=by rw[hoe];simp[c1,<- hv2,c2]
        have c2':(n2 != 0)=true:=by simpa using c2
        simp (disch:=omega) [go_sem,c2,c2',f2,hfalse hF,topo_Loops.r,K2]
    ·have hF:Xw m l k=false:=by rw[hoe];simp[c1]
     have c1':(m.use e != 1)=true:=by simpa using c1
     simp (disch:=omega) [go_sem,c1,c1',hfalse hF,topo_Loops.r,K2]
     done
 cases hsi:m.simple m.border
 ·have he:m.loops=([],13):=by simp[Mesh.loops,hz,hsi]
  rw[he]
  rw[hsi]at hmain
  exact CallIs.res (PureC.is hmain rfl) (lsV_no _)
 ·have he:m.loops=(Jz m.border,0):=by simp[Mesh.loops,hz,hsi]
  rw[he]
  rw[hsi]at hmain
  exact PureC.is hmain rfl
end
end Go.Abs
set_option linter.unusedVariables false
set_option linter.unusedSimpArgs false
namespace Go.Abs
def Cyc (nx:Int->Int) (w:List Int):Prop:=w≠[]/\∀(i:Nat) (v u:Int),w[i]?=some v->w[(i+1) % w.length]?=some u->nx v=u
structure Perm1 (nx:Int->Int) (A:List Int):Prop where
 mem:∀v∈A,nx v∈A
 inj:∀v∈A,∀u∈A,nx v=nx u->v=u
def PathTo (nx:Int->Int) (v0:Int) (w:List Int) (v:Int):Prop :=
 (w=[]/\v=v0)∨(w[0]?=some v0/\(∀(i:Nat) (a b:Int),w[i]?=some a->w[i+1]?=some b->nx a=b)/\∃z,w[w.length-1]?=some z/\nx z=v)
theorem PathTo.snoc {nx:Int->Int} {v0 v:Int} {w:List Int} (h:PathTo nx v0 w v):PathTo nx v0 (w++[v]) (nx v):=by
 right
 rcases h with⟨rfl,rfl⟩ | ⟨h1,h2,z,h3,h4⟩
 ·refine⟨rfl,λi a b ha hb=>?_,v,rfl,rfl⟩
  simp at hb
 ·have hne:0<w.length:=(List.getElem?_eq_some_iff.1 h1).1
  refine⟨by rw[List.getElem?_append_left hne];exact h1,λi a b ha hb=>?_,v,by simp,rfl⟩
  by_cases hi:i+1<w.length
  ·rw[List.getElem?_append_left (by omega)]at ha
   rw[List.getElem?_append_left hi]at hb
   exact h2 i a b ha hb
  ·have hlt:=(List.getElem?_eq_some_iff.1 hb).1
   simp at hlt
   have hi2:i=w.length-1:=by omega
   rw[List.getElem?_append_left (by omega),hi2,h3]at ha
   rw[List.getElem?_append_right (by omega),show i+1-w.length=0 by omega]at hb
   simp at ha hb
   subst ha;subst hb;exact h4
structure Walk (nx:Int->Int) (A done w:List Int):Prop where
 cyc:Cyc nx w
 nodup:(done++w).Nodup
 sub:∀v∈w,v∈A
 clo:∀v∈A,(v∈done++w↔nx v∈done++w)
theorem nodup_idx {l:List Int} (hn:l.Nodup) {i j:Nat} {a:Int} (hi:l[i]?=some a) (hj:l[j]?=some a):i=j:=by
 obtain⟨h1,h2⟩:=List.getElem?_eq_some_iff.1 hi
 obtain⟨h3,h4⟩:=List.getElem?_eq_some_iff.1 hj
 have e1:=hn.idxOf_getElem i h1
 have e2:=hn.idxOf_getElem j h3
 rw[h2]at e1;rw[h4]at e2
 omega
theorem walkW_ok {nx:Int->Int} {A done:List Int} (hP:Perm1 nx A) (hclo:∀v∈A,(v∈done↔nx v∈done)) {v0:Int} (h0:v0∉done) :
  ∀(fu:Nat) (w:List Int) (v:Int),v∈A->PathTo nx v0 w v->(done++w).Nodup->(∀u∈w,u∈A)->todo A (done++w)<fu->Walk nx A done (Kd nx done fu w v)
 | 0,w,v,_,_,_,_,h=>by omega
 | fu+1,w,v,hv,hp,hn,hs,ht=>by
   unfold Kd
   by_cases hvd:v∈done++w
   ·rw[if_pos hvd]
    rcases hp with⟨rfl,rfl⟩ | ⟨h1,h2,z,h3,h4⟩
    ·rw[List.append_nil]at hvd;exact absurd hvd h0
    have hnd:=List.nodup_append.1 hn
    have hwn:w.Nodup:=hnd.2.1
    have hz:z∈w:=List.mem_of_getElem? h3
    have hzA:=hs z hz
    have hzd:z∉done:=λh=>hnd.2.2 z h z hz rfl
    have hvn:v∉done:=λh=>hzd ((hclo z hzA).2 (by rw[h4];exact h))
    have hvw:v∈w:=by
     rcases List.mem_append.1 hvd with h | h
     ·exact absurd h hvn
     ·exact h
    have hv0:v=v0:=by
     obtain⟨j,hj⟩:=List.getElem?_of_mem hvw
     have hjl:=(List.getElem?_eq_some_iff.1 hj).1
     cases j with
     | zero=>rw[h1]at hj;exact(Option.some.inj hj).symm
     | succ j =>
       have hq:w[j]?=some w[j]:=List.getElem?_eq_getElem (by omega)
       have:=h2 j _ _ hq hj
       have he:=hP.inj w[j] (hs w[j] (List.getElem_mem (by omega))) z hzA (by rw[this,h4])
       rw[he]at hq
       have:=nodup_idx hwn hq h3
       omega
    have hne:0<w.length:=(List.getElem?_eq_some_iff.1 h1).1
    have hcyc:Cyc nx w:=by
     refine⟨by rintro rfl;simp at hne,λi a b ha hb=>?_⟩
     have hi:=(List.getElem?_eq_some_iff.1 ha).1
     by_cases hl:i+1<w.length
     ·rw[Nat.mod_eq_of_lt hl]at hb
      exact h2 i a b ha hb
     ·have hi2:i=w.length-1:=by omega
      rw[show i+1=w.length by omega,Nat.mod_self,h1]at hb
      rw[hi2,h3]at ha
      obtain rfl:=Option.some.inj ha
      obtain rfl:=Option.some.inj hb
      rw[h4,hv0]
    refine⟨hcyc,hn,hs,λu hu=>?_⟩
    rw[List.mem_append,List.mem_append]
    constructor
    ·rintro (h | h)
     ·exact .inl ((hclo u hu).1 h)
     ·right
      obtain⟨i,hi⟩:=List.getElem?_of_mem h
      have hil:=(List.getElem?_eq_some_iff.1 hi).1
      have hm:(i+1) % w.length<w.length:=Nat.mod_lt _ hne
      rw[hcyc.2 i u _ hi (List.getElem?_eq_getElem hm)]
      exact List.getElem_mem _
    ·rintro (h | h)
     ·exact .inl ((hclo u hu).2 h)
     ·right
      obtain⟨j,hj⟩:=List.getElem?_of_mem h
      cases j with
      | zero =>
        rw[h1]at hj
        have:nx u=nx z:=by rw[h4,hv0];exact(Option.some.inj hj).symm
        rw[hP.inj u hu z hzA this];exact hz
      | succ j =>
        have hjl:=(List.getElem?_eq_some_iff.1 hj).1
        have hq:w[j]?=some w[j]:=List.getElem?_eq_getElem (by omega)
        have:=h2 j _ _ hq hj
        rw[hP.inj u hu w[j] (hs w[j] (List.getElem_mem (by omega))) this.symm]
        exact List.getElem_mem _
   ·rw[if_neg hvd]
    refine walkW_ok hP hclo h0 fu (w++[v]) (nx v) (hP.mem v hv) hp.snoc ?_ (λu hu=>?_) ?_
    ·rw[<- List.append_assoc,List.nodup_append]
     exact⟨hn,by simp,λa ha b hb=>by simp at hb;subst hb;rintro rfl;exact hvd ha⟩
    ·rcases List.mem_append.1 hu with h | h
     ·exact hs u h
     ·simp at h;subst h;exact hv
    ·rw[<- List.append_assoc]
     have:=todo_lt hv hvd
     omega
structure LoopsOk (nx:Int->Int) (A:List Int) (s:List Int × List (List Int)):Prop where
 flat:s.2.flatten=s.1
 nodup:s.1.Nodup
 sub:∀v∈s.1,v∈A
 clo:∀v∈A,(v∈s.1↔nx v∈s.1)
 cyc:∀w∈s.2,Cyc nx w
theorem loopStep_ok {nx:Int->Int} {l:List P2} (hP:Perm1 nx (l.map P2.x)) {s:List Int × List (List Int)} (h:LoopsOk nx (l.map P2.x) s) {e:P2} (he:e∈l):LoopsOk nx (l.map P2.x) (Jj nx l.length s e)/\e.x∈(Jj nx l.length s e).1/\∀v∈s.1,v∈(Jj nx l.length s e).1:=by
 unfold Jj
 by_cases hd:e.x∈s.1
 ·rw[if_pos hd];exact⟨h,hd,λv hv=>hv⟩
 ·rw[if_neg hd]
  have hxA:e.x∈l.map P2.x:=List.mem_map.2 ⟨e,he,rfl⟩
  have htd:=todo_le (l.map P2.x) s.1
  rw[List.length_map]at htd
  have hw:=walkW_ok hP h.clo hd (l.length+1) [] e.x hxA (.inl ⟨rfl,rfl⟩) (by rw[List.append_nil];exact h.nodup) (by simp) (by rw[List.append_nil];omega)
  have hx:e.x∈Kd nx s.1 (l.length+1) [] e.x:=by
   have key:∀(fu:Nat) (w:List Int) (v u:Int),u∈w->u∈Kd nx s.1 fu w v:=by
    intro fu
    induction fu with
    | zero=>intro w v u hu;exact hu
    | succ fu ih =>
      intro w v u hu
      unfold Kd
      split
      ·exact hu
      ·exact ih _ _ _ (by simp[hu])
   unfold Kd
   rw[List.append_nil,if_neg hd]
   exact key _ _ _ _ (by simp)
  refine⟨⟨by simp[h.flat],hw.nodup,λv hv=>?_,hw.clo,λw hw'=>?_⟩,by simp[hx],λv hv=>by simp[hv]⟩
  ·rcases List.mem_append.1 hv with h1 | h1
   ·exact h.sub v h1
   ·exact hw.sub v h1
  ·rcases List.mem_append.1 hw' with h1 | h1
   ·exact h.cyc w h1
   ·simp at h1;subst h1;exact hw.cyc
theorem loopsK_ok {nx:Int->Int} {l:List P2} (hP:Perm1 nx (l.map P2.x)):∀k,k<=l.length->LoopsOk nx (l.map P2.x) (Qt nx l k)/\∀e∈l.take k,e.x∈(Qt nx l k).1
 | 0,_=>⟨⟨rfl,by simp[Qt],by simp[Qt],by simp[Qt],by simp[Qt]⟩,by simp⟩
 | k+1,hk=>by
   have hp:l[k]?=some l[k]:=List.getElem?_eq_getElem (by omega)
   obtain⟨h1,h2⟩:=loopsK_ok hP k (by omega)
   obtain⟨q1,q2,q3⟩:=loopStep_ok hP h1 (List.getElem_mem (l:=l) (n:=k) (by omega))
   rw[Uv nx hp]
   refine⟨q1,λe he=>?_⟩
   rw[Qd hp]at he
   rcases List.mem_append.1 he with h | h
   ·exact q3 _ (h2 e h)
   ·simp at h;subst h;exact q2
theorem nxt_perm {m:Mesh} (hz:m.check=0) (h:m.simple m.border=true):Perm1 (nxt m.border) (m.border.map P2.x) where
 mem v hv:=nxt_mem hz h hv
 inj v hv u hu he:=by
  rw[border_xy hz h]at hv hu
  obtain⟨a,ha,rfl⟩:=List.mem_map.1 hv
  obtain⟨b,hb,rfl⟩:=List.mem_map.1 hu
  have hy:=Bf hz h
  rw[nxt_of hy ha,nxt_of hy hb]at he
  have hx:=Ij h (X7 m)
  obtain⟨i,hi,rfl⟩:=List.mem_iff_getElem.1 ha
  obtain⟨j,hj,rfl⟩:=List.mem_iff_getElem.1 hb
  have e1:=hx.idxOf_getElem i (by simpa using hi)
  have e2:=hx.idxOf_getElem j (by simpa using hj)
  simp only[List.getElem_map]at e1 e2
  rw[he]at e1
  have:i=j:=by omega
  subst this;rfl
structure LoopsAre (m:Mesh) (ls:List (List Int)):Prop where
 cyc:∀w∈ls,Cyc (nxt m.border) w
 nodup:ls.flatten.Nodup
 mem:∀v,v∈ls.flatten↔v∈m.border.map P2.x
theorem loops_are {m:Mesh} (hz:m.check=0) (h:m.simple m.border=true):LoopsAre m (Jz m.border):=by
 obtain⟨h1,h2⟩:=loopsK_ok (nxt_perm hz h) m.border.length (Nat.le_refl _)
 rw[List.take_length]at h2
 refine⟨h1.cyc,by unfold Jz;rw[h1.flat];exact h1.nodup,λv=>?_⟩
 unfold Jz
 rw[h1.flat]
 constructor
 ·exact h1.sub v
 ·intro hv
  obtain⟨e,he,rfl⟩:=List.mem_map.1 hv
  exact h2 e he
end Go.Abs
set_option linter.unusedVariables false
set_option linter.unusedSimpArgs false
namespace Go.Abs
theorem edgesL_len {m:Mesh}:m.edgesL.length<=12288:=by
 by_cases hz:m.check=0
 ·have hn:m.edgesL.Nodup:=by
   unfold Mesh.edgesL;rw[if_pos hz]
   exact(K9 _).imp λh1 h2=>by subst h2;exact P2.lt_irrefl _ h1
  have h1:=U1 (k:=(Q8 m.tris).map P2.und) hn (λa ha=>by unfold Mesh.edgesL at ha;rw[if_pos hz]at ha;exact mem_ascOf.1 ha)
  have hE:=Y1 m.tris m.tris.length
  rw[List.take_length]at hE
  rw[List.length_map]at h1
  have:=(Mesh.check_zero.1 hz).2.1
  omega
 ·simp[Mesh.edgesL,hz]
end Go.Abs
