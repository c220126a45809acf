/- Part of the library on which the proof stands: an abstract machine, its values and its soundness against the model; or what functions of the program do to such values. -/
import Derived.Test.YtcdjgldeiaiaoaaGreatGoSet
set_option linter.unusedVariables false
set_option linter.unusedSimpArgs false
set_option maxHeartbeats 8000000
set_option maxRecDepth 20000
namespace Go.Abs
def Yt (l:List P2) (k:Nat):List (Int × Int):=(l.take k).foldl (λM e=>Q0f e.y e.x M) []
theorem Q2z {l:List P2} {k:Nat} {e:P2} (h:l[k]?=some e):Yt l (k+1)=Q0f e.y e.x (Yt l k):=by unfold Yt;rw[Qj h,List.foldl_append];rfl
theorem ynd_inj {l:List P2} (hy:(l.map P2.y).Nodup) {a b:P2} (ha:a∈l) (hb:b∈l) (h:a.y=b.y):a=b:=by
 obtain⟨i,hi,rfl⟩:=List.mem_iff_getElem.1 ha
 obtain⟨j,hj,rfl⟩:=List.mem_iff_getElem.1 hb
 have e1:(l.map P2.y).idxOf l[i].y=i:=by
  have:=hy.idxOf_getElem i (by simpa using hi)
  simpa using this
 have e2:(l.map P2.y).idxOf l[j].y=j:=by
  have:=hy.idxOf_getElem j (by simpa using hj)
  simpa using this
 rw[h]at e1
 have:i=j:=by omega
 subst this;rfl
theorem Q4u {l:List P2} (hy:(l.map P2.y).Nodup):∀(k:Nat),k<=l.length->∀e∈l.take k,(Zb e.y (Yt l k)).map Prod.snd=some e.x
 | 0,_,e,he=>by simp at he
 | k+1,hk,e,he=>by
   have hp:l[k]?=some l[k]:=q9 (by omega)
   rw[Qj hp]at he
   rw[Q2z hp,Qjc]
   by_cases h:e.y=l[k].y
   ·rw[if_pos h]
    have hel:e∈l:=by
     rcases qg.1 he with h1 | h1
     ·exact jg h1
     ·simp at h1;subst h1;exact List.getElem_mem _
    rw[ynd_inj hy hel (List.getElem_mem _) h]
   ·rw[if_neg h]
    rcases qg.1 he with h1 | h1
    ·exact Q4u hy k (by omega) e h1
    ·simp at h1;subst h1;exact absurd rfl h
theorem Qj2 {m:Mesh} (hz:m.check=0) (h:m.simple m.border=true) {v:Int} (hv:v∈m.border.map P2.x):∃i:Nat,Zb v (Yt m.border m.border.length)=some (i,nxt m.border v):=by
 rw[Bq hz h]at hv
 obtain⟨e,he,rfl⟩:=qp.1 hv
 have hy:=Ef hz h
 have h1:=Q4u hy m.border.length (Nat.le_refl _) e (by rw[qi];exact he)
 rw[Q64 hy he]
 cases hf:Zb e.y (Yt m.border m.border.length) with
 | none=>rw[hf]at h1;simp at h1
 | some p =>
   rw[hf]at h1
   simp only[Option.map_some,Option.some.injEq]at h1
   exact⟨p.1,by rw[<- h1]⟩
theorem Ye (L:List (Int × Int)) (n:Nat):∀(a b:V) (x y:Int),(x,y)∈L->asG (V.i .i64) (V.i .i64) (x,y)=(a,b)->a.cl n=true/\b.cl n=true:=by
 rintro a b x y _ h
 simp only[asG,Prod.mk.injEq]at h
 obtain⟨rfl,rfl⟩:=h
 exact⟨rfl,rfl⟩
theorem Qjt {m:Mesh} {e:P2} (h:e∈m.border):∃i:Nat,fnd e (Qt m)=some (i,m.use e):=by
 obtain⟨hz,he,_⟩:=mem_border.1 h
 obtain⟨i,hi⟩:=Q4k hz he
 exact⟨i,Je (Em m) hi⟩
section
variable {P:Program} (hm:P.follows .mixedOrders=true)
include hm
theorem Q3r {f fc fn fb fr:FuncId} (hf:Qb P f (L1b.c fc fn fb fr) L1b.r L1b.n) (hc:Y3 P fc) (hn:Iu P fn) (hb:U5 P fb) (hr:RevC P fr):Qc9 P f:=by
 intro m
 by_cases hz:m.check=0
 case neg =>
  have he:m.loops=([],m.check):=by simp[Mesh.loops,hz]
  rw[he]
  refine CallIs.res (r:=.t [.nil,.i .i64 m.check]) ?_ (Qic _)
  refine PureC.is (Q9 hm hf (qh rfl) ?_) rfl
  unfold L1b.c
  simp[go_sem,Mesh.enc,Mesh.cs]
  refine Q6 (hc m) ?_
  simp[go_sem,hz,L1b.r]
 have hbl:=Eg m
 have hLl:=Q1j m
 have hmain:PureC P f [m.enc] (·=if m.simple m.border=true then V.t [lsV (Xu m.border),.i .i64 0] else .t [.nil,.i .i64 13]):=by
  refine Q85 hm hf (qh rfl) ?_
  have hrange:∀e∈m.border,0<=e.x/\e.x<m.verts.length:=λe he=>⟨(Ik he).1,(Ik he).2.1⟩
  have hnm:∀v,m.simple m.border=true->v∈m.border.map P2.x->nxt m.border v∈m.border.map P2.x:=λv hsi=>Qcz hz hsi
  have hfx:∀v,m.simple m.border=true->v∈m.border.map P2.x->∃i:Nat,Zb v (Yt m.border m.border.length)=some (i,nxt m.border v):=λv hsi=>Qj2 hz hsi
  have hfu:∀e∈m.border,∃i:Nat,fnd e (Qt m)=some (i,m.use e):=λe he=>Qjt he
  have hvu:∀e,val e (Qt m)=m.use e:=Q1b m
  unfold L1b.c
  simp[go_sem,Mesh.enc,Mesh.cs]
  refine Q6 (hc m) ?_
  simp[go_sem,hz]
  refine K7 (hn m) rfl ?_
  simp only[List.map_cons,List.map_nil,Qhk]
  simp[go_sem]
  refine Q6 (hb m) ?_
  generalize m.border=l at *
  generalize hT:Qt m=T at *
  simp[go_sem,psV]
  refine Ql (α:=Nat) (λk=>k<=l.length/\∀i,i<k->Kz m l i=true)
   (λk=>⟨[(5,.mp 2),(6,psV l),(7,.mp 3),(26,psV l),(27,.i .i64 l.length),(28,.i .i64 k)],[.dead,.dead,.mp (T.map asV),.mp ((Yt l k).map (asG (V.i .i64) (V.i .i64)))]⟩)
   (λk=>l.length-k) 0 ⟨Nat.zero_le _,by simp⟩ ?_ ?_
  ·simp[go_sem,psV,Yt]
   exact Zi _ 4
  ·rintro k ⟨hk,hok⟩
   by_cases hkl:k=l.length
   ·subst hkl
    have hsi:m.simple l=true:=qj.2 λi hi=>hok i (qz.1 hi)
    rw[if_pos hsi]
    replace hnm:=λv=>hnm v hsi
    replace hfx:=λv=>hfx v hsi
    unfold Xu
    simp[go_sem,psV]
    have hxr:∀v,v∈l.map P2.x->nxt l v∈l.map P2.x:=hnm
    refine Zv [.t 10 1] (α:=Nat × List O × List (List V)) (λp=>p.1<=l.length/\Held 6 p.2.1 (Zh (nxt l) l p.1).2 p.2.2/\Flt p.2.1/\(Zh (nxt l) l p.1).2.length<=p.1)
     (λp=>⟨[(7,.mp 3),(10,.own 5 ((Zh (nxt l) l p.1).2.length+1) 0 (Zh (nxt l) l p.1).2.length),(11,.mp 4),(66,psV l),(67,.i .i64 l.length),(68,.i .i64 p.1)],
      .dead::.dead::.dead::.mp ((Yt l l.length).map (asG (V.i .i64) (V.i .i64)))::.mp ((Zh (nxt l) l p.1).1.map (kt (V.i .i64)))::.arr ((Zh (nxt l) l p.1).2.length+1) 1 p.2.2::p.2.1⟩)
     (λp=>l.length-p.1) (0,[],[]) ⟨Nat.zero_le _,Held.nil 6,by simp[Flt],by simp[Zh]⟩ ?_ ?_
    ·simp[go_sem,psV,Zh]
     exact Ye _ _
    ·rintro⟨k,hx,cells⟩ ⟨hk,hH,hF,hkl⟩
     simp only at hk hH hF hkl ⊢
     by_cases hkl:k=l.length
     ·subst hkl
      have hfz:=Qd9 (base:=[.dead,.dead,.dead,.mp ((Yt l l.length).map (asG (V.i .i64) (V.i .i64))),.mp ((Zh (nxt l) l l.length).1.map (kt (V.i .i64))),.arr ((Zh (nxt l) l l.length).2.length+1) 1 cells]) hH rfl
      simp only[List.cons_append,List.nil_append]at hfz
      generalize Zh (nxt l) l l.length=D at *
      simp[go_sem,psV,L1b.r,Kn]
      rw[hfz];rfl
     ·have hlt:k<l.length:=by omega
      have hp:l[k]?=some l[k]:=q9 hlt
      have hmem:l[k]∈l:=List.getElem_mem _
      have hst:=Q06 (nxt l) hp
      generalize l[k]=e at hp hst hmem
      obtain⟨_,hp'⟩:=q8.1 hp
      generalize Zh (nxt l) l k=D at *
      obtain⟨done,ls⟩:=D
      simp only at *
      unfold Jb at hst
      simp only at hst
      have f1:Qh [1] (V.i .i64 e.x) (done.map (kt (V.i .i64)))=_:=U2 Q0y e.x done
      by_cases hd:e.x∈done
      ·rw[if_pos hd]at hst f1
       simp (disch:=omega) [go_sem,psV,hlt,hp,hp',pcs,f1,Q3,Qd,Qf]
       exact⟨k+1,hx,cells,⟨by omega,by rw[hst];exact hH,hF,by rw[hst];simp only;omega⟩,by omega,by omega,⟨by rw[hst],by simp⟩,Ye _ _,⟨by rw[hst],λa _=>⟨rfl,rfl⟩⟩,⟨⟨by rw[hst],rfl⟩,hH.cl (by omega)⟩,hF.WeakH _⟩
      ·rw[if_neg hd]at hst f1
       simp (disch:=omega) [go_sem,psV,hlt,hp,hp',pcs,f1,Q3,Qd,Qf]
       have hxA:e.x∈l.map P2.x:=qp.2 ⟨e,hmem,rfl⟩
       have htd:=Qck (l.map P2.x) done
       rw[List.length_map]at htd
       generalize hR:Ko (nxt l) done (l.length+1) [] e.x=R at hst
       refine Zv [.t 14 1] (α:=Nat × List Int × Int) (λq=>q.2.2∈l.map P2.x/\Qdu (l.map P2.x) (done++q.2.1)<q.1/\Ko (nxt l) done q.1 q.2.1 q.2.2=R/\q.2.1.length+q.1<=l.length+1)
        (λq=>⟨[(7,.mp 3),(10,.own 5 (ls.length+1) 0 ls.length),(11,.mp 4),(14,.own (hx.length+7) (q.2.1.length+1) 0 q.2.1.length),(15,.i .i64 q.2.2),(66,psV l),(67,.i .i64 l.length),(68,.i .i64 k)],
         .dead::.dead::.dead::.mp ((Yt l l.length).map (asG (V.i .i64) (V.i .i64)))::.mp ((done++q.2.1).map (kt (V.i .i64)))::.arr (ls.length+1) 1 cells::(hx++[.dead,.arr (q.2.1.length+1) 1 (ics q.2.1)])⟩)
        (λq=>q.1) (l.length+1,[],e.x) ⟨hxA,by simp only[List.append_nil];omega,hR,by simp⟩ ?_ ?_
       ·simp[go_sem,psV,ics]
        exact⟨Ye _ _,λa _=>⟨rfl,rfl⟩,hH.cl (by omega),Zc (λo ho=>hF o ho _) (by simp[go_sem])⟩
       ·rintro⟨fu,w,v⟩ ⟨q1,q2,q3,q4⟩
        simp only at q1 q2 q3 q4 ⊢
        have f2:Qh [1] (V.i .i64 v) ((done++w).map (kt (V.i .i64)))=_:=U2 Q0y v (done++w)
        cases fu with
        | zero=>omega
        | succ fu =>
          unfold Ko at q3
          by_cases hvd:v∈done++w
          ·rw[if_pos hvd]at q3 f2
           subst q3
           have htc:List.take ls.length cells=cells:=qe (by rw[hH.1];exact Nat.le_refl _)
           have e4:hx.length+7=6+(hx.length+1):=by omega
           have hHs:Held 6 (hx++[.dead,.arr (w.length+1) 1 (ics w)]) (ls++[w]) (cells++[[.own (hx.length+7) (w.length+1) 0 w.length]]):=by
            rw[e4]
            exact(hH.app _).snoc (by rw[Qd];rfl)
           have hFs:Flt (hx++[.dead,.arr (w.length+1) 1 (ics w)]):=hF.app λo ho n=>by
            simp at ho
            rcases ho with rfl | rfl
            ·trivial
            ·exact Jc w n
           generalize hdw:done++w=dw at *
           simp (disch:=omega) [go_sem,psV,f2,Q3,Qd,Qf,htc]
           refine⟨⟨by have:=hH.1;omega,by omega,by omega⟩,k+1,hx++[.dead,.arr (w.length+1) 1 (ics w)],_,⟨by omega,by rw[hst];exact hHs,hFs,by rw[hst];simp only[j3,List.length_cons,List.length_nil];omega⟩,by omega,by simp,⟨by rw[hst];simp,by simp⟩,Ye _ _,⟨by rw[hst],λa _=>⟨rfl,rfl⟩⟩,⟨⟨by rw[hst];simp,rfl⟩,hHs.cl (by simp;omega)⟩,?_⟩
           have:=hFs.WeakH (l:=[O.arr 1 1 [[V.own (hx.length+7) (w.length+1) 0 w.length]]]) ((hx++[O.dead,O.arr (w.length+1) 1 (ics w)]).length+1+1+1+1+1+1)
           rwa [j2]at this
          ·rw[if_neg hvd]at q3 f2
           have htl:=Qcj q1 hvd
           obtain⟨i4,hi4⟩:=hfx v q1
           have f4:Qh [1] (V.i .i64 v) ((Yt l l.length).map (asG (V.i .i64) (V.i .i64)))=_:=X3 Q0y (V.i .i64) v (Yt l l.length)
           rw[hi4,Option.map_some]at f4
           have hnv:=hnm v q1
           rw[qp]at hnv
           have htw:List.take w.length (ics w)=ics w:=qe (by simp[ics])
           have hdw2:done++(w++[v])=done++w++[v]:=(j2 _ _ _).symm
           have hics:ics (w++[v])=ics w++[[.i .i64 v]]:=by simp[ics]
           have hwl:(w++[v]).length=w.length+1:=by simp
           have hwi:w.length<=(ics w).length:=by simp[ics]
           generalize hdw:done++w=dw at *
           simp (disch:=omega) [go_sem,psV,f2,f4,Q3,Qd,Qf,htw,hwi]
           refine⟨⟨by omega,by omega⟩,fu,w++[v],nxt l v,⟨hnv,by rw[hdw2];omega,q3,by simp;omega⟩,by omega,⟨hwl.symm,rfl⟩,Ye _ _,⟨?_,?_⟩,hH.cl (by omega),?_⟩
           ·rw[<- hdw];simp[kt]
           ·rintro a b (⟨_,_,h⟩ | ⟨_,_,h⟩)<;>(simp only[kt,Prod.mk.injEq]at h;obtain⟨rfl,rfl⟩:=h;exact⟨rfl,rfl⟩)
           ·rw[hics,hwl]
            exact Zc (λo ho=>hF o ho _) ⟨.inl rfl,.inr ⟨rfl,by rw[<- hics];exact Jc _ _⟩,trivial⟩
   ·have hlt:k<l.length:=by omega
    have hp:l[k]?=some l[k]:=q9 hlt
    have hmem:l[k]∈l:=List.getElem_mem _
    have hfs:=Q2z hp
    generalize l[k]=e at hp hmem hfs
    obtain⟨_,hp'⟩:=q8.1 hp
    have hoe:Kz m l k=(decide (m.use e=1) && (decide (m.use e.rev=0) && !(decide (0<k) && decide (((l[k-1]?).getD ⟨0,0⟩).x=e.x)))):=by unfold Kz;rw[hp]
    have hfalse:Kz m l k=false->m.simple l=false:=Q5j hlt
    have hnext:Kz m l k=true->∀i,i<k+1->Kz m l i=true:=λh i hi=>by
     by_cases hik:i=k
     ·subst hik;exact h
     ·exact hok i (by omega)
    obtain⟨i1,hi1⟩:=hfu e hmem
    have f1:Qh [1,1] (V.a [V.i .i64 e.x,V.i .i64 e.y]) (T.map asV)=_:=Yu e T
    rw[hi1]at f1
    simp only[Option.map_some]at f1
    have f2:Qh [1,1] (V.a [V.i .i64 e.y,V.i .i64 e.x]) (T.map asV)=_:=Yu e.rev T
    have hv2:=hvu e.rev
    unfold val at hv2
    have f3:Qh [1] (V.i .i64 e.y) ((Yt l k).map (asG (V.i .i64) (V.i .i64)))=_:=X3 Q0y (V.i .i64) e.y (Yt l k)
    simp (disch:=omega) [go_sem,psV,hlt,hp,hp',pcs,f1]
    by_cases c1:m.use e=1
    ·simp (disch:=omega) [go_sem,c1]
     refine Qp (hr e) ?_
     simp only[P2.enc,P2.rev,pcs]
     cases hfn:fnd e.rev T with
     | none =>
       rw[hfn]at f2 hv2
       simp only[Option.map_none]at f2
       simp only at hv2
       have c2:m.use e.rev=0:=hv2.symm
       cases k with
       | zero =>
         have hT2:Kz m l 0=true:=by rw[hoe];simp[c1,c2]
         cases hfg:Zb e.y (Yt l 0) with
         | none =>
           rw[hfg,Option.map_none]at f3
           simp (disch:=omega) [go_sem,psV,f2,Q3,f3,c2]
           refine⟨1,⟨by omega,hnext hT2⟩,by omega,by simp,Zi _ _,?_,?_⟩
           ·rw[hfs,Q0f,hfg];simp[asG]
           ·exact Ye _ _
         | some p =>
           obtain⟨q,n3⟩:=p
           rw[hfg,Option.map_some]at f3
           simp (disch:=omega) [go_sem,psV,f2,Q3,f3,c2]
           refine⟨1,⟨by omega,hnext hT2⟩,by omega,by simp,Zi _ _,?_,?_⟩
           ·rw[hfs,Q0f,hfg];simp[asG,List.map_set]
           ·exact Ye _ _
       | succ j =>
         have hq:l[j]?=some l[j]:=q9 (by omega)
         rw[Nat.add_sub_cancel,hq]at hoe
         simp only[Option.getD_some]at hoe
         generalize l[j]=d at hq hoe
         obtain⟨_,hq'⟩:=q8.1 hq
         by_cases c3:d.x=e.x
         ·have hF:Kz m l (j+1)=false:=by rw[hoe];simp[c1,c2,c3]
          simp (disch:=omega) [go_sem,c2,c3,f2,psV,Q3,hq,hq',pcs,show j<l.length by omega,hfalse hF,L1b.r,Kn,show (0:Int)<(j:Int)+1 by omega]
         ·have hT2:Kz m l (j+1)=true:=by rw[hoe];simp[c1,c2,c3]
          cases hfg:Zb e.y (Yt l (j+1)) with
          | none =>
            rw[hfg,Option.map_none]at f3
            simp (disch:=omega) [go_sem,psV,f2,Q3,f3,c2,c3,hq,hq',pcs,show j<l.length by omega,show (0:Int)<(j:Int)+1 by omega]
            refine⟨j+1+1,⟨by omega,hnext hT2⟩,by omega,by simp,Zi _ _,?_,?_⟩
            ·rw[hfs,Q0f,hfg];simp[asG]
            ·exact Ye _ _
          | some p =>
            obtain⟨q,n3⟩:=p
            rw[hfg,Option.map_some]at f3
            simp (disch:=omega) [go_sem,psV,f2,Q3,f3,c2,c3,hq,hq',pcs,show j<l.length by omega,show (0:Int)<(j:Int)+1 by omega]
            refine⟨j+1+1,⟨by omega,hnext hT2⟩,by omega,by simp,Zi _ _,?_,?_⟩
            ·rw[hfs,Q0f,hfg];simp[asG,List.map_set]
            ·exact Ye _ _
     | some p =>
       obtain⟨jj,n2⟩:=p
       rw[hfn]at f2 hv2
       simp only[Option.map_some]at f2
       simp only at hv2
       by_cases c2:n2=0
       ·subst c2
        have c2:m.use e.rev=0:=hv2.symm
        cases k with
        | zero =>
          have hT2:Kz m l 0=true:=by rw[hoe];simp[c1,c2]
          cases hfg:Zb e.y (Yt l 0) with
          | none =>
            rw[hfg,Option.map_none]at f3
            simp (disch:=omega) [go_sem,psV,f2,Q3,f3,c2]
            refine⟨1,⟨by omega,hnext hT2⟩,by omega,by simp,Zi _ _,?_,?_⟩
            ·rw[hfs,Q0f,hfg];simp[asG]
            ·exact Ye _ _
          | some p =>
            obtain⟨q,n3⟩:=p
            rw[hfg,Option.map_some]at f3
            simp (disch:=omega) [go_sem,psV,f2,Q3,f3,c2]
            refine⟨1,⟨by omega,hnext hT2⟩,by omega,by simp,Zi _ _,?_,?_⟩
            ·rw[hfs,Q0f,hfg];simp[asG,List.map_set]
            ·exact Ye _ _
        | succ j =>
          have hq:l[j]?=some l[j]:=q9 (by omega)
          rw[Nat.add_sub_cancel,hq]at hoe
          simp only[Option.getD_some]at hoe
          generalize l[j]=d at hq hoe
          obtain⟨_,hq'⟩:=q8.1 hq
          by_cases c3:d.x=e.x
          ·have hF:Kz m l (j+1)=false:=by rw[hoe];simp[c1,c2,c3]
           simp (disch:=omega) [go_sem,c2,c3,f2,psV,Q3,hq,hq',pcs,show j<l.length by omega,hfalse hF,L1b.r,Kn,show (0:Int)<(j:Int)+1 by omega]
          ·have hT2:Kz m l (j+1)=true:=by rw[hoe];simp[c1,c2,c3]
           cases hfg:Zb e.y (Yt l (j+1)) with
           | none =>
             rw[hfg,Option.map_none]at f3
             simp (disch:=omega) [go_sem,psV,f2,Q3,f3,c2,c3,hq,hq',pcs,show j<l.length by omega,show (0:Int)<(j:Int)+1 by omega]
             refine⟨j+1+1,⟨by omega,hnext hT2⟩,by omega,by simp,Zi _ _,?_,?_⟩
             ·rw[hfs,Q0f,hfg];simp[asG]
             ·exact Ye _ _
           | some p =>
             obtain⟨q,n3⟩:=p
             rw[hfg,Option.map_some]at f3
             simp (disch:=omega) [go_sem,psV,f2,Q3,f3,c2,c3,hq,hq',pcs,show j<l.length by omega,show (0:Int)<(j:Int)+1 by omega]
             refine⟨j+1+1,⟨by omega,hnext hT2⟩,by omega,by simp,Zi _ _,?_,?_⟩
             ·rw[hfs,Q0f,hfg];simp[asG,List.map_set]
             ·exact Ye _ _
       ·have hF:Kz m l k=false:=by rw[hoe];simp[c1,<- hv2,c2]
        have c2':(n2 != 0)=true:=by simpa using c2
        simp (disch:=omega) [go_sem,c2,c2',f2,hfalse hF,L1b.r,Kn]
    ·have hF:Kz m l k=false:=by rw[hoe];simp[c1]
     have c1':(m.use e != 1)=true:=by simpa using c1
     simp (disch:=omega) [go_sem,c1,c1',hfalse hF,L1b.r,Kn]
     done
 cases hsi:m.simple m.border
 ·have he:m.loops=([],13):=by simp[Mesh.loops,hz,hsi]
  rw[he]
  rw[hsi]at hmain
  exact CallIs.res (PureC.is hmain rfl) (Qic _)
 ·have he:m.loops=(Xu m.border,0):=by simp[Mesh.loops,hz,hsi]
  rw[he]
  rw[hsi]at hmain
  exact PureC.is hmain rfl
end
def Cyc (nx:Int->Int) (w:List Int):Prop:=w≠[]/\∀(i:Nat) (v u:Int),w[i]?=some v->w[(i+1) % w.length]?=some u->nx v=u
structure Perm1 (nx:Int->Int) (A:List Int):Prop where
 mem:∀v∈A,nx v∈A
 inj:∀v∈A,∀u∈A,nx v=nx u->v=u
def PathTo (nx:Int->Int) (v0:Int) (w:List Int) (v:Int):Prop :=
 (w=[]/\v=v0)∨(w[0]?=some v0/\(∀(i:Nat) (a b:Int),w[i]?=some a->w[i+1]?=some b->nx a=b)/\∃z,w[w.length-1]?=some z/\nx z=v)
theorem PathTo.snoc {nx:Int->Int} {v0 v:Int} {w:List Int} (h:PathTo nx v0 w v):PathTo nx v0 (w++[v]) (nx v):=by
 right
 rcases h with⟨rfl,rfl⟩ | ⟨h1,h2,z,h3,h4⟩
 ·refine⟨rfl,λi a b ha hb=>?_,v,rfl,rfl⟩
  simp at hb
 ·have hne:0<w.length:=(q8.1 h1).1
  refine⟨by rw[qd hne];exact h1,λi a b ha hb=>?_,v,by simp,rfl⟩
  by_cases hi:i+1<w.length
  ·rw[qd (by omega)]at ha
   rw[qd hi]at hb
   exact h2 i a b ha hb
  ·have hlt:=(q8.1 hb).1
   simp at hlt
   have hi2:i=w.length-1:=by omega
   rw[qd (by omega),hi2,h3]at ha
   rw[qf (by omega),show i+1-w.length=0 by omega]at hb
   simp at ha hb
   subst ha;subst hb;exact h4
structure Walk (nx:Int->Int) (A done w:List Int):Prop where
 cyc:Cyc nx w
 nodup:(done++w).Nodup
 sub:∀v∈w,v∈A
 clo:∀v∈A,(v∈done++w↔nx v∈done++w)
theorem Qeq {l:List Int} (hn:l.Nodup) {i j:Nat} {a:Int} (hi:l[i]?=some a) (hj:l[j]?=some a):i=j:=by
 obtain⟨h1,h2⟩:=q8.1 hi
 obtain⟨h3,h4⟩:=q8.1 hj
 have e1:=hn.idxOf_getElem i h1
 have e2:=hn.idxOf_getElem j h3
 rw[h2]at e1;rw[h4]at e2
 omega
theorem Q7n {nx:Int->Int} {A done:List Int} (hP:Perm1 nx A) (hclo:∀v∈A,(v∈done↔nx v∈done)) {v0:Int} (h0:v0∉done) :
  ∀(fu:Nat) (w:List Int) (v:Int),v∈A->PathTo nx v0 w v->(done++w).Nodup->(∀u∈w,u∈A)->Qdu A (done++w)<fu->Walk nx A done (Ko nx done fu w v)
 | 0,w,v,_,_,_,_,h=>by omega
 | fu+1,w,v,hv,hp,hn,hs,ht=>by
   unfold Ko
   by_cases hvd:v∈done++w
   ·rw[if_pos hvd]
    rcases hp with⟨rfl,rfl⟩ | ⟨h1,h2,z,h3,h4⟩
    ·rw[List.append_nil]at hvd;exact absurd hvd h0
    have hnd:=List.nodup_append.1 hn
    have hwn:w.Nodup:=hnd.2.1
    have hz:z∈w:=qb h3
    have hzA:=hs z hz
    have hzd:z∉done:=λh=>hnd.2.2 z h z hz rfl
    have hvn:v∉done:=λh=>hzd ((hclo z hzA).2 (by rw[h4];exact h))
    have hvw:v∈w:=by
     rcases qg.1 hvd with h | h
     ·exact absurd h hvn
     ·exact h
    have hv0:v=v0:=by
     obtain⟨j,hj⟩:=qr hvw
     have hjl:=(q8.1 hj).1
     cases j with
     | zero=>rw[h1]at hj;exact(Option.some.inj hj).symm
     | succ j =>
       have hq:w[j]?=some w[j]:=q9 (by omega)
       have:=h2 j _ _ hq hj
       have he:=hP.inj w[j] (hs w[j] (List.getElem_mem (by omega))) z hzA (by rw[this,h4])
       rw[he]at hq
       have:=Qeq hwn hq h3
       omega
    have hne:0<w.length:=(q8.1 h1).1
    have hcyc:Cyc nx w:=by
     refine⟨by rintro rfl;simp at hne,λi a b ha hb=>?_⟩
     have hi:=(q8.1 ha).1
     by_cases hl:i+1<w.length
     ·rw[Nat.mod_eq_of_lt hl]at hb
      exact h2 i a b ha hb
     ·have hi2:i=w.length-1:=by omega
      rw[show i+1=w.length by omega,Nat.mod_self,h1]at hb
      rw[hi2,h3]at ha
      obtain rfl:=Option.some.inj ha
      obtain rfl:=Option.some.inj hb
      rw[h4,hv0]
    refine⟨hcyc,hn,hs,λu hu=>?_⟩
    rw[qg,qg]
    constructor
    ·rintro (h | h)
     ·exact .inl ((hclo u hu).1 h)
     ·right
      obtain⟨i,hi⟩:=qr h
      have hil:=(q8.1 hi).1
      have hm:(i+1) % w.length<w.length:=Nat.mod_lt _ hne
      rw[hcyc.2 i u _ hi (q9 hm)]
      exact List.getElem_mem _
    ·rintro (h | h)
     ·exact .inl ((hclo u hu).2 h)
     ·right
      obtain⟨j,hj⟩:=qr h
      cases j with
      | zero =>
        rw[h1]at hj
        have:nx u=nx z:=by rw[h4,hv0];exact(Option.some.inj hj).symm
        rw[hP.inj u hu z hzA this];exact hz
      | succ j =>
        have hjl:=(q8.1 hj).1
        have hq:w[j]?=some w[j]:=q9 (by omega)
        have:=h2 j _ _ hq hj
        rw[hP.inj u hu w[j] (hs w[j] (List.getElem_mem (by omega))) this.symm]
        exact List.getElem_mem _
   ·rw[if_neg hvd]
    refine Q7n hP hclo h0 fu (w++[v]) (nx v) (hP.mem v hv) hp.snoc ?_ (λu hu=>?_) ?_
    ·rw[<- j2,List.nodup_append]
     exact⟨hn,by simp,λa ha b hb=>by simp at hb;subst hb;rintro rfl;exact hvd ha⟩
    ·rcases qg.1 hu with h | h
     ·exact hs u h
     ·simp at h;subst h;exact hv
    ·rw[<- j2]
     have:=Qcj hv hvd
     omega
structure LoopsOk (nx:Int->Int) (A:List Int) (s:List Int × List (List Int)):Prop where
 flat:s.2.flatten=s.1
 nodup:s.1.Nodup
 sub:∀v∈s.1,v∈A
 clo:∀v∈A,(v∈s.1↔nx v∈s.1)
 cyc:∀w∈s.2,Cyc nx w
theorem Q8g {nx:Int->Int} {l:List P2} (hP:Perm1 nx (l.map P2.x)) {s:List Int × List (List Int)} (h:LoopsOk nx (l.map P2.x) s) {e:P2} (he:e∈l):LoopsOk nx (l.map P2.x) (Jb nx l.length s e)/\e.x∈(Jb nx l.length s e).1/\∀v∈s.1,v∈(Jb nx l.length s e).1:=by
 unfold Jb
 by_cases hd:e.x∈s.1
 ·rw[if_pos hd];exact⟨h,hd,λv hv=>hv⟩
 ·rw[if_neg hd]
  have hxA:e.x∈l.map P2.x:=qp.2 ⟨e,he,rfl⟩
  have htd:=Qck (l.map P2.x) s.1
  rw[List.length_map]at htd
  have hw:=Q7n hP h.clo hd (l.length+1) [] e.x hxA (.inl ⟨rfl,rfl⟩) (by rw[List.append_nil];exact h.nodup) (by simp) (by rw[List.append_nil];omega)
  have hx:e.x∈Ko nx s.1 (l.length+1) [] e.x:=by
   have key:∀(fu:Nat) (w:List Int) (v u:Int),u∈w->u∈Ko nx s.1 fu w v:=by
    intro fu
    induction fu with
    | zero=>intro w v u hu;exact hu
    | succ fu ih =>
      intro w v u hu
      unfold Ko
      split
      ·exact hu
      ·exact ih _ _ _ (by simp[hu])
   unfold Ko
   rw[List.append_nil,if_neg hd]
   exact key _ _ _ _ (by simp)
  refine⟨⟨by simp[h.flat],hw.nodup,λv hv=>?_,hw.clo,λw hw'=>?_⟩,by simp[hx],λv hv=>by simp[hv]⟩
  ·rcases qg.1 hv with h1 | h1
   ·exact h.sub v h1
   ·exact hw.sub v h1
  ·rcases qg.1 hw' with h1 | h1
   ·exact h.cyc w h1
   ·simp at h1;subst h1;exact hw.cyc
theorem Q4r {nx:Int->Int} {l:List P2} (hP:Perm1 nx (l.map P2.x)):∀k,k<=l.length->LoopsOk nx (l.map P2.x) (Zh nx l k)/\∀e∈l.take k,e.x∈(Zh nx l k).1
 | 0,_=>⟨⟨rfl,by simp[Zh],by simp[Zh],by simp[Zh],by simp[Zh]⟩,by simp⟩
 | k+1,hk=>by
   have hp:l[k]?=some l[k]:=q9 (by omega)
   obtain⟨h1,h2⟩:=Q4r hP k (by omega)
   obtain⟨q1,q2,q3⟩:=Q8g hP h1 (List.getElem_mem (l:=l) (n:=k) (by omega))
   rw[Q06 nx hp]
   refine⟨q1,λe he=>?_⟩
   rw[Qj hp]at he
   rcases qg.1 he with h | h
   ·exact q3 _ (h2 e h)
   ·simp at h;subst h;exact q2
theorem Qi2 {m:Mesh} (hz:m.check=0) (h:m.simple m.border=true):Perm1 (nxt m.border) (m.border.map P2.x) where
 mem v hv:=Qcz hz h hv
 inj v hv u hu he:=by
  rw[Bq hz h]at hv hu
  obtain⟨a,ha,rfl⟩:=qp.1 hv
  obtain⟨b,hb,rfl⟩:=qp.1 hu
  have hy:=Ef hz h
  rw[Q64 hy ha,Q64 hy hb]at he
  have hx:=Ul h (Xj m)
  obtain⟨i,hi,rfl⟩:=List.mem_iff_getElem.1 ha
  obtain⟨j,hj,rfl⟩:=List.mem_iff_getElem.1 hb
  have e1:=hx.idxOf_getElem i (by simpa using hi)
  have e2:=hx.idxOf_getElem j (by simpa using hj)
  simp only[List.getElem_map]at e1 e2
  rw[he]at e1
  have:i=j:=by omega
  subst this;rfl
structure LoopsAre (m:Mesh) (ls:List (List Int)):Prop where
 cyc:∀w∈ls,Cyc (nxt m.border) w
 nodup:ls.flatten.Nodup
 mem:∀v,v∈ls.flatten↔v∈m.border.map P2.x
theorem Q4q {m:Mesh} (hz:m.check=0) (h:m.simple m.border=true):LoopsAre m (Xu m.border):=by
 obtain⟨h1,h2⟩:=Q4r (Qi2 hz h) m.border.length (Nat.le_refl _)
 rw[qi]at h2
 refine⟨h1.cyc,by unfold Xu;rw[h1.flat];exact h1.nodup,λv=>?_⟩
 unfold Xu
 rw[h1.flat]
 constructor
 ·exact h1.sub v
 ·intro hv
  obtain⟨e,he,rfl⟩:=qp.1 hv
  exact h2 e he
end Go.Abs
