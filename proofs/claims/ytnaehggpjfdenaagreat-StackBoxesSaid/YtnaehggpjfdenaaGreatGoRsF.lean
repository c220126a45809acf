/- Part of the library on which the proof stands: an abstract machine, its values and its soundness against the model; or what functions of the program do to such values. -/
import Derived.Test.YtnaehggpjfdenaaGreatGoMap
import Derived.Test.YtnaehggpjfdenaaGreatGoTpD
import Derived.Test.YtnaehggpjfdenaaGreatAbsSS
set_option linter.unusedVariables false
set_option linter.unusedSimpArgs false
set_option maxHeartbeats 8000000
set_option maxRecDepth 20000
namespace Go.Abs
structure PolyOk (ps:List (List P2)):Prop where
 num:ps.length<=4096
 cnt:(ps.flatMap Z7).length<=4096
 bd:EgB (ps.flatMap Z7) 65536
theorem Qbm (ps:List (List P2)) (p:List P2):((ps++[p]).flatMap Z7).length=(ps.flatMap Z7).length+p.length:=by
 rw[List.flatMap_append,j5]
 simp[K8]
theorem Qiw (ps:List (List P2)) (k:Nat):((ps.take k).flatMap Z7).length<=(ps.flatMap Z7).length:=by
 conv=>rhs;rw[<- List.take_append_drop k ps]
 rw[List.flatMap_append,j5]
 omega
theorem PolyOk.len {ps:List (List P2)} (h:PolyOk ps) {k:Nat} {p:List P2} (hp:ps[k]?=some p):((ps.take k).flatMap Z7).length+p.length<=4096:=by
 have h1:=Qiw ps (k+1)
 rw[Qc hp,Qbm]at h1
 have:=h.cnt
 omega
theorem PolyOk.pt {ps:List (List P2)} (h:PolyOk ps) {p:List P2} (hp:p∈ps) {v:P2} (hv:v∈p):(-65536<=v.x/\v.x<=65536)/\-65536<=v.y/\v.y<=65536:=by
 rw[<- Qhz p]at hv
 obtain⟨e,he,rfl⟩:=qq.1 hv
 obtain⟨a,b,_⟩:=h.bd e (jm.2 ⟨p,hp,he⟩)
 exact⟨a,b⟩
def Q9r (P:Program) (f:FuncId):Prop:=∀(ps:List (List P2)) (k:Int),PolyOk ps->CallIs P f [Qs ps,.i .i64 k] (.i .i64 (if Zf k 32 1024 then 0 else 1))
def Qps (P:Program) (f:FuncId):Prop:=∀a b:E5,E5B a->E5B b->CallIs P f [.a a.cs,.a b.cs] (.i .i64 (a.lo.y-b.lo.y))
def StB (s:Int × Int):Prop:=(-100000000000<=s.1/\s.1<=100000000000)/\-1<=s.2/\s.2<=1
def stC (s:Int × Int):List V:=[.i .i64 s.1,.i .i64 s.2]
def Qpr (P:Program) (f:FuncId):Prop:=∀a b:Int × Int,StB a->StB b->CallIs P f [.a (stC a),.a (stC b)] (.i .i64 (b.1-a.1))
section
variable {P:Program} (hm:P.follows .mixedOrders=true)
include hm
theorem Ic {f:FuncId} (hf:Q9 P f L0q.c L0q.r L0q.n):Qps P f:=by
 intro a b ha hb
 obtain⟨_,_,a1,a2,_,_,_,_,_,_,_⟩:=ha
 obtain⟨_,_,b1,b2,_,_,_,_,_,_,_⟩:=hb
 refine PureC.is (Q8 hm hf (qj rfl) ?_) rfl
 unfold L0q.c
 have w:=Q3 (z:=a.lo.y-b.lo.y) (by omega) (by omega)
 simp[go_sem,E5.cs,w,L0q.r]
theorem Q1h {f:FuncId} (hf:Q9 P f L0s.c L0s.r L0s.n):Qpr P f:=by
 intro a b ha hb
 obtain⟨⟨a1,a2⟩,_⟩:=ha
 obtain⟨⟨b1,b2⟩,_⟩:=hb
 refine PureC.is (Q8 hm hf (qj rfl) ?_) rfl
 unfold L0s.c
 have w:=Q3 (z:=b.1-a.1) (by omega) (by omega)
 simp[go_sem,stC,w,L0s.r]
theorem Q1k {f:FuncId} (hf:Q9 P f L0n.c L0n.r L0n.n):Q9r P f:=by
 intro ps k hps
 have hpl:=hps.num
 refine PureC.is (Q8 hm hf (qj rfl) ?_) rfl
 unfold L0n.c
 by_cases hlo:k<32
 ·have he:Zf k 32 1024=false:=by unfold Zf;simp[show ¬ 32<=k by omega]
  simp[go_sem,hlo,he,L0n.r]
 by_cases hhi:1024<k
 ·have he:Zf k 32 1024=false:=by unfold Zf;simp[show ¬ k<=1024 by omega]
  simp[go_sem,hlo,hhi,he,L0n.r]
 have ht:k.tmod 2=k % 2:=jn (by omega)
 by_cases hev:k % 2=0
 case neg =>
  have he:Zf k 32 1024=false:=by unfold Zf;simp[hev]
  have hb:(k.tmod 2 != 0)=true:=by rw[ht];simpa using hev
  have w:=Q3 (z:=k.tmod 2) (by omega) (by omega)
  rw[ht]at w hb
  simp[go_sem,hlo,hhi,ht,w,hb,hev,he,L0n.r]
  done
 have he:Zf k 32 1024=true:=by unfold Zf;simp[hev];omega
 simp[go_sem,hlo,hhi,ht,hev,he,Qs]
 obtain⟨tot,htot⟩:∃tot:Nat->Nat,∀i,tot i=((ps.take i).flatMap Z7).length:=⟨_,λ_=>rfl⟩
 have htot0:tot 0=0:=by rw[htot];rfl
 refine Qi (α:=Nat) (λi=>i<=ps.length)
  (λi=>⟨[(0,Qs ps),(5,.i .i64 (tot i)),(23,Qs ps),(24,.i .i64 ps.length),(25,.i .i64 i)],[]⟩)
  (λi=>ps.length-i) 0 (Nat.zero_le _) ?_ ?_
 ·simp[go_sem,Qs,htot0]
 ·intro i hi
  by_cases hil:i=ps.length
  case neg =>
   have hlt:i<ps.length:=by omega
   have hq:ps[i]?=some ps[i]:=qb hlt
   have hln:=hps.len hq
   have hft:=Qbm (ps.take i) ps[i]
   rw[<- Qc hq,<- htot,<- htot]at hft
   rw[<- htot]at hln
   generalize ps[i]=p at *
   obtain⟨_,hq'⟩:=qa.1 hq
   simp (disch:=omega) [go_sem,Qs,psV,hlt,hq,hq',Q3]
   exact⟨i+1,by omega,by omega,by omega,by omega⟩
  subst hil
  have hcnt:=hps.cnt
  have hN:=htot ps.length
  rw[qk]at hN
  rw[<- hN]at hcnt
  generalize tot ps.length=N at *
  simp[go_sem,Qs,show ¬ (16384:Int)<N by omega]
  refine Qi (α:=Nat) (λi=>i<=ps.length)
   (λi=>⟨[(37,Qs ps),(38,.i .i64 ps.length),(39,.i .i64 i)],[]⟩)
   (λi=>ps.length-i) 0 (Nat.zero_le _) ?_ ?_
  ·simp[go_sem,Qs]
  intro i hi
  by_cases hil:i=ps.length
  ·subst hil
   simp[go_sem,Qs,L0n.r]
  have hlt:i<ps.length:=by omega
  have hq:ps[i]?=some ps[i]:=qb hlt
  have hln:=hps.len hq
  have hpt:∀v∈ps[i],_:=λv hv=>hps.pt (qe hq) hv
  generalize ps[i]=p at *
  obtain⟨_,hq'⟩:=qa.1 hq
  simp (disch:=omega) [go_sem,Qs,psV,hlt,hq,hq',Q3]
  refine Qi (α:=Nat) (λj=>j<=p.length)
   (λj=>⟨[(37,Qs ps),(38,.i .i64 ps.length),(39,.i .i64 i),(44,.l 2 (p.map P2.cs)),(45,.i .i64 p.length),(46,.i .i64 j)],[]⟩)
   (λj=>p.length-j) 0 (Nat.zero_le _) ?_ ?_
  ·simp[go_sem,Qs,psV]
  intro j hj
  by_cases hjl:j=p.length
  ·subst hjl
   simp (disch:=omega) [go_sem,Qs,psV,Q3]
   exact⟨i+1,by omega,by omega,by omega⟩
  have hjt:j<p.length:=by omega
  have hv:p[j]?=some p[j]:=qb hjt
  have hvb:=hpt _ (qe hv)
  generalize p[j]=v at *
  obtain⟨_,hv'⟩:=qa.1 hv
  simp (disch:=omega) [go_sem,Qs,hjt,hv,hv',P2.cs,show ¬ v.x < -65536 by omega,show ¬ 65536<v.x by omega,show ¬ v.y < -65536 by omega,show ¬ 65536<v.y by omega,Q3]
  exact⟨j+1,by omega,by omega,by omega⟩
end
abbrev Qqd:={ e:E5 // E5B e }
instance:Inhabited Qqd:=⟨⟨⟨⟨0,0⟩,⟨0,1⟩,0⟩,by constructor<;>decide⟩⟩
def Q6v (a b:Qqd):Int:=a.1.lo.y-b.1.lo.y
theorem Qjd:Go.Sort.SWO (ltC Q6v) where
 irrefl x:=by unfold ltC Q6v;simp
 trans x y z:=by unfold ltC Q6v;simp only[decide_eq_true_eq];omega
 ntrans x y z:=by unfold ltC Q6v;simp only[decide_eq_false_iff_not];omega
theorem Qoj (l:List E5):∀e∈l,∀y∈e.cs,y.isD=true:=λe _ y hy=>by
 simp[E5.cs]at hy
 rcases hy with rfl | rfl | rfl | rfl | rfl<;>rfl
theorem Q48 (l:List E5) (n:Nat):∀e∈l,∀y∈e.cs,y.cl n=true:=λe he y hy=>K1 n (Qoj l e he y hy)
def K0 (es:List Eg):List E5:=es.filterMap El
theorem Qb6 (a b:List Eg):K0 (a++b)=K0 a++K0 b:=List.filterMap_append
theorem Qme (e:Eg):K0 [e]=(El e).toList:=by
 unfold K0
 rw[List.filterMap_cons]
 cases El e<;>rfl
theorem Iv (a:List Eg):(K0 a).length<=a.length:=List.length_filterMap_le _ _
def Q9l (P:Program) (f:FuncId):Prop:=∀ps:List (List P2),PolyOk ps->∃l:List E5,l.Perm (K0 (ps.flatMap Z7))/\l.Pairwise (λa b=>a.lo.y<=b.lo.y)/\CallIs P f [Qs ps] (e5V l)
section
variable {P:Program} (hm:P.follows .mixedOrders=true)
include hm
theorem Q1i {f fs fc:FuncId} (hf:Q9 P f (L0p.c fs fc) L0p.r L0p.n) (hs:Wt P fs 5) (hc:Qps P fc) (hcal:Qq P fc=true):Q9l P f:=by
 intro ps hps
 have hpl:=hps.num
 have hcnt:=hps.cnt
 have hLB:∀e∈K0 (ps.flatMap Z7),E5B e:=λe he=>Qdx hps.bd he
 have hLl:=Iv (ps.flatMap Z7)
 obtain⟨ys,hperm,hup,hcall⟩:=hs (λr:Qqd=>r.1.ints) (λ_=>rfl) Q6v Qjd fc hcal (λa b=>hc a.1 b.1 a.2 b.2) ((K0 (ps.flatMap Z7)).pmap Subtype.mk hLB) (by rw[List.length_pmap];omega)
 have hxs:((K0 (ps.flatMap Z7)).pmap Subtype.mk hLB).map Subtype.val=K0 (ps.flatMap Z7):=by rw[List.map_pmap];simp
 have hp2:=hperm.map Subtype.val
 rw[hxs]at hp2
 refine⟨ys.map Subtype.val,hp2,?_,?_⟩
 ·rw[jf]
  refine hup.imp λ{a b} h=>?_
  unfold ltC Q6v at h
  simp only[decide_eq_false_iff_not]at h
  omega
 have hyl:(ys.map Subtype.val).length=(K0 (ps.flatMap Z7)).length:=hp2.length_eq
 have hyy:ys.map (λx:Qqd=>x.1.ints.map (V.i .i64))=(ys.map Subtype.val).map E5.cs:=by rw[List.map_map];rfl
 have hxx:((K0 (ps.flatMap Z7)).pmap Subtype.mk hLB).map (λx:Qqd=>x.1.ints.map (V.i .i64))=(K0 (ps.flatMap Z7)).map E5.cs:=by
  conv=>rhs;rw[<- hxs]
  rw[List.map_map];rfl
 rw[hyy,hxx]at hcall
 rw[List.length_pmap]at hcall
 generalize ys.map Subtype.val=zs at *
 clear hup hperm hxs hxx hyy hLB
 obtain⟨A,hA⟩:∃A:Nat->List E5,∀i,A i=K0 ((ps.take i).flatMap Z7):=⟨_,λ_=>rfl⟩
 have hA0:A 0=[]:=by rw[hA];rfl
 have hAn:A ps.length=K0 (ps.flatMap Z7):=by rw[hA,qk]
 refine PureC.is (Q8 hm hf (qj rfl) ?_) rfl
 unfold L0p.c
 simp[go_sem,Qs]
 refine Z0 [.t 3 5] (α:=Nat) (λi=>i<=ps.length)
  (λi=>⟨[(3,.own 0 ((A i).length+1) 0 (A i).length),(9,Qs ps),(10,.i .i64 ps.length),(11,.i .i64 i)],[.arr ((A i).length+1) 5 ((A i).map E5.cs)]⟩)
  (λi=>ps.length-i) 0 (Nat.zero_le _) ?_ ?_
 ·simp[go_sem,Qs,hA0]
 ·intro i hi
  by_cases hil:i=ps.length
  ·subst hil
   rw[hAn]
   simp[go_sem,Qs]
   refine Qr (hcall _ 0 _ rfl) ?_
   have hd:=Qoj zs
   have ht:List.take (K0 (ps.flatMap Z7)).length (zs.map E5.cs)=zs.map E5.cs:=qg (by rw[List.length_map];omega)
   simp[go_sem,L0p.r,e5V,hyl,ht]
   rw[if_pos hd];rfl
  ·have hlt:i<ps.length:=by omega
   have hq:ps[i]?=some ps[i]:=qb hlt
   have hln:=hps.len hq
   have hAs:A (i+1)=A i++K0 (Z7 ps[i]):=by rw[hA,hA,Qc hq,List.flatMap_append,Qb6];simp
   have hAl:=Iv ((ps.take i).flatMap Z7)
   rw[<- hA]at hAl
   generalize ps[i]=p at *
   obtain⟨_,hq'⟩:=qa.1 hq
   generalize A i=B at *
   simp (disch:=omega) [go_sem,Qs,psV,hlt,hq,hq',Q3]
   obtain⟨C,hC⟩:∃C:Nat->List E5,∀j,C j=B++K0 (Us p j):=⟨_,λ_=>rfl⟩
   refine Qi (α:=Nat) (λj=>j<=p.length)
    (λj=>⟨[(3,.own 0 ((C j).length+1) 0 (C j).length),(5,.p 1 1 0 0),(9,Qs ps),(10,.i .i64 ps.length),(11,.i .i64 i),(16,psV p),(17,.i .i64 p.length),(18,.i .i64 j)],[.arr ((C j).length+1) 5 ((C j).map E5.cs),.arr 1 1 [[psV p]]]⟩)
    (λj=>p.length-j) 0 (Nat.zero_le _) ?_ ?_
   ·have hC0:C 0=B:=by rw[hC];simp[Us,K0]
    simp[go_sem,Qs,psV,hC0]
    exact Q48 B _
   ·intro j hj
    by_cases hjl:j=p.length
    ·subst hjl
     have hCn:C p.length=A (i+1):=by rw[hC,Qhy,hAs]
     rw[hCn]
     simp (disch:=omega) [go_sem,Qs,psV,Q3]
     exact⟨i+1,by omega,by omega,⟨rfl,by omega⟩,⟨rfl,rfl⟩,Q48 _ _⟩
    ·have hjt:j<p.length:=by omega
     have hCl:(C j).length<=4096:=by
      have h1:=Iv (Us p j)
      have h2:(Us p j).length<=p.length:=by unfold Us;rw[qx,K8];omega
      rw[hC,j5];omega
     obtain⟨j2,a,b,hj2,hrem,ha,hb,hCs⟩:∃(j2:Nat) (a b:P2),j2<p.length/\((j:Int)+1).tmod (p.length:Int)=(j2:Int)/\p[j]?=some a/\p[j2]?=some b/\C (j+1)=C j++(El (a,b)).toList:=by
      have hm2:(j+1) % p.length<p.length:=Nat.mod_lt _ (by omega)
      refine⟨(j+1) % p.length,p[j],p[(j+1) % p.length],hm2,?_,qb hjt,qb hm2,?_⟩
      ·rw[jn (by omega)];simp
      ·rw[hC,hC,Qdf hjt,Qb6,<- j4,Qme]
     obtain⟨_,ha'⟩:=qa.1 ha
     obtain⟨_,hb'⟩:=qa.1 hb
     have htc:List.take (C j).length ((C j).map E5.cs)=(C j).map E5.cs:=qg (by simp)
     have hp0:¬ p=[]:=by rintro rfl;simp at hjt
     unfold El at hCs
     simp only[]at hCs
     by_cases hab:a.y<b.y
     ·rw[if_pos hab]at hCs
      simp (disch:=omega) [go_sem,Qs,psV,hjt,ha,ha',hb,hb',hj2,hrem,hp0,P2.cs,hab,htc,Q3]
      exact⟨⟨by omega,by omega⟩,j+1,by omega,by omega,⟨by rw[hCs];simp,by omega⟩,⟨by rw[hCs];simp,by rw[hCs];simp[E5.cs]⟩,Q48 _ _⟩
     ·rw[if_neg hab]at hCs
      by_cases hba:b.y<a.y
      ·rw[if_pos hba]at hCs
       simp (disch:=omega) [go_sem,Qs,psV,hjt,ha,ha',hb,hb',hj2,hrem,hp0,P2.cs,hab,hba,htc,Q3]
       exact⟨⟨by omega,by omega⟩,j+1,by omega,by omega,⟨by rw[hCs];simp,by omega⟩,⟨by rw[hCs];simp,by rw[hCs];simp[E5.cs]⟩,Q48 _ _⟩
      ·rw[if_neg hba]at hCs
       simp at hCs
       simp (disch:=omega) [go_sem,Qs,psV,hjt,ha,ha',hb,hb',hj2,hrem,hp0,P2.cs,hab,hba,htc,Q3]
       exact⟨j+1,by omega,by omega,⟨by rw[hCs],by omega⟩,⟨by rw[hCs],by rw[hCs]⟩,Q48 _ _⟩
end
abbrev Qpg:={ s:Int × Int // StB s }
instance:Inhabited Qpg:=⟨⟨(0,0),⟨⟨by decide,by decide⟩,by decide,by decide⟩⟩⟩
def Q6s (a b:Qpg):Int:=b.1.1-a.1.1
def stI (s:Int × Int):List Int:=[s.1,s.2]
theorem Qja:Go.Sort.SWO (ltC Q6s) where
 irrefl x:=by unfold ltC Q6s;simp
 trans x y z:=by unfold ltC Q6s;simp only[decide_eq_true_eq];omega
 ntrans x y z:=by unfold ltC Q6s;simp only[decide_eq_false_iff_not];omega
theorem Qad (l:List (Int × Int)) (n:Nat):∀e∈l,∀y∈stC e,y.cl n=true:=λe _ y hy=>by
 simp[stC]at hy
 rcases hy with rfl | rfl<;>rfl
theorem Q7d (l:List (Int × Int)) (n:Nat):∀(el:List V) (x y:Int),(x,y)∈l->stC (x,y)=el->∀v∈el,v.cl n=true:=by
 rintro el x y h rfl
 exact Qad l n _ h
theorem Qj7 {α:Type} {l:List α} {i:Nat} {a:α} (h:l[i]?=some a):l.drop i=a::l.drop (i+1):=by
 obtain⟨hlt,he⟩:=qa.1 h
 rw[List.drop_eq_getElem_cons hlt,he]
theorem Qnh (B:List O) (acc:List Rn) (g:Nat):Yr (B++[.arr g 2 (acc.map Rn.cs)]) [.own B.length g 0 acc.length]=some [Qj acc]:=by
 have hd:=Bv acc
 have ht:List.take acc.length (acc.map Rn.cs)=acc.map Rn.cs:=qg (by simp)
 simp[Yr,frz,Yx,Qj,Qg,ht]
 rw[if_pos hd];rfl
theorem Qde (l:List Rn) (n g:Nat):(O.arr g 2 (l.map Rn.cs)).cl n:=λel hel x hx=>by
 obtain⟨r,hr,rfl⟩:=qq.1 hel
 exact Qap l n r hr x hx
theorem clM_if (x:Int):(if -4096<(if 4096<x then 4096 else x) then (if 4096<x then 4096 else x) else -4096)=clM x:=by
 unfold clM
 split<;>split<;>omega
theorem Qa8 (l:List E5) (k cy:Int):(Zp l k cy).length<=l.length:=by
 unfold Zp
 rw[List.length_map]
 exact ja _ _
theorem Qkr (e:E5) (k cy:Int):Zp [e] k cy=if onE cy e then [Qh0 k cy e] else []:=by
 unfold Zp
 rw[List.filter_cons,List.filter_nil]
 split<;>rfl
theorem Qgz {l:List E5} {k cy:Int} (h:∀e∈l,cy<e.lo.y):Zp l k cy=[]:=by
 unfold Zp
 rw[List.filter_eq_nil_iff.2]
 ·rfl
 ·intro e he
  unfold onE
  have:=h e he
  simp;omega
theorem Qp0 {l:List E5} (hp:l.Pairwise λa b=>a.lo.y<=b.lo.y) {i:Nat} {e:E5} (hi:l[i]?=some e) {cy:Int} (h:cy<e.lo.y) (k:Int):Zp l k cy=Zp (l.take i) k cy:=by
 have h1:=List.take_append_drop i l
 conv=>lhs;rw[<- h1]
 have hn:Zp (l.drop i) k cy=[]:=?_
 ·rw[Q2u,hn,List.append_nil]
 refine Qgz λx hx=>?_
 have hlt:=(qa.1 hi).1
 have h2:l.drop i=e::l.drop (i+1):=by
  rw[List.drop_eq_getElem_cons hlt,(qa.1 hi).2]
 have h3:(l.drop i).Pairwise λa b=>a.lo.y<=b.lo.y:=hp.sublist (List.drop_sublist i l)
 rw[h2]at h3 hx
 rcases List.mem_cons.1 hx with rfl | hx
 ·exact h
 ·have:=(jb.1 h3).1 x hx
  omega
def Qpi (P:Program) (f:FuncId):Prop:=∀(l:List E5) (k y:Int),(∀e∈l,E5B e)->l.Pairwise (λa b=>a.lo.y<=b.lo.y)->l.length<=4096->PitchOk k->-10000<=y->y<=10000 ->
 ∃rs:List Rn,RnsV rs/\(∀x,Qf rs x↔(-4096<=x/\x<4096)/\0<Yp (Zp l k (y*k+k / 2)) x)/\CallIs P f [e5V l,.i .i64 k,.i .i64 y] (Qj rs)
section
variable {P:Program} (hm:P.follows .mixedOrders=true)
include hm
theorem Q56 {f fe fx fs fc fn:FuncId} (hf:Q9 P f (L0r.c fe fx fs fc fn) L0r.r L0r.n) (hce:CenC P fe) (hx:Q9o P fx) (hs:Wt P fs 2) (hc:Qpr P fc) (hcal:Qq P fc=true) (hn:Qpw P fn):Qpi P f:=by
 intro l k y hl hp hlen hk hy1 hy2
 have hcen:=hce y k hy1 hy2 hk
 have hcyb:-11000000<=y*k+k / 2/\y*k+k / 2<=11000000:=by
  have m1:=Jg (a:=y) (b:=k) (k:=10000) (m:=1024) (by omega) (by have:=hk.lo;have:=hk.hi;omega)
  have:=hk.lo;have:=hk.hi;omega
 generalize hcy:y*k+k / 2=cy at *
 have hSB:∀s∈Zp l k cy,StB s:=by
  intro s hs
  unfold Zp at hs
  obtain⟨e,he,rfl⟩:=qq.1 hs
  obtain⟨he1,he2⟩:=qw.1 he
  unfold onE at he2
  simp only[Bool.and_eq_true,decide_eq_true_eq]at he2
  have hb:=Qow (hl e he1) hk he2.1 he2.2
  exact⟨hb,(hl e he1).s1,(hl e he1).s2⟩
 have hsl:=Qa8 l k cy
 obtain⟨ys,hperm,hup,hcall⟩:=hs (λr:Qpg=>stI r.1) (λ_=>rfl) Q6s Qja fc hcal (λa b=>hc a.1 b.1 a.2 b.2) ((Zp l k cy).pmap Subtype.mk hSB) (by rw[List.length_pmap];omega)
 have hxs:((Zp l k cy).pmap Subtype.mk hSB).map Subtype.val=Zp l k cy:=by rw[List.map_pmap];simp
 have hp2:=hperm.map Subtype.val
 rw[hxs]at hp2
 have hdesc:(ys.map Subtype.val).Pairwise λa b:Int × Int=>b.1<=a.1:=by
  rw[jf]
  refine hup.imp λ{a b} h=>?_
  unfold ltC Q6s at h
  simp only[decide_eq_false_iff_not]at h
  omega
 have hyB:∀s∈ys.map Subtype.val,StB s:=λs hs=>hSB s (hp2.mem_iff.1 hs)
 have hyl:(ys.map Subtype.val).length=(Zp l k cy).length:=hp2.length_eq
 have hyy:ys.map (λx:Qpg=>(stI x.1).map (V.i .i64))=(ys.map Subtype.val).map stC:=by rw[List.map_map];rfl
 have hxx:((Zp l k cy).pmap Subtype.mk hSB).map (λx:Qpg=>(stI x.1).map (V.i .i64))=(Zp l k cy).map stC:=by
  conv=>rhs;rw[<- hxs]
  rw[List.map_map];rfl
 rw[hyy,hxx]at hcall
 rw[List.length_pmap]at hcall
 generalize ys.map Subtype.val=zs at *
 clear hup hperm hxs hxx hyy
 have hG1:=λx=>Qbd zs 0 4096 x hdesc (by omega) (λs _=>by unfold clM;omega)
 have hG2:=Q67 zs 0 4096 (by omega) (by omega)
 have hG3:=Q66 zs 0 4096
 obtain⟨rs,hrv,hrm,hrc⟩:=hn (Je zs 0 4096) (by omega) (λq hq=>by have:=hG2 q hq;omega)
 refine⟨rs,hrv,λx=>?_,?_⟩
 ·rw[hrm,hG1,Q2w hp2,Int.zero_add]
 clear hrm hG1 hG2 hdesc hp2
 generalize hGG:Je zs 0 4096=G at *
 refine PureC.is (Q8 hm hf (qj rfl) ?_) rfl
 unfold L0r.c
 simp[go_sem,e5V]
 refine Q5 hcen ?_
 simp[go_sem,e5V]
 obtain⟨S,hS⟩:∃S:Nat->List (Int × Int),∀i,S i=Zp (l.take i) k cy:=⟨_,λ_=>rfl⟩
 refine Z0 [.t 8 2] (α:=Nat) (λi=>i<=l.length)
  (λi=>⟨[(1,.i .i64 k),(7,.i .i64 cy),(8,.own 0 ((S i).length+1) 0 (S i).length),(20,e5V l),(21,.i .i64 l.length),(22,.i .i64 i)],[.arr ((S i).length+1) 2 ((S i).map stC)]⟩)
  (λi=>l.length-i) 0 (Nat.zero_le _) ?_ ?_
 ·have hS0:S 0=[]:=by rw[hS];rfl
  simp[go_sem,e5V,hS0]
 ·intro i hi
  have hSi:(S i).length<=4096:=by
   have:=Qa8 (l.take i) k cy
   rw[<- hS,qx]at this
   omega
  have htk:List.take (S i).length ((S i).map stC)=(S i).map stC:=qg (by simp)
  have hclS:=λn=>Qad (S i) n
  by_cases hbr:i=l.length∨∃e,l[i]?=some e/\cy<e.lo.y
  ·have hfin:S i=Zp l k cy:=by
    rcases hbr with rfl | ⟨e,he,h⟩
    ·rw[hS,qk]
    ·rw[hS,<- Qp0 hp he h]
   rw[hfin]
   rcases hbr with hil | ⟨e,hq,hce⟩
   case' inl =>
    simp[go_sem,e5V,hil]
    refine Qr (hcall _ 0 _ rfl) ?_
    simp (disch:=omega) [go_sem]
    obtain⟨B,hB⟩:∃B,B=[O.arr ((Zp l k cy).length+1) 2 (zs.map stC)]:=⟨_,rfl⟩
    have f0:∀tl,(B++tl)[0]?=some (O.arr ((Zp l k cy).length+1) 2 (zs.map stC)):=λtl=>by rw[hB];rfl
    have hBc:∀n,∀o∈B,o.cl n:=λn o ho=>by
     rw[hB]at ho
     obtain rfl:=qp.1 ho
     intro el hel x hx
     obtain⟨s,hs,rfl⟩:=qq.1 hel
     exact Qad zs n s hs x hx
   case' inr =>
    obtain⟨hlt,hq'⟩:=qa.1 hq
    simp[go_sem,e5V,hlt,hq,hq',E5.cs,hce]
    refine Qr (hcall _ 0 _ rfl) ?_
    simp (disch:=omega) [go_sem]
    obtain⟨B,hB⟩:∃B,B=[O.arr ((Zp l k cy).length+1) 2 (zs.map stC),O.arr 1 5 [e.cs]]:=⟨_,rfl⟩
    have f0:∀tl,(B++tl)[0]?=some (O.arr ((Zp l k cy).length+1) 2 (zs.map stC)):=λtl=>by rw[hB];rfl
    have hBc:∀n,∀o∈B,o.cl n:=λn o ho=>by
     rw[hB]at ho
     simp only[List.mem_cons,List.not_mem_nil,or_false]at ho
     rcases ho with rfl | rfl
     ·intro el hel x hx
      obtain⟨s,hs,rfl⟩:=qq.1 hel
      exact Qad zs n s hs x hx
     ·intro el hel x hx
      rw[qp.1 hel]at hx
      exact Q48 [e] n e (by simp) x hx
   all_goals
    refine Z0 [.t 11 2] (α:=Nat × List Rn × Int × Int) (λp=>p.1<=zs.length/\p.2.1++Je (zs.drop p.1) p.2.2.1 p.2.2.2=G/\(-(p.1:Int)<=p.2.2.1/\p.2.2.1<=p.1)/\(-4096<=p.2.2.2/\p.2.2.2<=4096)/\p.2.1.length<=p.1)
     (λp=>⟨[(11,.own B.length (p.2.1.length+1) 0 p.2.1.length),(12,.i .i64 p.2.2.1),(13,.i .i64 p.2.2.2),(46,.own 0 ((Zp l k cy).length+1) 0 zs.length),(47,.i .i64 zs.length),(48,.i .i64 p.1)],
      B++[.arr (p.2.1.length+1) 2 (p.2.1.map Rn.cs)]⟩)
     (λp=>zs.length-p.1) (0,[],0,4096) ⟨Nat.zero_le _,hGG,by simp,by simp,by simp⟩ ?_ ?_
    ·subst hB
     simp[go_sem,hyl]
     first
      | exact Q7d _ _
      | exact⟨Q7d _ _,rfl,Q48 [e] _ e (by simp)⟩
    ·rintro⟨q,acc,w,r⟩ ⟨hq,hG,hw,hr,hal⟩
     simp only at hq hG hw hr hal ⊢
     by_cases hql:q=zs.length
     ·subst hql
      rw[List.drop_length]at hG
      have hta:List.take acc.length (acc.map Rn.cs)=acc.map Rn.cs:=qg (by simp)
      have hd:=Bv acc
      unfold Je at hG
      have hfin3:∀(acc':List Rn) (g:Nat),acc'=G->Yr (B++[.arr g 2 (acc'.map Rn.cs)]) [.own B.length g 0 acc'.length]=some [Qj G]:=λacc' g h=>by rw[<- h];exact Qnh B acc' g
      by_cases hw0:0<w
      ·by_cases hr0:-4096<r
       ·rw[if_pos ⟨hw0,hr0⟩]at hG
        have hf3:=hfin3 _ (acc.length+1+1) hG
        rw[qy,j5]at hf3
        simp (disch:=omega) [go_sem,Qg,Qd,Qt,Qo,hw0,hr0,hta]
        refine⟨⟨by omega,by omega⟩,Y3 (vs:=[Qj G]) hf3 hrc ?_⟩
        simp[go_sem,Qj,L0r.r]
       ·rw[if_neg (λh=>hr0 h.2),List.append_nil]at hG
        simp (disch:=omega) [go_sem,Qg,Qd,Qt,Qo,hw0,hr0]
        refine Y3 (vs:=[Qj G]) (hfin3 _ _ hG) hrc ?_
        simp[go_sem,Qj,L0r.r]
      ·rw[if_neg (λh=>hw0 h.1),List.append_nil]at hG
       simp (disch:=omega) [go_sem,Qg,Qd,Qt,Qo,hw0]
       refine Y3 (vs:=[Qj G]) (hfin3 _ _ hG) hrc ?_
       simp[go_sem,Qj,L0r.r]
     ·have hqt:q<zs.length:=by omega
      have hs1:zs[q]?=some zs[q]:=qb hqt
      have hsB:=hyB _ (qe hs1)
      have hdc:=Qj7 hs1
      generalize zs[q]=s at *
      rw[hdc]at hG
      unfold Je at hG
      have hic:(zs.map stC)[q]?=some [V.i .i64 s.1,V.i .i64 s.2]:=by rw[qr,hs1];rfl
      obtain⟨hicl,hic'⟩:=qa.1 hic
      have hta:List.take acc.length (acc.map Rn.cs)=acc.map Rn.cs:=qg (by simp)
      have hcm:=clM_if s.1
      have hcb:-4096<=clM s.1/\clM s.1<=4096:=by unfold clM;omega
      obtain⟨_,hs2⟩:=hsB
      generalize clM s.1=c at *
      have hcell:∀n,(O.arr 1 2 [[V.i .i64 s.1,V.i .i64 s.2]]).cl n:=λn el hel x hx=>by
       rw[qp.1 hel]at hx
       exact Qad [s] n s (by simp) x hx
      by_cases hw0:0<w
      ·by_cases hr0:c<r
       ·rw[if_pos ⟨hw0,hr0⟩,<- j4]at hG
        simp (disch:=omega) [go_sem,f0,hqt,hic,hicl,hic',hcm,Qg,Qd,Qt,Qo,hw0,hr0,hta,Q3]
        refine⟨⟨by omega,by omega⟩,q+1,acc++[⟨c,r⟩],w+s.2,c,⟨by omega,hG,by omega,hcb,by simp;omega⟩,by omega,⟨by simp,rfl,rfl,by omega⟩,Qy (hBc _) ⟨.inr ⟨by simp[Rn.cs],Qde _ _ _⟩,trivial⟩⟩
       ·rw[if_neg (λh=>hr0 h.2),List.nil_append]at hG
        simp (disch:=omega) [go_sem,f0,hqt,hic,hicl,hic',hcm,Qg,Qd,Qt,Qo,hw0,hr0,Q3]
        exact⟨q+1,acc,w+s.2,c,⟨by omega,hG,by omega,hcb,by omega⟩,by omega,⟨rfl,rfl,rfl,by omega⟩,Qy (hBc _) ⟨.inr ⟨rfl,Qde _ _ _⟩,trivial⟩⟩
      ·rw[if_neg (λh=>hw0 h.1),List.nil_append]at hG
       simp (disch:=omega) [go_sem,f0,hqt,hic,hicl,hic',hcm,Qg,Qd,Qt,Qo,hw0,Q3]
       exact⟨q+1,acc,w+s.2,c,⟨by omega,hG,by omega,hcb,by omega⟩,by omega,⟨rfl,rfl,rfl,by omega⟩,Qy (hBc _) ⟨.inr ⟨rfl,Qde _ _ _⟩,trivial⟩⟩
  ·have hlt:i<l.length:=by omega
   have hq:l[i]?=some l[i]:=qb hlt
   have hSs:S (i+1)=S i++(if onE cy l[i] then [Qh0 k cy l[i]] else []):=by rw[hS,hS,Qc hq,Q2u,Qkr]
   have heB:=hl l[i] (qe hq)
   generalize l[i]=e at *
   obtain⟨_,hq'⟩:=qa.1 hq
   have hce:¬ cy<e.lo.y:=λh=>hbr (.inr ⟨e,hq,h⟩)
   by_cases hhi:cy<e.hi.y
   ·rw[if_pos (by unfold onE;simp;omega)]at hSs
    have hxc:=hx e cy k heB hk (by omega) hhi
    simp (disch:=omega) [go_sem,e5V,hlt,hq,hq',E5.cs,hce,hhi]
    refine Q5 hxc ?_
    simp (disch:=omega) [go_sem,e5V,htk,Q3]
    exact⟨⟨by omega,by omega⟩,i+1,by omega,by omega,⟨by rw[hSs];simp,by omega⟩,⟨by rw[hSs];simp,by rw[hSs];simp[stC,Qh0]⟩,Q7d _ _⟩
   ·rw[if_neg (by unfold onE;simp;omega),List.append_nil]at hSs
    simp (disch:=omega) [go_sem,e5V,hlt,hq,hq',E5.cs,hce,hhi,Q3]
    exact⟨i+1,by omega,by omega,⟨by rw[hSs],by omega⟩,⟨by rw[hSs],by rw[hSs]⟩,Q7d _ _⟩
end
def hiK (m:Int) (l:List E5):Int:=l.foldl (λm e=>max m e.hi.y) m
theorem Qn8 (m:Int) (l:List E5) (e:E5):hiK m (l++[e])=max (hiK m l) e.hi.y:=by simp[hiK]
theorem Qn9:∀(l:List E5) (m:Int),m<=hiK m l/\∀e∈l,e.hi.y<=hiK m l
 | [],m=>⟨Int.le_refl _,by simp⟩
 | e::l,m=>by
   obtain⟨h1,h2⟩:=Qn9 l (max m e.hi.y)
   have h3:hiK m (e::l)=hiK (max m e.hi.y) l:=rfl
   rw[h3]
   refine⟨by omega,λx hx=>?_⟩
   rcases List.mem_cons.1 hx with rfl | hx
   ·omega
   ·exact h2 x hx
theorem Q8e:∀(l:List E5) (m:Int),-65536<=m->m<=65536->(∀e∈l,E5B e)->-65536<=hiK m l/\hiK m l<=65536
 | [],m,h1,h2,_=>⟨h1,h2⟩
 | e::l,m,h1,h2,h3=>by
   have hb:=h3 e (by simp)
   have:=hb.d1;have:=hb.d2
   exact Q8e l (max m e.hi.y) (by omega) (by omega) λx hx=>h3 x (by simp[hx])
def Zw (l:List E5) (k:Int):Int × Int:=match l with
 | []=>(0,0)
 | e::_=>(max (-4096) (e.lo.y / k),max 0 (min 4095 (hiK e.hi.y l / k)-max (-4096) (e.lo.y / k)+1))
theorem B1 {n k:Int} (hk:PitchOk k) (h1:-65536<=n) (h2:n<=65536):-2048<=n / k/\n / k<=2048:=by
 have hp:(0:Int)<k:=by have:=hk.lo;omega
 constructor
 ·rw[Int.le_ediv_iff_mul_le hp]
  have:-2048*k<=-2048*32:=Int.mul_le_mul_of_nonpos_left (by omega) (by have:=hk.lo;omega)
  omega
 ·have:n / k<2049:=by
   rw[Int.ediv_lt_iff_lt_mul hp]
   have:2049*32<=2049*k:=jh hk.lo (by omega)
   omega
  omega
theorem Q65 {l:List E5} {k:Int} (hl:∀e∈l,E5B e) (hp:l.Pairwise λa b=>a.lo.y<=b.lo.y) (hk:PitchOk k):(-4096<=(Zw l k).1/\(Zw l k).1<=2048)/\(0<=(Zw l k).2/\(Zw l k).2<=8192)/\((Zw l k).1+(Zw l k).2<=4096) /\
  ∀y,-4096<=y->y<4096->(∃e∈l,onE (y*k+k / 2) e=true)->(Zw l k).1<=y/\y<(Zw l k).1+(Zw l k).2:=by
 have hk0:(0:Int)<k:=by have:=hk.lo;omega
 cases l with
 | nil=>unfold Zw;simp
 | cons e t =>
   have hb:=hl e (by simp)
   obtain⟨b1,b2⟩:=Q8e (e::t) e.hi.y hb.d1 hb.d2 hl
   obtain⟨g1,g2⟩:=Qn9 (e::t) e.hi.y
   have f1:=B1 hk hb.b1 hb.b2
   have f2:=B1 hk b1 b2
   have hpc:=(jb.1 hp).1
   unfold Zw
   simp only[]
   generalize hiK e.hi.y (e::t)=H at *
   have h3:∀y,(∃x∈e::t,onE (y*k+k / 2) x=true)->e.lo.y / k<=y/\y<=H / k:=by
    rintro y ⟨x,hx,hon⟩
    unfold onE at hon
    simp only[Bool.and_eq_true,decide_eq_true_eq]at hon
    have hlo:e.lo.y<=x.lo.y:=by
     rcases List.mem_cons.1 hx with rfl | hx
     ·exact Int.le_refl _
     ·exact hpc x hx
    have hhi:=g2 x hx
    have hm:(y+1)*k=y*k+k:=by rw[Int.add_mul];omega
    have q1:e.lo.y / k<y+1:=by
     rw[Int.ediv_lt_iff_lt_mul hk0,hm];omega
    have q2:y<=H / k:=by
     rw[Int.le_ediv_iff_mul_le hk0];omega
    omega
   refine⟨by omega,by omega,by omega,λy h1 h2 h4=>?_⟩
   have:=h3 y h4
   omega
def Qph (P:Program) (f:FuncId):Prop:=∀(l:List E5) (k:Int),(∀e∈l,E5B e)->l.length<=4096->PitchOk k->CallIs P f [e5V l,.i .i64 k] (.t [.i .i64 (Zw l k).1,.i .i64 (Zw l k).2])
theorem mx_if (a b:Int):(if a<b then b else a)=max a b:=by split<;>omega
section
variable {P:Program} (hm:P.follows .mixedOrders=true)
include hm
theorem Q3a {f fl:FuncId} (hf:Q9 P f (L0t.c fl) L0t.r L0t.n) (hfl:Q9j P fl):Qph P f:=by
 intro l k hl hlen hk
 refine PureC.is (Q8 hm hf (qj rfl) ?_) rfl
 unfold L0t.c
 cases l with
 | nil=>simp[go_sem,e5V,L0t.r,Zw]
 | cons e t =>
   have hb:=hl e (by simp)
   obtain⟨b1,b2⟩:=Q8e (e::t) e.hi.y hb.d1 hb.d2 hl
   have hrv:Zw (e::t) k=(max (-4096) (e.lo.y / k),max 0 (min 4095 (hiK e.hi.y (e::t) / k)-max (-4096) (e.lo.y / k)+1)):=rfl
   have h0:(e::t)[0]?=some e:=rfl
   have hbk:∀i,-65536<=hiK e.hi.y ((e::t).take i)/\hiK e.hi.y ((e::t).take i)<=65536:=λi=>Q8e _ e.hi.y hb.d1 hb.d2 λx hx=>hl x (List.mem_of_mem_take hx)
   have hlp:0<(e::t).length:=by simp
   generalize hL:e::t=L at *
   obtain⟨_,h0'⟩:=qa.1 h0
   have hLn:¬ L=[]:=by rintro rfl;simp at hlp
   simp[go_sem,e5V,h0,h0',hlp,hLn,E5.cs]
   obtain⟨M,hM⟩:∃M:Nat->Int,∀i,M i=hiK e.hi.y (L.take i):=⟨_,λ_=>rfl⟩
   have hM0:M 0=e.hi.y:=by rw[hM];rfl
   refine Qi (α:=Nat) (λi=>i<=L.length)
    (λi=>⟨[(0,e5V L),(1,.i .i64 k),(6,.i .i64 (M i)),(21,e5V L),(22,.i .i64 L.length),(23,.i .i64 i)],[]⟩)
    (λi=>L.length-i) 0 (Nat.zero_le _) ?_ ?_
   ·simp[go_sem,e5V,hM0,E5.cs]
    done
   ·intro i hi
    by_cases hil:i=L.length
    ·subst hil
     have hMl:M L.length=hiK e.hi.y L:=by rw[hM,qk]
     rw[hMl]
     generalize hiK e.hi.y L=H at *
     have f1:=B1 hk hb.b1 hb.b2
     have f2:=B1 hk b1 b2
     have k1:=hk.lo
     have k2:=hk.hi
     have c1:=hfl e.lo.y k (by have:=hb.b1;omega) (by have:=hb.b2;omega) (by omega) (by omega)
     have c2:=hfl H k (by omega) (by omega) (by omega) (by omega)
     simp (disch:=omega) [go_sem,e5V,h0,h0',hlp,hLn,E5.cs]
     refine Q5 c1 ?_
     simp (disch:=omega) [go_sem,e5V,h0,h0',hlp,hLn,E5.cs]
     refine Q5 c2 ?_
     generalize e.lo.y / k=A at *
     generalize H / k=B at *
     rw[hrv]
     simp (disch:=omega) [go_sem,L0t.r,Q3]
     refine⟨?_,?_⟩<;>(repeat' split)<;>omega
    ·have hlt:i<L.length:=by omega
     have hq:L[i]?=some L[i]:=qb hlt
     have hMs:M (i+1)=max (M i) L[i].hi.y:=by rw[hM,hM,Qc hq,Qn8]
     generalize L[i]=x at *
     obtain⟨_,hq'⟩:=qa.1 hq
     simp (disch:=omega) [go_sem,e5V,hlt,hq,hq',E5.cs,mx_if,Q3]
     exact⟨i+1,by omega,by omega,hMs.symm,by omega⟩
end
end Go.Abs
