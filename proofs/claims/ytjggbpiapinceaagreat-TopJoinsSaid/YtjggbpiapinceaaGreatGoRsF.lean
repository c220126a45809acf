/- Part of the library on which the proof stands: an abstract machine, its values and its soundness against the model; or what functions of the program do to such values. -/
import Derived.Test.YtjggbpiapinceaaGreatGoMap
import Derived.Test.YtjggbpiapinceaaGreatGoTpD
import Derived.Test.YtjggbpiapinceaaGreatAbsSS
set_option linter.unusedVariables false
set_option linter.unusedSimpArgs false
set_option maxHeartbeats 8000000
set_option maxRecDepth 20000
namespace Go.Abs
structure PolyOk (ps:List (List P2)):Prop where
 num:ps.length<=4096
 cnt:(ps.flatMap Z4).length<=4096
 bd:EgB (ps.flatMap Z4) 65536
theorem Q9t (ps:List (List P2)) (p:List P2):((ps++[p]).flatMap Z4).length=(ps.flatMap Z4).length+p.length:=by
 rw[List.flatMap_append,j3]
 simp[Jy]
theorem Qgz (ps:List (List P2)) (k:Nat):((ps.take k).flatMap Z4).length<=(ps.flatMap Z4).length:=by
 conv=>rhs;rw[<- List.take_append_drop k ps]
 rw[List.flatMap_append,j3]
 omega
theorem PolyOk.len {ps:List (List P2)} (h:PolyOk ps) {k:Nat} {p:List P2} (hp:ps[k]?=some p):((ps.take k).flatMap Z4).length+p.length<=4096:=by
 have h1:=Qgz ps (k+1)
 rw[Qf hp,Q9t]at h1
 have:=h.cnt
 omega
theorem PolyOk.pt {ps:List (List P2)} (h:PolyOk ps) {p:List P2} (hp:p∈ps) {v:P2} (hv:v∈p):(-65536<=v.x/\v.x<=65536)/\-65536<=v.y/\v.y<=65536:=by
 rw[<- Qg4 p]at hv
 obtain⟨e,he,rfl⟩:=qo.1 hv
 obtain⟨a,b,_⟩:=h.bd e (jm.2 ⟨p,hp,he⟩)
 exact⟨a,b⟩
def Q88 (P:Program) (f:FuncId):Prop:=∀(ps:List (List P2)) (k:Int),PolyOk ps->CallIs P f [Qq ps,.i .i64 k] (.i .i64 (if Yq k 32 1024 then 0 else 1))
def Qno (P:Program) (f:FuncId):Prop:=∀a b:E5,E5B a->E5B b->CallIs P f [.a a.cs,.a b.cs] (.i .i64 (a.lo.y-b.lo.y))
def StB (s:Int × Int):Prop:=(-100000000000<=s.1/\s.1<=100000000000)/\-1<=s.2/\s.2<=1
def stC (s:Int × Int):List V:=[.i .i64 s.1,.i .i64 s.2]
def Qnn (P:Program) (f:FuncId):Prop:=∀a b:Int × Int,StB a->StB b->CallIs P f [.a (stC a),.a (stC b)] (.i .i64 (b.1-a.1))
section
variable {P:Program} (hm:P.follows .mixedOrders=true)
include hm
theorem En {f:FuncId} (hf:Q9 P f L0r.c L0r.r L0r.n):Qno P f:=by
 intro a b ha hb
 obtain⟨_,_,a1,a2,_,_,_,_,_,_,_⟩:=ha
 obtain⟨_,_,b1,b2,_,_,_,_,_,_,_⟩:=hb
 refine PureC.is (Q8 hm hf (qh rfl) ?_) rfl
 unfold L0r.c
 have w:=Q3 (z:=a.lo.y-b.lo.y) (by omega) (by omega)
 simp[go_sem,E5.cs,w,L0r.r]
theorem Q0p {f:FuncId} (hf:Q9 P f L0t.c L0t.r L0t.n):Qnn P f:=by
 intro a b ha hb
 obtain⟨⟨a1,a2⟩,_⟩:=ha
 obtain⟨⟨b1,b2⟩,_⟩:=hb
 refine PureC.is (Q8 hm hf (qh rfl) ?_) rfl
 unfold L0t.c
 have w:=Q3 (z:=b.1-a.1) (by omega) (by omega)
 simp[go_sem,stC,w,L0t.r]
theorem Q0s {f:FuncId} (hf:Q9 P f L0o.c L0o.r L0o.n):Q88 P f:=by
 intro ps k hps
 have hpl:=hps.num
 refine PureC.is (Q8 hm hf (qh rfl) ?_) rfl
 unfold L0o.c
 by_cases hlo:k<32
 ·have he:Yq k 32 1024=false:=by unfold Yq;simp[show ¬ 32<=k by omega]
  simp[go_sem,hlo,he,L0o.r]
 by_cases hhi:1024<k
 ·have he:Yq k 32 1024=false:=by unfold Yq;simp[show ¬ k<=1024 by omega]
  simp[go_sem,hlo,hhi,he,L0o.r]
 have ht:k.tmod 2=k % 2:=jn (by omega)
 by_cases hev:k % 2=0
 case neg =>
  have he:Yq k 32 1024=false:=by unfold Yq;simp[hev]
  have hb:(k.tmod 2 != 0)=true:=by rw[ht];simpa using hev
  have w:=Q3 (z:=k.tmod 2) (by omega) (by omega)
  rw[ht]at w hb
  simp[go_sem,hlo,hhi,ht,w,hb,hev,he,L0o.r]
  done
 have he:Yq k 32 1024=true:=by unfold Yq;simp[hev];omega
 simp[go_sem,hlo,hhi,ht,hev,he,Qq]
 obtain⟨tot,htot⟩:∃tot:Nat->Nat,∀i,tot i=((ps.take i).flatMap Z4).length:=⟨_,λ_=>rfl⟩
 have htot0:tot 0=0:=by rw[htot];rfl
 refine Qj (α:=Nat) (λi=>i<=ps.length)
  (λi=>⟨[(0,Qq ps),(5,.i .i64 (tot i)),(23,Qq ps),(24,.i .i64 ps.length),(25,.i .i64 i)],[]⟩)
  (λi=>ps.length-i) 0 (Nat.zero_le _) ?_ ?_
 ·simp[go_sem,Qq,htot0]
 ·intro i hi
  by_cases hil:i=ps.length
  case neg =>
   have hlt:i<ps.length:=by omega
   have hq:ps[i]?=some ps[i]:=q9 hlt
   have hln:=hps.len hq
   have hft:=Q9t (ps.take i) ps[i]
   rw[<- Qf hq,<- htot,<- htot]at hft
   rw[<- htot]at hln
   generalize ps[i]=p at *
   obtain⟨_,hq'⟩:=q8.1 hq
   simp (disch:=omega) [go_sem,Qq,psV,hlt,hq,hq',Q3]
   exact⟨i+1,by omega,by omega,by omega,by omega⟩
  subst hil
  have hcnt:=hps.cnt
  have hN:=htot ps.length
  rw[qi]at hN
  rw[<- hN]at hcnt
  generalize tot ps.length=N at *
  simp[go_sem,Qq,show ¬ (16384:Int)<N by omega]
  refine Qj (α:=Nat) (λi=>i<=ps.length)
   (λi=>⟨[(37,Qq ps),(38,.i .i64 ps.length),(39,.i .i64 i)],[]⟩)
   (λi=>ps.length-i) 0 (Nat.zero_le _) ?_ ?_
  ·simp[go_sem,Qq]
  intro i hi
  by_cases hil:i=ps.length
  ·subst hil
   simp[go_sem,Qq,L0o.r]
  have hlt:i<ps.length:=by omega
  have hq:ps[i]?=some ps[i]:=q9 hlt
  have hln:=hps.len hq
  have hpt:∀v∈ps[i],_:=λv hv=>hps.pt (qb hq) hv
  generalize ps[i]=p at *
  obtain⟨_,hq'⟩:=q8.1 hq
  simp (disch:=omega) [go_sem,Qq,psV,hlt,hq,hq',Q3]
  refine Qj (α:=Nat) (λj=>j<=p.length)
   (λj=>⟨[(37,Qq ps),(38,.i .i64 ps.length),(39,.i .i64 i),(44,.l 2 (p.map P2.cs)),(45,.i .i64 p.length),(46,.i .i64 j)],[]⟩)
   (λj=>p.length-j) 0 (Nat.zero_le _) ?_ ?_
  ·simp[go_sem,Qq,psV]
  intro j hj
  by_cases hjl:j=p.length
  ·subst hjl
   simp (disch:=omega) [go_sem,Qq,psV,Q3]
   exact⟨i+1,by omega,by omega,by omega⟩
  have hjt:j<p.length:=by omega
  have hv:p[j]?=some p[j]:=q9 hjt
  have hvb:=hpt _ (qb hv)
  generalize p[j]=v at *
  obtain⟨_,hv'⟩:=q8.1 hv
  simp (disch:=omega) [go_sem,Qq,hjt,hv,hv',P2.cs,show ¬ v.x < -65536 by omega,show ¬ 65536<v.x by omega,show ¬ v.y < -65536 by omega,show ¬ 65536<v.y by omega,Q3]
  exact⟨j+1,by omega,by omega,by omega⟩
end
abbrev Qob:={ e:E5 // E5B e }
instance:Inhabited Qob:=⟨⟨⟨⟨0,0⟩,⟨0,1⟩,0⟩,by constructor<;>decide⟩⟩
def Q5i (a b:Qob):Int:=a.1.lo.y-b.1.lo.y
theorem Qhg:Go.Sort.SWO (ltC Q5i) where
 irrefl x:=by unfold ltC Q5i;simp
 trans x y z:=by unfold ltC Q5i;simp only[decide_eq_true_eq];omega
 ntrans x y z:=by unfold ltC Q5i;simp only[decide_eq_false_iff_not];omega
theorem Qmj (l:List E5):∀e∈l,∀y∈e.cs,y.isD=true:=λe _ y hy=>by
 simp[E5.cs]at hy
 rcases hy with rfl | rfl | rfl | rfl | rfl<;>rfl
theorem Q3d (l:List E5) (n:Nat):∀e∈l,∀y∈e.cs,y.cl n=true:=λe he y hy=>Kf n (Qmj l e he y hy)
def Jr (es:List Eg):List E5:=es.filterMap Uv
theorem Q9g (a b:List Eg):Jr (a++b)=Jr a++Jr b:=List.filterMap_append
theorem Qkf (e:Eg):Jr [e]=(Uv e).toList:=by
 unfold Jr
 rw[List.filterMap_cons]
 cases Uv e<;>rfl
theorem I6 (a:List Eg):(Jr a).length<=a.length:=List.length_filterMap_le _ _
def Q83 (P:Program) (f:FuncId):Prop:=∀ps:List (List P2),PolyOk ps->∃l:List E5,l.Perm (Jr (ps.flatMap Z4))/\l.Pairwise (λa b=>a.lo.y<=b.lo.y)/\CallIs P f [Qq ps] (e5V l)
section
variable {P:Program} (hm:P.follows .mixedOrders=true)
include hm
theorem Q0q {f fs fc:FuncId} (hf:Q9 P f (L0q.c fs fc) L0q.r L0q.n) (hs:Wj P fs 5) (hc:Qno P fc) (hcal:Zh P fc=true):Q83 P f:=by
 intro ps hps
 have hpl:=hps.num
 have hcnt:=hps.cnt
 have hLB:∀e∈Jr (ps.flatMap Z4),E5B e:=λe he=>Qc2 hps.bd he
 have hLl:=I6 (ps.flatMap Z4)
 obtain⟨ys,hperm,hup,hcall⟩:=hs (λr:Qob=>r.1.ints) (λ_=>rfl) Q5i Qhg fc hcal (λa b=>hc a.1 b.1 a.2 b.2) ((Jr (ps.flatMap Z4)).pmap Subtype.mk hLB) (by rw[List.length_pmap];omega)
 have hxs:((Jr (ps.flatMap Z4)).pmap Subtype.mk hLB).map Subtype.val=Jr (ps.flatMap Z4):=by rw[List.map_pmap];simp
 have hp2:=hperm.map Subtype.val
 rw[hxs]at hp2
 refine⟨ys.map Subtype.val,hp2,?_,?_⟩
 ·rw[jd]
  refine hup.imp λ{a b} h=>?_
  unfold ltC Q5i at h
  simp only[decide_eq_false_iff_not]at h
  omega
 have hyl:(ys.map Subtype.val).length=(Jr (ps.flatMap Z4)).length:=hp2.length_eq
 have hyy:ys.map (λx:Qob=>x.1.ints.map (V.i .i64))=(ys.map Subtype.val).map E5.cs:=by rw[List.map_map];rfl
 have hxx:((Jr (ps.flatMap Z4)).pmap Subtype.mk hLB).map (λx:Qob=>x.1.ints.map (V.i .i64))=(Jr (ps.flatMap Z4)).map E5.cs:=by
  conv=>rhs;rw[<- hxs]
  rw[List.map_map];rfl
 rw[hyy,hxx]at hcall
 rw[List.length_pmap]at hcall
 generalize ys.map Subtype.val=zs at *
 clear hup hperm hxs hxx hyy hLB
 obtain⟨A,hA⟩:∃A:Nat->List E5,∀i,A i=Jr ((ps.take i).flatMap Z4):=⟨_,λ_=>rfl⟩
 have hA0:A 0=[]:=by rw[hA];rfl
 have hAn:A ps.length=Jr (ps.flatMap Z4):=by rw[hA,qi]
 refine PureC.is (Q8 hm hf (qh rfl) ?_) rfl
 unfold L0q.c
 simp[go_sem,Qq]
 refine Zc [.t 3 5] (α:=Nat) (λi=>i<=ps.length)
  (λi=>⟨[(3,.own 0 ((A i).length+1) 0 (A i).length),(9,Qq ps),(10,.i .i64 ps.length),(11,.i .i64 i)],[.arr ((A i).length+1) 5 ((A i).map E5.cs)]⟩)
  (λi=>ps.length-i) 0 (Nat.zero_le _) ?_ ?_
 ·simp[go_sem,Qq,hA0]
 ·intro i hi
  by_cases hil:i=ps.length
  ·subst hil
   rw[hAn]
   simp[go_sem,Qq]
   refine Xm (hcall _ 0 _ rfl) ?_
   have hd:=Qmj zs
   have ht:List.take (Jr (ps.flatMap Z4)).length (zs.map E5.cs)=zs.map E5.cs:=qe (by rw[List.length_map];omega)
   simp[go_sem,L0q.r,e5V,hyl,ht]
   rw[if_pos hd];rfl
  ·have hlt:i<ps.length:=by omega
   have hq:ps[i]?=some ps[i]:=q9 hlt
   have hln:=hps.len hq
   have hAs:A (i+1)=A i++Jr (Z4 ps[i]):=by rw[hA,hA,Qf hq,List.flatMap_append,Q9g];simp
   have hAl:=I6 ((ps.take i).flatMap Z4)
   rw[<- hA]at hAl
   generalize ps[i]=p at *
   obtain⟨_,hq'⟩:=q8.1 hq
   generalize A i=B at *
   simp (disch:=omega) [go_sem,Qq,psV,hlt,hq,hq',Q3]
   obtain⟨C,hC⟩:∃C:Nat->List E5,∀j,C j=B++Jr (U6 p j):=⟨_,λ_=>rfl⟩
   refine Qj (α:=Nat) (λj=>j<=p.length)
    (λj=>⟨[(3,.own 0 ((C j).length+1) 0 (C j).length),(5,.p 1 1 0 0),(9,Qq ps),(10,.i .i64 ps.length),(11,.i .i64 i),(16,psV p),(17,.i .i64 p.length),(18,.i .i64 j)],[.arr ((C j).length+1) 5 ((C j).map E5.cs),.arr 1 1 [[psV p]]]⟩)
    (λj=>p.length-j) 0 (Nat.zero_le _) ?_ ?_
   ·have hC0:C 0=B:=by rw[hC];simp[U6,Jr]
    simp[go_sem,Qq,psV,hC0]
    exact Q3d B _
   ·intro j hj
    by_cases hjl:j=p.length
    ·subst hjl
     have hCn:C p.length=A (i+1):=by rw[hC,Qg3,hAs]
     rw[hCn]
     simp (disch:=omega) [go_sem,Qq,psV,Q3]
     exact⟨i+1,by omega,by omega,⟨rfl,by omega⟩,⟨rfl,rfl⟩,Q3d _ _⟩
    ·have hjt:j<p.length:=by omega
     have hCl:(C j).length<=4096:=by
      have h1:=I6 (U6 p j)
      have h2:(U6 p j).length<=p.length:=by unfold U6;rw[qv,Jy];omega
      rw[hC,j3];omega
     obtain⟨j2,a,b,hj2,hrem,ha,hb,hCs⟩:∃(j2:Nat) (a b:P2),j2<p.length/\((j:Int)+1).tmod (p.length:Int)=(j2:Int)/\p[j]?=some a/\p[j2]?=some b/\C (j+1)=C j++(Uv (a,b)).toList:=by
      have hm2:(j+1) % p.length<p.length:=Nat.mod_lt _ (by omega)
      refine⟨(j+1) % p.length,p[j],p[(j+1) % p.length],hm2,?_,q9 hjt,q9 hm2,?_⟩
      ·rw[jn (by omega)];simp
      ·rw[hC,hC,Qbj hjt,Q9g,<- qz,Qkf]
     obtain⟨_,ha'⟩:=q8.1 ha
     obtain⟨_,hb'⟩:=q8.1 hb
     have htc:List.take (C j).length ((C j).map E5.cs)=(C j).map E5.cs:=qe (by simp)
     have hp0:¬ p=[]:=by rintro rfl;simp at hjt
     unfold Uv at hCs
     simp only[]at hCs
     by_cases hab:a.y<b.y
     ·rw[if_pos hab]at hCs
      simp (disch:=omega) [go_sem,Qq,psV,hjt,ha,ha',hb,hb',hj2,hrem,hp0,P2.cs,hab,htc,Q3]
      exact⟨⟨by omega,by omega⟩,j+1,by omega,by omega,⟨by rw[hCs];simp,by omega⟩,⟨by rw[hCs];simp,by rw[hCs];simp[E5.cs]⟩,Q3d _ _⟩
     ·rw[if_neg hab]at hCs
      by_cases hba:b.y<a.y
      ·rw[if_pos hba]at hCs
       simp (disch:=omega) [go_sem,Qq,psV,hjt,ha,ha',hb,hb',hj2,hrem,hp0,P2.cs,hab,hba,htc,Q3]
       exact⟨⟨by omega,by omega⟩,j+1,by omega,by omega,⟨by rw[hCs];simp,by omega⟩,⟨by rw[hCs];simp,by rw[hCs];simp[E5.cs]⟩,Q3d _ _⟩
      ·rw[if_neg hba]at hCs
       simp at hCs
       simp (disch:=omega) [go_sem,Qq,psV,hjt,ha,ha',hb,hb',hj2,hrem,hp0,P2.cs,hab,hba,htc,Q3]
       exact⟨j+1,by omega,by omega,⟨by rw[hCs],by omega⟩,⟨by rw[hCs],by rw[hCs]⟩,Q3d _ _⟩
end
abbrev Qne:={ s:Int × Int // StB s }
instance:Inhabited Qne:=⟨⟨(0,0),⟨⟨by decide,by decide⟩,by decide,by decide⟩⟩⟩
def Q5f (a b:Qne):Int:=b.1.1-a.1.1
def stI (s:Int × Int):List Int:=[s.1,s.2]
theorem Qhd:Go.Sort.SWO (ltC Q5f) where
 irrefl x:=by unfold ltC Q5f;simp
 trans x y z:=by unfold ltC Q5f;simp only[decide_eq_true_eq];omega
 ntrans x y z:=by unfold ltC Q5f;simp only[decide_eq_false_iff_not];omega
theorem Q8q (l:List (Int × Int)) (n:Nat):∀e∈l,∀y∈stC e,y.cl n=true:=λe _ y hy=>by
 simp[stC]at hy
 rcases hy with rfl | rfl<;>rfl
theorem Q63 (l:List (Int × Int)) (n:Nat):∀(el:List V) (x y:Int),(x,y)∈l->stC (x,y)=el->∀v∈el,v.cl n=true:=by
 rintro el x y h rfl
 exact Q8q l n _ h
theorem Qha {α:Type} {l:List α} {i:Nat} {a:α} (h:l[i]?=some a):l.drop i=a::l.drop (i+1):=by
 obtain⟨hlt,he⟩:=q8.1 h
 rw[List.drop_eq_getElem_cons hlt,he]
theorem Qlh (B:List O) (acc:List Rn) (g:Nat):Kg (B++[.arr g 2 (acc.map Rn.cs)]) [.own B.length g 0 acc.length]=some [Qe acc]:=by
 have hd:=Q2b acc
 have ht:List.take acc.length (acc.map Rn.cs)=acc.map Rn.cs:=qe (by simp)
 simp[Kg,frz,Jd,Qe,Qh,ht]
 rw[if_pos hd];rfl
theorem Qbi (l:List Rn) (n g:Nat):(O.arr g 2 (l.map Rn.cs)).cl n:=λel hel x hx=>by
 obtain⟨r,hr,rfl⟩:=qo.1 hel
 exact Q90 l n r hr x hx
theorem clM_if (x:Int):(if -4096<(if 4096<x then 4096 else x) then (if 4096<x then 4096 else x) else -4096)=clM x:=by
 unfold clM
 split<;>split<;>omega
theorem Q8l (l:List E5) (k cy:Int):(Zr l k cy).length<=l.length:=by
 unfold Zr
 rw[List.length_map]
 exact j8 _ _
theorem Qip (e:E5) (k cy:Int):Zr [e] k cy=if onE cy e then [Qf5 k cy e] else []:=by
 unfold Zr
 rw[List.filter_cons,List.filter_nil]
 split<;>rfl
theorem Qf4 {l:List E5} {k cy:Int} (h:∀e∈l,cy<e.lo.y):Zr l k cy=[]:=by
 unfold Zr
 rw[List.filter_eq_nil_iff.2]
 ·rfl
 ·intro e he
  unfold onE
  have:=h e he
  simp;omega
theorem Qmx {l:List E5} (hp:l.Pairwise λa b=>a.lo.y<=b.lo.y) {i:Nat} {e:E5} (hi:l[i]?=some e) {cy:Int} (h:cy<e.lo.y) (k:Int):Zr l k cy=Zr (l.take i) k cy:=by
 have h1:=List.take_append_drop i l
 conv=>lhs;rw[<- h1]
 have hn:Zr (l.drop i) k cy=[]:=?_
 ·rw[Q1v,hn,List.append_nil]
 refine Qf4 λx hx=>?_
 have hlt:=(q8.1 hi).1
 have h2:l.drop i=e::l.drop (i+1):=by
  rw[List.drop_eq_getElem_cons hlt,(q8.1 hi).2]
 have h3:(l.drop i).Pairwise λa b=>a.lo.y<=b.lo.y:=hp.sublist (List.drop_sublist i l)
 rw[h2]at h3 hx
 rcases List.mem_cons.1 hx with rfl | hx
 ·exact h
 ·have:=(j9.1 h3).1 x hx
  omega
def Qng (P:Program) (f:FuncId):Prop:=∀(l:List E5) (k y:Int),(∀e∈l,E5B e)->l.Pairwise (λa b=>a.lo.y<=b.lo.y)->l.length<=4096->PitchOk k->-10000<=y->y<=10000 ->
 ∃rs:List Rn,RnsV rs/\(∀x,Qb rs x↔(-4096<=x/\x<4096)/\0<Yo (Zr l k (y*k+k / 2)) x)/\CallIs P f [e5V l,.i .i64 k,.i .i64 y] (Qe rs)
section
variable {P:Program} (hm:P.follows .mixedOrders=true)
include hm
theorem Q3z {f fe fx fs fc fn:FuncId} (hf:Q9 P f (L0s.c fe fx fs fc fn) L0s.r L0s.n) (hce:CenC P fe) (hx:Q86 P fx) (hs:Wj P fs 2) (hc:Qnn P fc) (hcal:Zh P fc=true) (hn:Qns P fn):Qng P f:=by
 intro l k y hl hp hlen hk hy1 hy2
 have hcen:=hce y k hy1 hy2 hk
 have hcyb:-11000000<=y*k+k / 2/\y*k+k / 2<=11000000:=by
  have m1:=Bg (a:=y) (b:=k) (k:=10000) (m:=1024) (by omega) (by have:=hk.lo;have:=hk.hi;omega)
  have:=hk.lo;have:=hk.hi;omega
 generalize hcy:y*k+k / 2=cy at *
 have hSB:∀s∈Zr l k cy,StB s:=by
  intro s hs
  unfold Zr at hs
  obtain⟨e,he,rfl⟩:=qo.1 hs
  obtain⟨he1,he2⟩:=qu.1 he
  unfold onE at he2
  simp only[Bool.and_eq_true,decide_eq_true_eq]at he2
  have hb:=Qmv (hl e he1) hk he2.1 he2.2
  exact⟨hb,(hl e he1).s1,(hl e he1).s2⟩
 have hsl:=Q8l l k cy
 obtain⟨ys,hperm,hup,hcall⟩:=hs (λr:Qne=>stI r.1) (λ_=>rfl) Q5f Qhd fc hcal (λa b=>hc a.1 b.1 a.2 b.2) ((Zr l k cy).pmap Subtype.mk hSB) (by rw[List.length_pmap];omega)
 have hxs:((Zr l k cy).pmap Subtype.mk hSB).map Subtype.val=Zr l k cy:=by rw[List.map_pmap];simp
 have hp2:=hperm.map Subtype.val
 rw[hxs]at hp2
 have hdesc:(ys.map Subtype.val).Pairwise λa b:Int × Int=>b.1<=a.1:=by
  rw[jd]
  refine hup.imp λ{a b} h=>?_
  unfold ltC Q5f at h
  simp only[decide_eq_false_iff_not]at h
  omega
 have hyB:∀s∈ys.map Subtype.val,StB s:=λs hs=>hSB s (hp2.mem_iff.1 hs)
 have hyl:(ys.map Subtype.val).length=(Zr l k cy).length:=hp2.length_eq
 have hyy:ys.map (λx:Qne=>(stI x.1).map (V.i .i64))=(ys.map Subtype.val).map stC:=by rw[List.map_map];rfl
 have hxx:((Zr l k cy).pmap Subtype.mk hSB).map (λx:Qne=>(stI x.1).map (V.i .i64))=(Zr l k cy).map stC:=by
  conv=>rhs;rw[<- hxs]
  rw[List.map_map];rfl
 rw[hyy,hxx]at hcall
 rw[List.length_pmap]at hcall
 generalize ys.map Subtype.val=zs at *
 clear hup hperm hxs hxx hyy
 have hG1:=λx=>Q9n zs 0 4096 x hdesc (by omega) (λs _=>by unfold clM;omega)
 have hG2:=Q4t zs 0 4096 (by omega) (by omega)
 have hG3:=Q4s zs 0 4096
 obtain⟨rs,hrv,hrm,hrc⟩:=hn (J9 zs 0 4096) (by omega) (λq hq=>by have:=hG2 q hq;omega)
 refine⟨rs,hrv,λx=>?_,?_⟩
 ·rw[hrm,hG1,Q1x hp2,Int.zero_add]
 clear hrm hG1 hG2 hdesc hp2
 generalize hGG:J9 zs 0 4096=G at *
 refine PureC.is (Q8 hm hf (qh rfl) ?_) rfl
 unfold L0s.c
 simp[go_sem,e5V]
 refine Q5 hcen ?_
 simp[go_sem,e5V]
 obtain⟨S,hS⟩:∃S:Nat->List (Int × Int),∀i,S i=Zr (l.take i) k cy:=⟨_,λ_=>rfl⟩
 refine Zc [.t 8 2] (α:=Nat) (λi=>i<=l.length)
  (λi=>⟨[(1,.i .i64 k),(7,.i .i64 cy),(8,.own 0 ((S i).length+1) 0 (S i).length),(20,e5V l),(21,.i .i64 l.length),(22,.i .i64 i)],[.arr ((S i).length+1) 2 ((S i).map stC)]⟩)
  (λi=>l.length-i) 0 (Nat.zero_le _) ?_ ?_
 ·have hS0:S 0=[]:=by rw[hS];rfl
  simp[go_sem,e5V,hS0]
 ·intro i hi
  have hSi:(S i).length<=4096:=by
   have:=Q8l (l.take i) k cy
   rw[<- hS,qv]at this
   omega
  have htk:List.take (S i).length ((S i).map stC)=(S i).map stC:=qe (by simp)
  have hclS:=λn=>Q8q (S i) n
  by_cases hbr:i=l.length∨∃e,l[i]?=some e/\cy<e.lo.y
  ·have hfin:S i=Zr l k cy:=by
    rcases hbr with rfl | ⟨e,he,h⟩
    ·rw[hS,qi]
    ·rw[hS,<- Qmx hp he h]
   rw[hfin]
   rcases hbr with hil | ⟨e,hq,hce⟩
   case' inl =>
    simp[go_sem,e5V,hil]
    refine Xm (hcall _ 0 _ rfl) ?_
    simp (disch:=omega) [go_sem]
    obtain⟨B,hB⟩:∃B,B=[O.arr ((Zr l k cy).length+1) 2 (zs.map stC)]:=⟨_,rfl⟩
    have f0:∀tl,(B++tl)[0]?=some (O.arr ((Zr l k cy).length+1) 2 (zs.map stC)):=λtl=>by rw[hB];rfl
    have hBc:∀n,∀o∈B,o.cl n:=λn o ho=>by
     rw[hB]at ho
     obtain rfl:=qn.1 ho
     intro el hel x hx
     obtain⟨s,hs,rfl⟩:=qo.1 hel
     exact Q8q zs n s hs x hx
   case' inr =>
    obtain⟨hlt,hq'⟩:=q8.1 hq
    simp[go_sem,e5V,hlt,hq,hq',E5.cs,hce]
    refine Xm (hcall _ 0 _ rfl) ?_
    simp (disch:=omega) [go_sem]
    obtain⟨B,hB⟩:∃B,B=[O.arr ((Zr l k cy).length+1) 2 (zs.map stC),O.arr 1 5 [e.cs]]:=⟨_,rfl⟩
    have f0:∀tl,(B++tl)[0]?=some (O.arr ((Zr l k cy).length+1) 2 (zs.map stC)):=λtl=>by rw[hB];rfl
    have hBc:∀n,∀o∈B,o.cl n:=λn o ho=>by
     rw[hB]at ho
     simp only[List.mem_cons,List.not_mem_nil,or_false]at ho
     rcases ho with rfl | rfl
     ·intro el hel x hx
      obtain⟨s,hs,rfl⟩:=qo.1 hel
      exact Q8q zs n s hs x hx
     ·intro el hel x hx
      rw[qn.1 hel]at hx
      exact Q3d [e] n e (by simp) x hx
   all_goals
    refine Zc [.t 11 2] (α:=Nat × List Rn × Int × Int) (λp=>p.1<=zs.length/\p.2.1++J9 (zs.drop p.1) p.2.2.1 p.2.2.2=G/\(-(p.1:Int)<=p.2.2.1/\p.2.2.1<=p.1)/\(-4096<=p.2.2.2/\p.2.2.2<=4096)/\p.2.1.length<=p.1)
     (λp=>⟨[(11,.own B.length (p.2.1.length+1) 0 p.2.1.length),(12,.i .i64 p.2.2.1),(13,.i .i64 p.2.2.2),(46,.own 0 ((Zr l k cy).length+1) 0 zs.length),(47,.i .i64 zs.length),(48,.i .i64 p.1)],
      B++[.arr (p.2.1.length+1) 2 (p.2.1.map Rn.cs)]⟩)
     (λp=>zs.length-p.1) (0,[],0,4096) ⟨Nat.zero_le _,hGG,by simp,by simp,by simp⟩ ?_ ?_
    ·subst hB
     simp[go_sem,hyl]
     first
      | exact Q63 _ _
      | exact⟨Q63 _ _,rfl,Q3d [e] _ e (by simp)⟩
    ·rintro⟨q,acc,w,r⟩ ⟨hq,hG,hw,hr,hal⟩
     simp only at hq hG hw hr hal ⊢
     by_cases hql:q=zs.length
     ·subst hql
      rw[List.drop_length]at hG
      have hta:List.take acc.length (acc.map Rn.cs)=acc.map Rn.cs:=qe (by simp)
      have hd:=Q2b acc
      unfold J9 at hG
      have hfin3:∀(acc':List Rn) (g:Nat),acc'=G->Kg (B++[.arr g 2 (acc'.map Rn.cs)]) [.own B.length g 0 acc'.length]=some [Qe G]:=λacc' g h=>by rw[<- h];exact Qlh B acc' g
      by_cases hw0:0<w
      ·by_cases hr0:-4096<r
       ·rw[if_pos ⟨hw0,hr0⟩]at hG
        have hf3:=hfin3 _ (acc.length+1+1) hG
        rw[qw,j3]at hf3
        simp (disch:=omega) [go_sem,Qh,Qc,Qr,Qp,hw0,hr0,hta]
        refine⟨⟨by omega,by omega⟩,K7 (vs:=[Qe G]) hf3 hrc ?_⟩
        simp[go_sem,Qe,L0s.r]
       ·rw[if_neg (λh=>hr0 h.2),List.append_nil]at hG
        simp (disch:=omega) [go_sem,Qh,Qc,Qr,Qp,hw0,hr0]
        refine K7 (vs:=[Qe G]) (hfin3 _ _ hG) hrc ?_
        simp[go_sem,Qe,L0s.r]
      ·rw[if_neg (λh=>hw0 h.1),List.append_nil]at hG
       simp (disch:=omega) [go_sem,Qh,Qc,Qr,Qp,hw0]
       refine K7 (vs:=[Qe G]) (hfin3 _ _ hG) hrc ?_
       simp[go_sem,Qe,L0s.r]
     ·have hqt:q<zs.length:=by omega
      have hs1:zs[q]?=some zs[q]:=q9 hqt
      have hsB:=hyB _ (qb hs1)
      have hdc:=Qha hs1
      generalize zs[q]=s at *
      rw[hdc]at hG
      unfold J9 at hG
      have hic:(zs.map stC)[q]?=some [V.i .i64 s.1,V.i .i64 s.2]:=by rw[qp,hs1];rfl
      obtain⟨hicl,hic'⟩:=q8.1 hic
      have hta:List.take acc.length (acc.map Rn.cs)=acc.map Rn.cs:=qe (by simp)
      have hcm:=clM_if s.1
      have hcb:-4096<=clM s.1/\clM s.1<=4096:=by unfold clM;omega
      obtain⟨_,hs2⟩:=hsB
      generalize clM s.1=c at *
      have hcell:∀n,(O.arr 1 2 [[V.i .i64 s.1,V.i .i64 s.2]]).cl n:=λn el hel x hx=>by
       rw[qn.1 hel]at hx
       exact Q8q [s] n s (by simp) x hx
      by_cases hw0:0<w
      ·by_cases hr0:c<r
       ·rw[if_pos ⟨hw0,hr0⟩,<- qz]at hG
        simp (disch:=omega) [go_sem,f0,hqt,hic,hicl,hic',hcm,Qh,Qc,Qr,Qp,hw0,hr0,hta,Q3]
        refine⟨⟨by omega,by omega⟩,q+1,acc++[⟨c,r⟩],w+s.2,c,⟨by omega,hG,by omega,hcb,by simp;omega⟩,by omega,⟨by simp,rfl,rfl,by omega⟩,Qy (hBc _) ⟨.inr ⟨by simp[Rn.cs],Qbi _ _ _⟩,trivial⟩⟩
       ·rw[if_neg (λh=>hr0 h.2),List.nil_append]at hG
        simp (disch:=omega) [go_sem,f0,hqt,hic,hicl,hic',hcm,Qh,Qc,Qr,Qp,hw0,hr0,Q3]
        exact⟨q+1,acc,w+s.2,c,⟨by omega,hG,by omega,hcb,by omega⟩,by omega,⟨rfl,rfl,rfl,by omega⟩,Qy (hBc _) ⟨.inr ⟨rfl,Qbi _ _ _⟩,trivial⟩⟩
      ·rw[if_neg (λh=>hw0 h.1),List.nil_append]at hG
       simp (disch:=omega) [go_sem,f0,hqt,hic,hicl,hic',hcm,Qh,Qc,Qr,Qp,hw0,Q3]
       exact⟨q+1,acc,w+s.2,c,⟨by omega,hG,by omega,hcb,by omega⟩,by omega,⟨rfl,rfl,rfl,by omega⟩,Qy (hBc _) ⟨.inr ⟨rfl,Qbi _ _ _⟩,trivial⟩⟩
  ·have hlt:i<l.length:=by omega
   have hq:l[i]?=some l[i]:=q9 hlt
   have hSs:S (i+1)=S i++(if onE cy l[i] then [Qf5 k cy l[i]] else []):=by rw[hS,hS,Qf hq,Q1v,Qip]
   have heB:=hl l[i] (qb hq)
   generalize l[i]=e at *
   obtain⟨_,hq'⟩:=q8.1 hq
   have hce:¬ cy<e.lo.y:=λh=>hbr (.inr ⟨e,hq,h⟩)
   by_cases hhi:cy<e.hi.y
   ·rw[if_pos (by unfold onE;simp;omega)]at hSs
    have hxc:=hx e cy k heB hk (by omega) hhi
    simp (disch:=omega) [go_sem,e5V,hlt,hq,hq',E5.cs,hce,hhi]
    refine Q5 hxc ?_
    simp (disch:=omega) [go_sem,e5V,htk,Q3]
    exact⟨⟨by omega,by omega⟩,i+1,by omega,by omega,⟨by rw[hSs];simp,by omega⟩,⟨by rw[hSs];simp,by rw[hSs];simp[stC,Qf5]⟩,Q63 _ _⟩
   ·rw[if_neg (by unfold onE;simp;omega),List.append_nil]at hSs
    simp (disch:=omega) [go_sem,e5V,hlt,hq,hq',E5.cs,hce,hhi,Q3]
    exact⟨i+1,by omega,by omega,⟨by rw[hSs],by omega⟩,⟨by rw[hSs],by rw[hSs]⟩,Q63 _ _⟩
end
def hiK (m:Int) (l:List E5):Int:=l.foldl (λm e=>max m e.hi.y) m
theorem Ql9 (m:Int) (l:List E5) (e:E5):hiK m (l++[e])=max (hiK m l) e.hi.y:=by simp[hiK]
theorem Qla:∀(l:List E5) (m:Int),m<=hiK m l/\∀e∈l,e.hi.y<=hiK m l
 | [],m=>⟨Int.le_refl _,by simp⟩
 | e::l,m=>by
   obtain⟨h1,h2⟩:=Qla l (max m e.hi.y)
   have h3:hiK m (e::l)=hiK (max m e.hi.y) l:=rfl
   rw[h3]
   refine⟨by omega,λx hx=>?_⟩
   rcases List.mem_cons.1 hx with rfl | hx
   ·omega
   ·exact h2 x hx
theorem Q6z:∀(l:List E5) (m:Int),-65536<=m->m<=65536->(∀e∈l,E5B e)->-65536<=hiK m l/\hiK m l<=65536
 | [],m,h1,h2,_=>⟨h1,h2⟩
 | e::l,m,h1,h2,h3=>by
   have hb:=h3 e (by simp)
   have:=hb.d1;have:=hb.d2
   exact Q6z l (max m e.hi.y) (by omega) (by omega) λx hx=>h3 x (by simp[hx])
def Zv (l:List E5) (k:Int):Int × Int:=match l with
 | []=>(0,0)
 | e::_=>(max (-4096) (e.lo.y / k),max 0 (min 4095 (hiK e.hi.y l / k)-max (-4096) (e.lo.y / k)+1))
theorem Ib {n k:Int} (hk:PitchOk k) (h1:-65536<=n) (h2:n<=65536):-2048<=n / k/\n / k<=2048:=by
 have hp:(0:Int)<k:=by have:=hk.lo;omega
 constructor
 ·rw[Int.le_ediv_iff_mul_le hp]
  have:-2048*k<=-2048*32:=Int.mul_le_mul_of_nonpos_left (by omega) (by have:=hk.lo;omega)
  omega
 ·have:n / k<2049:=by
   rw[Int.ediv_lt_iff_lt_mul hp]
   have:2049*32<=2049*k:=jg hk.lo (by omega)
   omega
  omega
theorem Q4r {l:List E5} {k:Int} (hl:∀e∈l,E5B e) (hp:l.Pairwise λa b=>a.lo.y<=b.lo.y) (hk:PitchOk k):(-4096<=(Zv l k).1/\(Zv l k).1<=2048)/\(0<=(Zv l k).2/\(Zv l k).2<=8192)/\((Zv l k).1+(Zv l k).2<=4096) /\
  ∀y,-4096<=y->y<4096->(∃e∈l,onE (y*k+k / 2) e=true)->(Zv l k).1<=y/\y<(Zv l k).1+(Zv l k).2:=by
 have hk0:(0:Int)<k:=by have:=hk.lo;omega
 cases l with
 | nil=>unfold Zv;simp
 | cons e t =>
   have hb:=hl e (by simp)
   obtain⟨b1,b2⟩:=Q6z (e::t) e.hi.y hb.d1 hb.d2 hl
   obtain⟨g1,g2⟩:=Qla (e::t) e.hi.y
   have f1:=Ib hk hb.b1 hb.b2
   have f2:=Ib hk b1 b2
   have hpc:=(j9.1 hp).1
   unfold Zv
   simp only[]
   generalize hiK e.hi.y (e::t)=H at *
   have h3:∀y,(∃x∈e::t,onE (y*k+k / 2) x=true)->e.lo.y / k<=y/\y<=H / k:=by
    rintro y ⟨x,hx,hon⟩
    unfold onE at hon
    simp only[Bool.and_eq_true,decide_eq_true_eq]at hon
    have hlo:e.lo.y<=x.lo.y:=by
     rcases List.mem_cons.1 hx with rfl | hx
     ·exact Int.le_refl _
     ·exact hpc x hx
    have hhi:=g2 x hx
    have hm:(y+1)*k=y*k+k:=by rw[Int.add_mul];omega
    have q1:e.lo.y / k<y+1:=by
     rw[Int.ediv_lt_iff_lt_mul hk0,hm];omega
    have q2:y<=H / k:=by
     rw[Int.le_ediv_iff_mul_le hk0];omega
    omega
   refine⟨by omega,by omega,by omega,λy h1 h2 h4=>?_⟩
   have:=h3 y h4
   omega
def Qnf (P:Program) (f:FuncId):Prop:=∀(l:List E5) (k:Int),(∀e∈l,E5B e)->l.length<=4096->PitchOk k->CallIs P f [e5V l,.i .i64 k] (.t [.i .i64 (Zv l k).1,.i .i64 (Zv l k).2])
theorem mx_if (a b:Int):(if a<b then b else a)=max a b:=by split<;>omega
section
variable {P:Program} (hm:P.follows .mixedOrders=true)
include hm
theorem Q2f {f fl:FuncId} (hf:Q9 P f (L0u.c fl) L0u.r L0u.n) (hfl:Q82 P fl):Qnf P f:=by
 intro l k hl hlen hk
 refine PureC.is (Q8 hm hf (qh rfl) ?_) rfl
 unfold L0u.c
 cases l with
 | nil=>simp[go_sem,e5V,L0u.r,Zv]
 | cons e t =>
   have hb:=hl e (by simp)
   obtain⟨b1,b2⟩:=Q6z (e::t) e.hi.y hb.d1 hb.d2 hl
   have hrv:Zv (e::t) k=(max (-4096) (e.lo.y / k),max 0 (min 4095 (hiK e.hi.y (e::t) / k)-max (-4096) (e.lo.y / k)+1)):=rfl
   have h0:(e::t)[0]?=some e:=rfl
   have hbk:∀i,-65536<=hiK e.hi.y ((e::t).take i)/\hiK e.hi.y ((e::t).take i)<=65536:=λi=>Q6z _ e.hi.y hb.d1 hb.d2 λx hx=>hl x (jk hx)
   have hlp:0<(e::t).length:=by simp
   generalize hL:e::t=L at *
   obtain⟨_,h0'⟩:=q8.1 h0
   have hLn:¬ L=[]:=by rintro rfl;simp at hlp
   simp[go_sem,e5V,h0,h0',hlp,hLn,E5.cs]
   obtain⟨M,hM⟩:∃M:Nat->Int,∀i,M i=hiK e.hi.y (L.take i):=⟨_,λ_=>rfl⟩
   have hM0:M 0=e.hi.y:=by rw[hM];rfl
   refine Qj (α:=Nat) (λi=>i<=L.length)
    (λi=>⟨[(0,e5V L),(1,.i .i64 k),(6,.i .i64 (M i)),(21,e5V L),(22,.i .i64 L.length),(23,.i .i64 i)],[]⟩)
    (λi=>L.length-i) 0 (Nat.zero_le _) ?_ ?_
   ·simp[go_sem,e5V,hM0,E5.cs]
    done
   ·intro i hi
    by_cases hil:i=L.length
    ·subst hil
     have hMl:M L.length=hiK e.hi.y L:=by rw[hM,qi]
     rw[hMl]
     generalize hiK e.hi.y L=H at *
     have f1:=Ib hk hb.b1 hb.b2
     have f2:=Ib hk b1 b2
     have k1:=hk.lo
     have k2:=hk.hi
     have c1:=hfl e.lo.y k (by have:=hb.b1;omega) (by have:=hb.b2;omega) (by omega) (by omega)
     have c2:=hfl H k (by omega) (by omega) (by omega) (by omega)
     simp (disch:=omega) [go_sem,e5V,h0,h0',hlp,hLn,E5.cs]
     refine Q5 c1 ?_
     simp (disch:=omega) [go_sem,e5V,h0,h0',hlp,hLn,E5.cs]
     refine Q5 c2 ?_
     generalize e.lo.y / k=A at *
     generalize H / k=B at *
     rw[hrv]
     simp (disch:=omega) [go_sem,L0u.r,Q3]
     refine⟨?_,?_⟩<;>(repeat' split)<;>omega
    ·have hlt:i<L.length:=by omega
     have hq:L[i]?=some L[i]:=q9 hlt
     have hMs:M (i+1)=max (M i) L[i].hi.y:=by rw[hM,hM,Qf hq,Ql9]
     generalize L[i]=x at *
     obtain⟨_,hq'⟩:=q8.1 hq
     simp (disch:=omega) [go_sem,e5V,hlt,hq,hq',E5.cs,mx_if,Q3]
     exact⟨i+1,by omega,by omega,hMs.symm,by omega⟩
end
end Go.Abs
