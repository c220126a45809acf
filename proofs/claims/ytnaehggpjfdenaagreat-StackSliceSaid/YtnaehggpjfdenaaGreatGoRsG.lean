/- Part of the library on which the proof stands: an abstract machine, its values and its soundness against the model; or what functions of the program do to such values. -/
import Derived.Test.YtnaehggpjfdenaaGreatGoRsD
set_option linter.unusedVariables false
set_option linter.unusedSimpArgs false
set_option maxHeartbeats 8000000
set_option maxRecDepth 20000
namespace Go.Abs
abbrev Qtu:={ s:Int × Int // StB s }
instance:Inhabited Qtu:=⟨⟨(0,0),⟨⟨by decide,by decide⟩,by decide,by decide⟩⟩⟩
def Q9t (a b:Qtu):Int:=b.1.1-a.1.1
def stI (s:Int × Int):List Int:=[s.1,s.2]
theorem Qn7:Go.Sort.SWO (ltC Q9t) where
 irrefl x:=by unfold ltC Q9t;simp
 trans x y z:=by unfold ltC Q9t;simp only[decide_eq_true_eq];omega
 ntrans x y z:=by unfold ltC Q9t;simp only[decide_eq_false_iff_not];omega
theorem Qdt (l:List (Int × Int)) (n:Nat):∀e∈l,∀y∈stC e,y.cl n=true:=λe _ y hy=>by
 simp[stC]at hy
 rcases hy with rfl | rfl<;>rfl
theorem Qag (l:List (Int × Int)) (n:Nat):∀(el:List V) (x y:Int),(x,y)∈l->stC (x,y)=el->∀v∈el,v.cl n=true:=by
 rintro el x y h rfl
 exact Qdt l n _ h
theorem Qn3 {α:Type} {l:List α} {i:Nat} {a:α} (h:l[i]?=some a):l.drop i=a::l.drop (i+1):=by
 obtain⟨hlt,he⟩:=q8.1 h
 rw[List.drop_eq_getElem_cons hlt,he]
theorem Qrl (B:List O) (acc:List Rn) (g:Nat):Y9 (B++[.arr g 2 (acc.map Rn.cs)]) [.own B.length g 0 acc.length]=some [Qk acc]:=by
 have hd:=I5 acc
 have ht:List.take acc.length (acc.map Rn.cs)=acc.map Rn.cs:=qe (by simp)
 simp[Y9,frz,X1,Qk,Qi,ht]
 rw[if_pos hd];rfl
theorem Qgy (l:List Rn) (n g:Nat):(O.arr g 2 (l.map Rn.cs)).cl n:=λel hel x hx=>by
 obtain⟨r,hr,rfl⟩:=qo.1 hel
 exact Qe7 l n r hr x hx
theorem clM_if (x:Int):(if -4096<(if 4096<x then 4096 else x) then (if 4096<x then 4096 else x) else -4096)=clM x:=by
 unfold clM
 split<;>split<;>omega
theorem Qdo (l:List E5) (k cy:Int):(Zs l k cy).length<=l.length:=by
 unfold Zs
 rw[List.length_map]
 exact jc _ _
theorem Qoq (e:E5) (k cy:Int):Zs [e] k cy=if onE cy e then [Qko k cy e] else []:=by
 unfold Zs
 rw[List.filter_cons,List.filter_nil]
 split<;>rfl
theorem Qkn {l:List E5} {k cy:Int} (h:∀e∈l,cy<e.lo.y):Zs l k cy=[]:=by
 unfold Zs
 rw[List.filter_eq_nil_iff.2]
 ·rfl
 ·intro e he
  unfold onE
  have:=h e he
  simp;omega
theorem Qtc {l:List E5} (hp:l.Pairwise λa b=>a.lo.y<=b.lo.y) {i:Nat} {e:E5} (hi:l[i]?=some e) {cy:Int} (h:cy<e.lo.y) (k:Int):Zs l k cy=Zs (l.take i) k cy:=by
 have h1:=List.take_append_drop i l
 conv=>lhs;rw[<- h1]
 have hn:Zs (l.drop i) k cy=[]:=?_
 ·rw[Q4q,hn,List.append_nil]
 refine Qkn λx hx=>?_
 have hlt:=(q8.1 hi).1
 have h2:l.drop i=e::l.drop (i+1):=by
  rw[List.drop_eq_getElem_cons hlt,(q8.1 hi).2]
 have h3:(l.drop i).Pairwise λa b=>a.lo.y<=b.lo.y:=hp.sublist (List.drop_sublist i l)
 rw[h2]at h3 hx
 rcases List.mem_cons.1 hx with rfl | hx
 ·exact h
 ·have:=(jd.1 h3).1 x hx
  omega
def Qtw (P:Program) (f:FuncId):Prop:=∀(l:List E5) (k y:Int),(∀e∈l,E5B e)->l.Pairwise (λa b=>a.lo.y<=b.lo.y)->l.length<=4096->PitchOk k->-10000<=y->y<=10000 ->
 ∃rs:List Rn,RnsV rs/\(∀x,Qj rs x↔(-4096<=x/\x<4096)/\0<Yz (Zs l k (y*k+k / 2)) x)/\CallIs P f [e5V l,.i .i64 k,.i .i64 y] (Qk rs)
section
variable {P:Program} (hm:P.follows .mixedOrders=true)
include hm
theorem Q80 {f fe fx fs fc fn:FuncId} (hf:Q9 P f (L0t.c fe fx fs fc fn) L0t.r L0t.n) (hce:CenC P fe) (hx:Qd4 P fx) (hs:Ui P fs 2) (hc:Qu7 P fc) (hcal:Qv P fc=true) (hn:Quc P fn):Qtw P f:=by
 intro l k y hl hp hlen hk hy1 hy2
 have hcen:=hce y k hy1 hy2 hk
 have hcyb:-11000000<=y*k+k / 2/\y*k+k / 2<=11000000:=by
  have m1:=Xh (a:=y) (b:=k) (k:=10000) (m:=1024) (by omega) (by have:=hk.lo;have:=hk.hi;omega)
  have:=hk.lo;have:=hk.hi;omega
 generalize hcy:y*k+k / 2=cy at *
 have hSB:∀s∈Zs l k cy,StB s:=by
  intro s hs
  unfold Zs at hs
  obtain⟨e,he,rfl⟩:=qo.1 hs
  obtain⟨he1,he2⟩:=qu.1 he
  unfold onE at he2
  simp only[Bool.and_eq_true,decide_eq_true_eq]at he2
  have hb:=Qt7 (hl e he1) hk he2.1 he2.2
  exact⟨hb,(hl e he1).s1,(hl e he1).s2⟩
 have hsl:=Qdo l k cy
 obtain⟨ys,hperm,hup,hcall⟩:=hs (λr:Qtu=>stI r.1) (λ_=>rfl) Q9t Qn7 fc hcal (λa b=>hc a.1 b.1 a.2 b.2) ((Zs l k cy).pmap Subtype.mk hSB) (by rw[List.length_pmap];omega)
 have hxs:((Zs l k cy).pmap Subtype.mk hSB).map Subtype.val=Zs l k cy:=by rw[List.map_pmap];simp
 have hp2:=hperm.map Subtype.val
 rw[hxs]at hp2
 have hdesc:(ys.map Subtype.val).Pairwise λa b:Int × Int=>b.1<=a.1:=by
  rw[ji]
  refine hup.imp λ{a b} h=>?_
  unfold ltC Q9t at h
  simp only[decide_eq_false_iff_not]at h
  omega
 have hyB:∀s∈ys.map Subtype.val,StB s:=λs hs=>hSB s (hp2.mem_iff.1 hs)
 have hyl:(ys.map Subtype.val).length=(Zs l k cy).length:=hp2.length_eq
 have hyy:ys.map (λx:Qtu=>(stI x.1).map (V.i .i64))=(ys.map Subtype.val).map stC:=by rw[List.map_map];rfl
 have hxx:((Zs l k cy).pmap Subtype.mk hSB).map (λx:Qtu=>(stI x.1).map (V.i .i64))=(Zs l k cy).map stC:=by
  conv=>rhs;rw[<- hxs]
  rw[List.map_map];rfl
 rw[hyy,hxx]at hcall
 rw[List.length_pmap]at hcall
 generalize ys.map Subtype.val=zs at *
 clear hup hperm hxs hxx hyy
 have hG1:=λx=>Qex zs 0 4096 x hdesc (by omega) (λs _=>by unfold clM;omega)
 have hG2:=Q93 zs 0 4096 (by omega) (by omega)
 have hG3:=Q92 zs 0 4096
 obtain⟨rs,hrv,hrm,hrc⟩:=hn (Jv zs 0 4096) (by omega) (λq hq=>by have:=hG2 q hq;omega)
 refine⟨rs,hrv,λx=>?_,?_⟩
 ·rw[hrm,hG1,Q4r hp2,Int.zero_add]
 clear hrm hG1 hG2 hdesc hp2
 generalize hGG:Jv zs 0 4096=G at *
 refine PureC.is (Q6 hm hf (qh rfl) ?_) rfl
 unfold L0t.c
 simp[go_sem,e5V]
 refine Q4 hcen ?_
 simp[go_sem,e5V]
 obtain⟨S,hS⟩:∃S:Nat->List (Int × Int),∀i,S i=Zs (l.take i) k cy:=⟨_,λ_=>rfl⟩
 refine Qx [.t 8 2] (α:=Nat) (λi=>i<=l.length)
  (λi=>⟨[(1,.i .i64 k),(7,.i .i64 cy),(8,.own 0 ((S i).length+1) 0 (S i).length),(20,e5V l),(21,.i .i64 l.length),(22,.i .i64 i)],[.arr ((S i).length+1) 2 ((S i).map stC)]⟩)
  (λi=>l.length-i) 0 (Nat.zero_le _) ?_ ?_
 ·have hS0:S 0=[]:=by rw[hS];rfl
  simp[go_sem,e5V,hS0]
 ·intro i hi
  have hSi:(S i).length<=4096:=by
   have:=Qdo (l.take i) k cy
   rw[<- hS,qv]at this
   omega
  have htk:List.take (S i).length ((S i).map stC)=(S i).map stC:=qe (by simp)
  have hclS:=λn=>Qdt (S i) n
  by_cases hbr:i=l.length∨∃e,l[i]?=some e/\cy<e.lo.y
  ·have hfin:S i=Zs l k cy:=by
    rcases hbr with rfl | ⟨e,he,h⟩
    ·rw[hS,qi]
    ·rw[hS,<- Qtc hp he h]
   rw[hfin]
   rcases hbr with hil | ⟨e,hq,hce⟩
   case' inl =>
    simp[go_sem,e5V,hil]
    refine Qy (hcall _ 0 _ rfl) ?_
    simp (disch:=omega) [go_sem]
    obtain⟨B,hB⟩:∃B,B=[O.arr ((Zs l k cy).length+1) 2 (zs.map stC)]:=⟨_,rfl⟩
    have f0:∀tl,(B++tl)[0]?=some (O.arr ((Zs l k cy).length+1) 2 (zs.map stC)):=λtl=>by rw[hB];rfl
    have hBc:∀n,∀o∈B,o.cl n:=λn o ho=>by
     rw[hB]at ho
     obtain rfl:=qn.1 ho
     intro el hel x hx
     obtain⟨s,hs,rfl⟩:=qo.1 hel
     exact Qdt zs n s hs x hx
   case' inr =>
    obtain⟨hlt,hq'⟩:=q8.1 hq
    simp[go_sem,e5V,hlt,hq,hq',E5.cs,hce]
    refine Qy (hcall _ 0 _ rfl) ?_
    simp (disch:=omega) [go_sem]
    obtain⟨B,hB⟩:∃B,B=[O.arr ((Zs l k cy).length+1) 2 (zs.map stC),O.arr 1 5 [e.cs]]:=⟨_,rfl⟩
    have f0:∀tl,(B++tl)[0]?=some (O.arr ((Zs l k cy).length+1) 2 (zs.map stC)):=λtl=>by rw[hB];rfl
    have hBc:∀n,∀o∈B,o.cl n:=λn o ho=>by
     rw[hB]at ho
     simp only[List.mem_cons,List.not_mem_nil,or_false]at ho
     rcases ho with rfl | rfl
     ·intro el hel x hx
      obtain⟨s,hs,rfl⟩:=qo.1 hel
      exact Qdt zs n s hs x hx
     ·intro el hel x hx
      rw[qn.1 hel]at hx
      exact Q71 [e] n e (by simp) x hx
   all_goals
    refine Qx [.t 11 2] (α:=Nat × List Rn × Int × Int) (λp=>p.1<=zs.length/\p.2.1++Jv (zs.drop p.1) p.2.2.1 p.2.2.2=G/\(-(p.1:Int)<=p.2.2.1/\p.2.2.1<=p.1)/\(-4096<=p.2.2.2/\p.2.2.2<=4096)/\p.2.1.length<=p.1)
     (λp=>⟨[(11,.own B.length (p.2.1.length+1) 0 p.2.1.length),(12,.i .i64 p.2.2.1),(13,.i .i64 p.2.2.2),(46,.own 0 ((Zs l k cy).length+1) 0 zs.length),(47,.i .i64 zs.length),(48,.i .i64 p.1)],
      B++[.arr (p.2.1.length+1) 2 (p.2.1.map Rn.cs)]⟩)
     (λp=>zs.length-p.1) (0,[],0,4096) ⟨Nat.zero_le _,hGG,by simp,by simp,by simp⟩ ?_ ?_
    ·subst hB
     simp[go_sem,hyl]
     first
      | exact Qag _ _
      | exact⟨Qag _ _,rfl,Q71 [e] _ e (by simp)⟩
    ·rintro⟨q,acc,w,r⟩ ⟨hq,hG,hw,hr,hal⟩
     simp only at hq hG hw hr hal ⊢
     by_cases hql:q=zs.length
     ·subst hql
      rw[List.drop_length]at hG
      have hta:List.take acc.length (acc.map Rn.cs)=acc.map Rn.cs:=qe (by simp)
      have hd:=I5 acc
      unfold Jv at hG
      have hfin3:∀(acc':List Rn) (g:Nat),acc'=G->Y9 (B++[.arr g 2 (acc'.map Rn.cs)]) [.own B.length g 0 acc'.length]=some [Qk G]:=λacc' g h=>by rw[<- h];exact Qrl B acc' g
      by_cases hw0:0<w
      ·by_cases hr0:-4096<r
       ·rw[if_pos ⟨hw0,hr0⟩]at hG
        have hf3:=hfin3 _ (acc.length+1+1) hG
        rw[qx,j7]at hf3
        simp (disch:=omega) [go_sem,Qi,Qf,Qr,Qo,hw0,hr0,hta]
        refine⟨⟨by omega,by omega⟩,Y8 (vs:=[Qk G]) hf3 hrc ?_⟩
        simp[go_sem,Qk,L0t.r]
       ·rw[if_neg (λh=>hr0 h.2),List.append_nil]at hG
        simp (disch:=omega) [go_sem,Qi,Qf,Qr,Qo,hw0,hr0]
        refine Y8 (vs:=[Qk G]) (hfin3 _ _ hG) hrc ?_
        simp[go_sem,Qk,L0t.r]
      ·rw[if_neg (λh=>hw0 h.1),List.append_nil]at hG
       simp (disch:=omega) [go_sem,Qi,Qf,Qr,Qo,hw0]
       refine Y8 (vs:=[Qk G]) (hfin3 _ _ hG) hrc ?_
       simp[go_sem,Qk,L0t.r]
     ·have hqt:q<zs.length:=by omega
      have hs1:zs[q]?=some zs[q]:=q9 hqt
      have hsB:=hyB _ (qb hs1)
      have hdc:=Qn3 hs1
      generalize zs[q]=s at *
      rw[hdc]at hG
      unfold Jv at hG
      have hic:(zs.map stC)[q]?=some [V.i .i64 s.1,V.i .i64 s.2]:=by rw[qp,hs1];rfl
      obtain⟨hicl,hic'⟩:=q8.1 hic
      have hta:List.take acc.length (acc.map Rn.cs)=acc.map Rn.cs:=qe (by simp)
      have hcm:=clM_if s.1
      have hcb:-4096<=clM s.1/\clM s.1<=4096:=by unfold clM;omega
      obtain⟨_,hs2⟩:=hsB
      generalize clM s.1=c at *
      have hcell:∀n,(O.arr 1 2 [[V.i .i64 s.1,V.i .i64 s.2]]).cl n:=λn el hel x hx=>by
       rw[qn.1 hel]at hx
       exact Qdt [s] n s (by simp) x hx
      by_cases hw0:0<w
      ·by_cases hr0:c<r
       ·rw[if_pos ⟨hw0,hr0⟩,<- j6]at hG
        simp (disch:=omega) [go_sem,f0,hqt,hic,hicl,hic',hcm,Qi,Qf,Qr,Qo,hw0,hr0,hta,Q0]
        refine⟨⟨by omega,by omega⟩,q+1,acc++[⟨c,r⟩],w+s.2,c,⟨by omega,hG,by omega,hcb,by simp;omega⟩,by omega,⟨by simp,rfl,rfl,by omega⟩,Qz (hBc _) ⟨.inr ⟨by simp[Rn.cs],Qgy _ _ _⟩,trivial⟩⟩
       ·rw[if_neg (λh=>hr0 h.2),List.nil_append]at hG
        simp (disch:=omega) [go_sem,f0,hqt,hic,hicl,hic',hcm,Qi,Qf,Qr,Qo,hw0,hr0,Q0]
        exact⟨q+1,acc,w+s.2,c,⟨by omega,hG,by omega,hcb,by omega⟩,by omega,⟨rfl,rfl,rfl,by omega⟩,Qz (hBc _) ⟨.inr ⟨rfl,Qgy _ _ _⟩,trivial⟩⟩
      ·rw[if_neg (λh=>hw0 h.1),List.nil_append]at hG
       simp (disch:=omega) [go_sem,f0,hqt,hic,hicl,hic',hcm,Qi,Qf,Qr,Qo,hw0,Q0]
       exact⟨q+1,acc,w+s.2,c,⟨by omega,hG,by omega,hcb,by omega⟩,by omega,⟨rfl,rfl,rfl,by omega⟩,Qz (hBc _) ⟨.inr ⟨rfl,Qgy _ _ _⟩,trivial⟩⟩
  ·have hlt:i<l.length:=by omega
   have hq:l[i]?=some l[i]:=q9 hlt
   have hSs:S (i+1)=S i++(if onE cy l[i] then [Qko k cy l[i]] else []):=by rw[hS,hS,Qa hq,Q4q,Qoq]
   have heB:=hl l[i] (qb hq)
   generalize l[i]=e at *
   obtain⟨_,hq'⟩:=q8.1 hq
   have hce:¬ cy<e.lo.y:=λh=>hbr (.inr ⟨e,hq,h⟩)
   by_cases hhi:cy<e.hi.y
   ·rw[if_pos (by unfold onE;simp;omega)]at hSs
    have hxc:=hx e cy k heB hk (by omega) hhi
    simp (disch:=omega) [go_sem,e5V,hlt,hq,hq',E5.cs,hce,hhi]
    refine Q4 hxc ?_
    simp (disch:=omega) [go_sem,e5V,htk,Q0]
    exact⟨⟨by omega,by omega⟩,i+1,by omega,by omega,⟨by rw[hSs];simp,by omega⟩,⟨by rw[hSs];simp,by rw[hSs];simp[stC,Qko]⟩,Qag _ _⟩
   ·rw[if_neg (by unfold onE;simp;omega),List.append_nil]at hSs
    simp (disch:=omega) [go_sem,e5V,hlt,hq,hq',E5.cs,hce,hhi,Q0]
    exact⟨i+1,by omega,by omega,⟨by rw[hSs],by omega⟩,⟨by rw[hSs],by rw[hSs]⟩,Qag _ _⟩
end
def hiK (m:Int) (l:List E5):Int:=l.foldl (λm e=>max m e.hi.y) m
theorem Qrd (m:Int) (l:List E5) (e:E5):hiK m (l++[e])=max (hiK m l) e.hi.y:=by simp[hiK]
theorem Qre:∀(l:List E5) (m:Int),m<=hiK m l/\∀e∈l,e.hi.y<=hiK m l
 | [],m=>⟨Int.le_refl _,by simp⟩
 | e::l,m=>by
   obtain⟨h1,h2⟩:=Qre l (max m e.hi.y)
   have h3:hiK m (e::l)=hiK (max m e.hi.y) l:=rfl
   rw[h3]
   refine⟨by omega,λx hx=>?_⟩
   rcases List.mem_cons.1 hx with rfl | hx
   ·omega
   ·exact h2 x hx
theorem Qbt:∀(l:List E5) (m:Int),-65536<=m->m<=65536->(∀e∈l,E5B e)->-65536<=hiK m l/\hiK m l<=65536
 | [],m,h1,h2,_=>⟨h1,h2⟩
 | e::l,m,h1,h2,h3=>by
   have hb:=h3 e (by simp)
   have:=hb.d1;have:=hb.d2
   exact Qbt l (max m e.hi.y) (by omega) (by omega) λx hx=>h3 x (by simp[hx])
def Y0 (l:List E5) (k:Int):Int × Int:=match l with
 | []=>(0,0)
 | e::_=>(max (-4096) (e.lo.y / k),max 0 (min 4095 (hiK e.hi.y l / k)-max (-4096) (e.lo.y / k)+1))
theorem Q01 {n k:Int} (hk:PitchOk k) (h1:-65536<=n) (h2:n<=65536):-2048<=n / k/\n / k<=2048:=by
 have hp:(0:Int)<k:=by have:=hk.lo;omega
 constructor
 ·rw[Int.le_ediv_iff_mul_le hp]
  have:-2048*k<=-2048*32:=Int.mul_le_mul_of_nonpos_left (by omega) (by have:=hk.lo;omega)
  omega
 ·have:n / k<2049:=by
   rw[Int.ediv_lt_iff_lt_mul hp]
   have:2049*32<=2049*k:=jl hk.lo (by omega)
   omega
  omega
theorem Q91 {l:List E5} {k:Int} (hl:∀e∈l,E5B e) (hp:l.Pairwise λa b=>a.lo.y<=b.lo.y) (hk:PitchOk k):(-4096<=(Y0 l k).1/\(Y0 l k).1<=2048)/\(0<=(Y0 l k).2/\(Y0 l k).2<=8192)/\((Y0 l k).1+(Y0 l k).2<=4096) /\
  ∀y,-4096<=y->y<4096->(∃e∈l,onE (y*k+k / 2) e=true)->(Y0 l k).1<=y/\y<(Y0 l k).1+(Y0 l k).2:=by
 have hk0:(0:Int)<k:=by have:=hk.lo;omega
 cases l with
 | nil=>unfold Y0;simp
 | cons e t =>
   have hb:=hl e (by simp)
   obtain⟨b1,b2⟩:=Qbt (e::t) e.hi.y hb.d1 hb.d2 hl
   obtain⟨g1,g2⟩:=Qre (e::t) e.hi.y
   have f1:=Q01 hk hb.b1 hb.b2
   have f2:=Q01 hk b1 b2
   have hpc:=(jd.1 hp).1
   unfold Y0
   simp only[]
   generalize hiK e.hi.y (e::t)=H at *
   have h3:∀y,(∃x∈e::t,onE (y*k+k / 2) x=true)->e.lo.y / k<=y/\y<=H / k:=by
    rintro y ⟨x,hx,hon⟩
    unfold onE at hon
    simp only[Bool.and_eq_true,decide_eq_true_eq]at hon
    have hlo:e.lo.y<=x.lo.y:=by
     rcases List.mem_cons.1 hx with rfl | hx
     ·exact Int.le_refl _
     ·exact hpc x hx
    have hhi:=g2 x hx
    have hm:(y+1)*k=y*k+k:=by rw[Int.add_mul];omega
    have q1:e.lo.y / k<y+1:=by
     rw[Int.ediv_lt_iff_lt_mul hk0,hm];omega
    have q2:y<=H / k:=by
     rw[Int.le_ediv_iff_mul_le hk0];omega
    omega
   refine⟨by omega,by omega,by omega,λy h1 h2 h4=>?_⟩
   have:=h3 y h4
   omega
def Qtv (P:Program) (f:FuncId):Prop:=∀(l:List E5) (k:Int),(∀e∈l,E5B e)->l.length<=4096->PitchOk k->CallIs P f [e5V l,.i .i64 k] (.t [.i .i64 (Y0 l k).1,.i .i64 (Y0 l k).2])
theorem mx_if (a b:Int):(if a<b then b else a)=max a b:=by split<;>omega
section
variable {P:Program} (hm:P.follows .mixedOrders=true)
include hm
theorem Q5k {f fl:FuncId} (hf:Q9 P f (L0v.c fl) L0v.r L0v.n) (hfl:Qd0 P fl):Qtv P f:=by
 intro l k hl hlen hk
 refine PureC.is (Q6 hm hf (qh rfl) ?_) rfl
 unfold L0v.c
 cases l with
 | nil=>simp[go_sem,e5V,L0v.r,Y0]
 | cons e t =>
   have hb:=hl e (by simp)
   obtain⟨b1,b2⟩:=Qbt (e::t) e.hi.y hb.d1 hb.d2 hl
   have hrv:Y0 (e::t) k=(max (-4096) (e.lo.y / k),max 0 (min 4095 (hiK e.hi.y (e::t) / k)-max (-4096) (e.lo.y / k)+1)):=rfl
   have h0:(e::t)[0]?=some e:=rfl
   have hbk:∀i,-65536<=hiK e.hi.y ((e::t).take i)/\hiK e.hi.y ((e::t).take i)<=65536:=λi=>Qbt _ e.hi.y hb.d1 hb.d2 λx hx=>hl x (jo hx)
   have hlp:0<(e::t).length:=by simp
   generalize hL:e::t=L at *
   obtain⟨_,h0'⟩:=q8.1 h0
   have hLn:¬ L=[]:=by rintro rfl;simp at hlp
   simp[go_sem,e5V,h0,h0',hlp,hLn,E5.cs]
   obtain⟨M,hM⟩:∃M:Nat->Int,∀i,M i=hiK e.hi.y (L.take i):=⟨_,λ_=>rfl⟩
   have hM0:M 0=e.hi.y:=by rw[hM];rfl
   refine Qc (α:=Nat) (λi=>i<=L.length)
    (λi=>⟨[(0,e5V L),(1,.i .i64 k),(6,.i .i64 (M i)),(21,e5V L),(22,.i .i64 L.length),(23,.i .i64 i)],[]⟩)
    (λi=>L.length-i) 0 (Nat.zero_le _) ?_ ?_
   ·simp[go_sem,e5V,hM0,E5.cs]
    done
   ·intro i hi
    by_cases hil:i=L.length
    ·subst hil
     have hMl:M L.length=hiK e.hi.y L:=by rw[hM,qi]
     rw[hMl]
     generalize hiK e.hi.y L=H at *
     have f1:=Q01 hk hb.b1 hb.b2
     have f2:=Q01 hk b1 b2
     have k1:=hk.lo
     have k2:=hk.hi
     have c1:=hfl e.lo.y k (by have:=hb.b1;omega) (by have:=hb.b2;omega) (by omega) (by omega)
     have c2:=hfl H k (by omega) (by omega) (by omega) (by omega)
     simp (disch:=omega) [go_sem,e5V,h0,h0',hlp,hLn,E5.cs]
     refine Q4 c1 ?_
     simp (disch:=omega) [go_sem,e5V,h0,h0',hlp,hLn,E5.cs]
     refine Q4 c2 ?_
     generalize e.lo.y / k=A at *
     generalize H / k=B at *
     rw[hrv]
     simp (disch:=omega) [go_sem,L0v.r,Q0]
     refine⟨?_,?_⟩<;>(repeat' split)<;>omega
    ·have hlt:i<L.length:=by omega
     have hq:L[i]?=some L[i]:=q9 hlt
     have hMs:M (i+1)=max (M i) L[i].hi.y:=by rw[hM,hM,Qa hq,Qrd]
     generalize L[i]=x at *
     obtain⟨_,hq'⟩:=q8.1 hq
     simp (disch:=omega) [go_sem,e5V,hlt,hq,hq',E5.cs,mx_if,Q0]
     exact⟨i+1,by omega,by omega,hMs.symm,by omega⟩
end
def Rw.cs (w:Rw):List V:=[.i .i64 w.y,Qk w.rs]
def rgV (g:List Rw):V:=.a [.l 2 (g.map Rw.cs)]
theorem Qan (l:List Rw):∀w∈l,∀y∈w.cs,y.isD=true:=λw _ y hy=>by
 simp[Rw.cs]at hy
 rcases hy with rfl | rfl<;>rfl
theorem I4 (l:List Rw) (n:Nat):∀w∈l,∀x∈w.cs,x.cl n=true:=λw hw x hx=>Kg n (Qan l w hw x hx)
def Wk (F:Int->List Rn) (a:Int) (n:Nat):List Rw:=((List.range n).map λ(j:Nat)=>Rw.mk (a+j) (F (a+j))).filter λw=>decide (w.rs≠[])
theorem Qgv (F:Int->List Rn) (a:Int) (n:Nat):Wk F a (n+1)=Wk F a n++(if F (a+n)=[] then [] else [⟨a+n,F (a+n)⟩]):=by
 unfold Wk
 rw[List.range_succ,qx,List.filter_append]
 congr 1
 by_cases h:F (a+n)=[]
 ·simp[h]
 ·simp[h]
theorem Qlj (F:Int->List Rn) (a:Int) (n:Nat):(Wk F a n).length<=n:=by
 unfold Wk
 refine Nat.le_trans (jc _ _) ?_
 simp
theorem mem_rowsT {F:Int->List Rn} {a:Int} {n:Nat} {w:Rw}:w∈Wk F a n↔(∃j:Nat,j<n/\w=⟨a+j,F (a+j)⟩)/\w.rs≠[]:=by
 unfold Wk
 rw[qu,qo]
 simp only[qz,decide_eq_true_eq]
 constructor
 ·rintro⟨⟨j,h1,rfl⟩,h2⟩;exact⟨⟨j,h1,rfl⟩,h2⟩
 ·rintro⟨⟨j,h1,rfl⟩,h2⟩;exact⟨⟨j,h1,rfl⟩,h2⟩
theorem rowsT_v {F:Int->List Rn} {a:Int} {n:Nat} (h:∀j:Nat,j<n->RnsV (F (a+j))):RgV (Wk F a n):=by
 refine⟨λw hw=>?_,λw hw=>(mem_rowsT.1 hw).2,?_⟩
 ·obtain⟨⟨j,hj,rfl⟩,_⟩:=mem_rowsT.1 hw
  exact h j hj
 ·unfold Wk
  refine List.Pairwise.filter _ ?_
  rw[ji]
  exact List.pairwise_lt_range.imp λ{a b} h=>by simp only[];omega
theorem Qrb {F:Int->List Rn} {a:Int} {n:Nat} {y x:Int}:Xx (Wk F a n) y x↔(a<=y/\y<a+n)/\Qj (F y) x:=by
 unfold Xx
 constructor
 ·rintro⟨w,hw,rfl,hx⟩
  obtain⟨⟨j,hj,rfl⟩,_⟩:=mem_rowsT.1 hw
  exact⟨by simp only[];omega,hx⟩
 ·rintro⟨⟨h1,h2⟩,hx⟩
  refine⟨⟨y,F y⟩,mem_rowsT.2 ⟨⟨(y-a).toNat,by omega,?_⟩,?_⟩,rfl,hx⟩
  ·rw[show a+((y-a).toNat:Int)=y by omega]
  ·rintro h0
   simp only at h0
   rw[h0]at hx
   exact Qm _ hx
theorem Qkm {l l':List E5} (h:l.Perm l') (k cy:Int):(Zs l k cy).Perm (Zs l' k cy):=(h.filter _).map _
theorem Qpd {es:List Eg} {l:List E5} {k:Int} (hB:EgB es 65536) (hl:l.Perm (Kf es)) (hs:l.Pairwise λa b=>a.lo.y<=b.lo.y) (hk:PitchOk k) {F:Int->List Rn}
  (hF:∀y,-10000<=y->y<=10000->RnsV (F y)/\∀x,Qj (F y) x↔(-4096<=x/\x<4096)/\0<Yz (Zs l k (y*k+k / 2)) x):Wk F (Y0 l k).1 (Y0 l k).2.toNat=W7 es k:=by
 have hlB:∀e∈l,E5B e:=λe he=>Qhe hB (hl.mem_iff.1 he)
 obtain⟨r1,r2,r3,r4⟩:=Q91 hlB hs hk
 generalize Y0 l k=an at *
 obtain⟨a,n⟩:=an
 simp only at r1 r2 r3 r4 ⊢
 unfold W7
 refine Q1v (rowsT_v λj hj=>(hF _ (by omega) (by omega)).1) λy x=>?_
 have hsum:Yz (Zs (es.filterMap Il) k (y*k+k / 2)) x=Yz (Zs l k (y*k+k / 2)) x:=(Q4r (Qkm hl k _) x).symm
 rw[Qrb,decide_eq_true_eq,Qdc (by have:=hk.lo;omega),hsum]
 constructor
 ·rintro⟨⟨h1,h2⟩,hx⟩
  obtain⟨h3,h4⟩:=((hF y (by omega) (by omega)).2 x).1 hx
  exact⟨by omega,h3,h4⟩
 ·rintro⟨⟨h1,h2⟩,h3,h4⟩
  refine⟨?_,((hF y (by omega) (by omega)).2 x).2 ⟨h3,h4⟩⟩
  have h5:∃e∈l,onE (y*k+k / 2) e=true:=by
   refine Classical.byContradiction λhn=>?_
   have h6:Zs l k (y*k+k / 2)=[]:=by
    unfold Zs
    rw[List.filter_eq_nil_iff.2]
    ·rfl
    ·intro e he ho
     exact hn ⟨e,he,ho⟩
   rw[h6,Jk]at h4
   omega
  have:=r4 y h1 h2 h5
  omega
noncomputable def X0 (ps:List (List P2)) (k:Int):List Rw × Int:=if Za k 32 1024=false then ([],1) else (W7 (ps.flatMap Qs) k,0)
def Eb (P:Program) (f:FuncId):Prop:=∀(ps:List (List P2)) (k:Int),PolyOk ps->CallIs P f [Qb ps,.i .i64 k] (.t [rgV (X0 ps k).1,.i .i64 (X0 ps k).2])
section
variable {P:Program} (hm:P.follows .mixedOrders=true)
include hm
theorem Q10 {f fc fe fr fw:FuncId} (hf:Q9 P f (L0n.c fc fe fr fw) L0n.r L0n.n) (hc:Ec P fc) (he:Qd2 P fe) (hr:Qtv P fr) (hw:Qtw P fw):Eb P f:=by
 intro ps k hps
 have hcc:=hc ps k hps
 cases hev:Za k 32 1024 with
 | false =>
   rw[hev]at hcc
   have hR:X0 ps k=([],1):=by unfold X0;rw[if_pos hev]
   rw[hR]
   refine CallIs.res (r:=.t [.a [.nil],.i .i64 1]) ?_ (.inr ⟨_,_,rfl,rfl,.inr ⟨_,_,rfl,rfl,Le0.nil 2,trivial⟩,Le1.refl _,trivial⟩)
   refine PureC.is (Q6 hm hf (qh rfl) ?_) rfl
   unfold L0n.c
   simp[go_sem,Qb]
   refine Q4 hcc ?_
   simp[go_sem,L0n.r]
   done
 | true =>
   rw[hev]at hcc
   have hk:PitchOk k:=by
    unfold Za at hev
    simp only[Bool.and_eq_true,decide_eq_true_eq]at hev
    exact⟨hev.1.1,hev.1.2,hev.2⟩
   have hR:X0 ps k=(W7 (ps.flatMap Qs) k,0):=by unfold X0;rw[if_neg (by rw[hev];simp)]
   rw[hR]
   obtain⟨l,hl,hsl,hec⟩:=he ps hps
   have hlB:∀e∈l,E5B e:=λe he=>Qhe hps.bd (hl.mem_iff.1 he)
   have hll:l.length<=4096:=by have:=hl.length_eq;have:=Bv (ps.flatMap Qs);have:=hps.cnt;omega
   have hrc:=hr l k hlB hll hk
   have hwe:=λy h1 h2=>hw l k y hlB hsl hll hk h1 h2
   obtain⟨F,hF⟩:∃F:Int->List Rn,∀y,-10000<=y->y<=10000->RnsV (F y)/\(∀x,Qj (F y) x↔(-4096<=x/\x<4096)/\0<Yz (Zs l k (y*k+k / 2)) x)/\CallIs P fw [e5V l,.i .i64 k,.i .i64 y] (Qk (F y)):=by
    refine⟨λy=>open Classical in if h:-10000<=y/\y<=10000 then Classical.choose (hwe y h.1 h.2) else [],λy h1 h2=>?_⟩
    simp only[dif_pos (show -10000<=y/\y<=10000 from ⟨h1,h2⟩)]
    exact Classical.choose_spec (hwe y h1 h2)
   have hG:=Qpd hps.bd hl hsl hk (F:=F) λy h1 h2=>⟨(hF y h1 h2).1,(hF y h1 h2).2.1⟩
   obtain⟨r1,r2,r3,_⟩:=Q91 hlB hsl hk
   generalize Y0 l k=an at *
   obtain⟨a,n⟩:=an
   simp only at r1 r2 r3 hrc hG
   obtain⟨N,hN⟩:∃N:Nat,n=N:=⟨n.toNat,by omega⟩
   subst hN
   rw[Int.toNat_natCast]at hG
   obtain⟨T,hT⟩:∃T:Nat->List Rw,∀i,T i=Wk F a i:=⟨_,λ_=>rfl⟩
   have hT0:T 0=[]:=by rw[hT];rfl
   rw[<- hT]at hG
   refine PureC.is (Q6 hm hf (qh rfl) ?_) rfl
   unfold L0n.c
   simp[go_sem,Qb]
   refine Q4 hcc ?_
   simp[go_sem,Qb]
   refine Q4 hec ?_
   simp[go_sem]
   refine Q4 hrc ?_
   simp[go_sem]
   refine Qx [.c 1 0 0 2] (α:=Nat) (λi=>i<=N)
    (λi=>⟨[(1,.i .i64 k),(4,.p 0 1 0 0),(7,e5V l),(8,.i .i64 a),(10,.p 1 1 0 0),(28,.i .i64 N),(29,.i .i64 i)],[.arr 1 1 [[.nil]],.arr 1 1 [[.own 2 ((T i).length+1) 0 (T i).length]],.arr ((T i).length+1) 2 ((T i).map Rw.cs)]⟩)
    (λi=>N-i) 0 (Nat.zero_le _) ?_ ?_
   ·simp[go_sem,hT0,e5V]
    done
   ·intro i hi
    by_cases hil:i=N
    ·subst hil
     rw[hG]
     simp[go_sem,L0n.r]
     rw[if_pos (Qan _)];rfl
    ·have hlt:i<N:=by omega
     have hTs:T (i+1)=T i++(if F (a+i)=[] then [] else [⟨a+i,F (a+i)⟩]):=by rw[hT,Qgv,<- hT]
     have hTl:(T i).length<=i:=by rw[hT];exact Qlj F a i
     obtain⟨_,_,hFc⟩:=hF (a+i) (by omega) (by omega)
     generalize F (a+i)=rs at *
     have htk:List.take (T i).length ((T i).map Rw.cs)=(T i).map Rw.cs:=qe (by simp)
     simp (disch:=omega) [go_sem,hlt,Q0]
     refine Q4 hFc ?_
     by_cases hrs:rs=[]
     ·rw[if_pos hrs,List.append_nil]at hTs
      simp (disch:=omega) [go_sem,Qk,hrs,Q0]
      exact⟨i+1,by omega,by omega,⟨.inr rfl,by omega⟩,by rw[hTs],⟨by rw[hTs],by rw[hTs]⟩,I4 _ _⟩
     ·rw[if_neg hrs]at hTs
      have hrl:0<rs.length:=by cases rs with | nil=>exact absurd rfl hrs | cons a b=>simp
      simp (disch:=omega) [go_sem,Qk,hrl,htk,Q0]
      exact⟨⟨by omega,by omega⟩,i+1,by omega,by omega,⟨.inr rfl,by omega⟩,by rw[hTs];simp,⟨by rw[hTs];simp,by rw[hTs];simp[Rw.cs,Qk]⟩,I4 _ _⟩
end
end Go.Abs
