/- Part of the library on which the proof stands: an abstract machine, its values and its soundness against the model; or what functions of the program do to such values. -/
import Derived.Test.YtnaehggpjfdenaaGreatGoRsD
import Derived.Test.YtnaehggpjfdenaaGreatGoShpD
import Derived.Test.YtnaehggpjfdenaaGreatGoSecF
import Derived.Test.YtnaehggpjfdenaaGreatAbsCP
import Derived.Test.YtnaehggpjfdenaaGreatGoTo
set_option linter.unusedVariables false
set_option linter.unusedSimpArgs false
set_option maxHeartbeats 8000000
set_option maxRecDepth 20000
namespace Go.Abs
abbrev Qpf:={ s:Int × Int // StB s }
instance:Inhabited Qpf:=⟨⟨(0,0),⟨⟨by decide,by decide⟩,by decide,by decide⟩⟩⟩
def Q6n (a b:Qpf):Int:=b.1.1-a.1.1
def stI (s:Int × Int):List Int:=[s.1,s.2]
theorem Qj6:Go.Sort.SWO (ltC Q6n) where
 irrefl x:=by unfold ltC Q6n;simp
 trans x y z:=by unfold ltC Q6n;simp only[decide_eq_true_eq];omega
 ntrans x y z:=by unfold ltC Q6n;simp only[decide_eq_false_iff_not];omega
theorem Qab (l:List (Int × Int)) (n:Nat):∀e∈l,∀y∈stC e,y.cl n=true:=λe _ y hy=>by
 simp[stC]at hy
 rcases hy with rfl | rfl<;>rfl
theorem Q78 (l:List (Int × Int)) (n:Nat):∀(el:List V) (x y:Int),(x,y)∈l->stC (x,y)=el->∀v∈el,v.cl n=true:=by
 rintro el x y h rfl
 exact Qab l n _ h
theorem Qj3 {α:Type} {l:List α} {i:Nat} {a:α} (h:l[i]?=some a):l.drop i=a::l.drop (i+1):=by
 obtain⟨hlt,he⟩:=q8.1 h
 rw[List.drop_eq_getElem_cons hlt,he]
theorem Qng (B:List O) (acc:List Rn) (g:Nat):X5 (B++[.arr g 2 (acc.map Rn.cs)]) [.own B.length g 0 acc.length]=some [Qj acc]:=by
 have hd:=Br acc
 have ht:List.take acc.length (acc.map Rn.cs)=acc.map Rn.cs:=qe (by simp)
 simp[X5,frz,X6,Qj,Qg,ht]
 rw[if_pos hd];rfl
theorem Qda (l:List Rn) (n g:Nat):(O.arr g 2 (l.map Rn.cs)).cl n:=λel hel x hx=>by
 obtain⟨r,hr,rfl⟩:=qo.1 hel
 exact Qan l n r hr x hx
theorem clM_if (x:Int):(if -4096<(if 4096<x then 4096 else x) then (if 4096<x then 4096 else x) else -4096)=clM x:=by
 unfold clM
 split<;>split<;>omega
theorem Qa6 (l:List E5) (k cy:Int):(Zp l k cy).length<=l.length:=by
 unfold Zp
 rw[List.length_map]
 exact j8 _ _
theorem Qkn (e:E5) (k cy:Int):Zp [e] k cy=if onE cy e then [Qgw k cy e] else []:=by
 unfold Zp
 rw[List.filter_cons,List.filter_nil]
 split<;>rfl
theorem Qgv {l:List E5} {k cy:Int} (h:∀e∈l,cy<e.lo.y):Zp l k cy=[]:=by
 unfold Zp
 rw[List.filter_eq_nil_iff.2]
 ·rfl
 ·intro e he
  unfold onE
  have:=h e he
  simp;omega
theorem Qoz {l:List E5} (hp:l.Pairwise λa b=>a.lo.y<=b.lo.y) {i:Nat} {e:E5} (hi:l[i]?=some e) {cy:Int} (h:cy<e.lo.y) (k:Int):Zp l k cy=Zp (l.take i) k cy:=by
 have h1:=List.take_append_drop i l
 conv=>lhs;rw[<- h1]
 have hn:Zp (l.drop i) k cy=[]:=?_
 ·rw[Q2r,hn,List.append_nil]
 refine Qgv λx hx=>?_
 have hlt:=(q8.1 hi).1
 have h2:l.drop i=e::l.drop (i+1):=by
  rw[List.drop_eq_getElem_cons hlt,(q8.1 hi).2]
 have h3:(l.drop i).Pairwise λa b=>a.lo.y<=b.lo.y:=hp.sublist (List.drop_sublist i l)
 rw[h2]at h3 hx
 rcases List.mem_cons.1 hx with rfl | hx
 ·exact h
 ·have:=(j9.1 h3).1 x hx
  omega
def Qph (P:Program) (f:FuncId):Prop:=∀(l:List E5) (k y:Int),(∀e∈l,E5B e)->l.Pairwise (λa b=>a.lo.y<=b.lo.y)->l.length<=4096->PitchOk k->-10000<=y->y<=10000 ->
 ∃rs:List Rn,RnsV rs/\(∀x,Qf rs x↔(-4096<=x/\x<4096)/\0<Yp (Zp l k (y*k+k / 2)) x)/\CallIs P f [e5V l,.i .i64 k,.i .i64 y] (Qj rs)
section
variable {P:Program} (hm:P.follows .mixedOrders=true)
include hm
theorem Q52 {f fe fx fs fc fn:FuncId} (hf:Q9 P f (L0r.c fe fx fs fc fn) L0r.r L0r.n) (hce:CenC P fe) (hx:Q9m P fx) (hs:Wn P fs 2) (hc:Qpr P fc) (hcal:Qq P fc=true) (hn:Qpw P fn):Qph P f:=by
 intro l k y hl hp hlen hk hy1 hy2
 have hcen:=hce y k hy1 hy2 hk
 have hcyb:-11000000<=y*k+k / 2/\y*k+k / 2<=11000000:=by
  have m1:=Q06 (a:=y) (b:=k) (k:=10000) (m:=1024) (by omega) (by have:=hk.lo;have:=hk.hi;omega)
  have:=hk.lo;have:=hk.hi;omega
 generalize hcy:y*k+k / 2=cy at *
 have hSB:∀s∈Zp l k cy,StB s:=by
  intro s hs
  unfold Zp at hs
  obtain⟨e,he,rfl⟩:=qo.1 hs
  obtain⟨he1,he2⟩:=qu.1 he
  unfold onE at he2
  simp only[Bool.and_eq_true,decide_eq_true_eq]at he2
  have hb:=Qov (hl e he1) hk he2.1 he2.2
  exact⟨hb,(hl e he1).s1,(hl e he1).s2⟩
 have hsl:=Qa6 l k cy
 obtain⟨ys,hperm,hup,hcall⟩:=hs (λr:Qpf=>stI r.1) (λ_=>rfl) Q6n Qj6 fc hcal (λa b=>hc a.1 b.1 a.2 b.2) ((Zp l k cy).pmap Subtype.mk hSB) (by rw[List.length_pmap];omega)
 have hxs:((Zp l k cy).pmap Subtype.mk hSB).map Subtype.val=Zp l k cy:=by rw[List.map_pmap];simp
 have hp2:=hperm.map Subtype.val
 rw[hxs]at hp2
 have hdesc:(ys.map Subtype.val).Pairwise λa b:Int × Int=>b.1<=a.1:=by
  rw[jd]
  refine hup.imp λ{a b} h=>?_
  unfold ltC Q6n at h
  simp only[decide_eq_false_iff_not]at h
  omega
 have hyB:∀s∈ys.map Subtype.val,StB s:=λs hs=>hSB s (hp2.mem_iff.1 hs)
 have hyl:(ys.map Subtype.val).length=(Zp l k cy).length:=hp2.length_eq
 have hyy:ys.map (λx:Qpf=>(stI x.1).map (V.i .i64))=(ys.map Subtype.val).map stC:=by rw[List.map_map];rfl
 have hxx:((Zp l k cy).pmap Subtype.mk hSB).map (λx:Qpf=>(stI x.1).map (V.i .i64))=(Zp l k cy).map stC:=by
  conv=>rhs;rw[<- hxs]
  rw[List.map_map];rfl
 rw[hyy,hxx]at hcall
 rw[List.length_pmap]at hcall
 generalize ys.map Subtype.val=zs at *
 clear hup hperm hxs hxx hyy
 have hG1:=λx=>Qbb zs 0 4096 x hdesc (by omega) (λs _=>by unfold clM;omega)
 have hG2:=Q63 zs 0 4096 (by omega) (by omega)
 have hG3:=Q62 zs 0 4096
 obtain⟨rs,hrv,hrm,hrc⟩:=hn (Jb zs 0 4096) (by omega) (λq hq=>by have:=hG2 q hq;omega)
 refine⟨rs,hrv,λx=>?_,?_⟩
 ·rw[hrm,hG1,Q2t hp2,Int.zero_add]
 clear hrm hG1 hG2 hdesc hp2
 generalize hGG:Jb zs 0 4096=G at *
 refine PureC.is (Q8 hm hf (qh rfl) ?_) rfl
 unfold L0r.c
 simp[go_sem,e5V]
 refine Q5 hcen ?_
 simp[go_sem,e5V]
 obtain⟨S,hS⟩:∃S:Nat->List (Int × Int),∀i,S i=Zp (l.take i) k cy:=⟨_,λ_=>rfl⟩
 refine Qz [.t 8 2] (α:=Nat) (λi=>i<=l.length)
  (λi=>⟨[(1,.i .i64 k),(7,.i .i64 cy),(8,.own 0 ((S i).length+1) 0 (S i).length),(20,e5V l),(21,.i .i64 l.length),(22,.i .i64 i)],[.arr ((S i).length+1) 2 ((S i).map stC)]⟩)
  (λi=>l.length-i) 0 (Nat.zero_le _) ?_ ?_
 ·have hS0:S 0=[]:=by rw[hS];rfl
  simp[go_sem,e5V,hS0]
 ·intro i hi
  have hSi:(S i).length<=4096:=by
   have:=Qa6 (l.take i) k cy
   rw[<- hS,qv]at this
   omega
  have htk:List.take (S i).length ((S i).map stC)=(S i).map stC:=qe (by simp)
  have hclS:=λn=>Qab (S i) n
  by_cases hbr:i=l.length∨∃e,l[i]?=some e/\cy<e.lo.y
  ·have hfin:S i=Zp l k cy:=by
    rcases hbr with rfl | ⟨e,he,h⟩
    ·rw[hS,qi]
    ·rw[hS,<- Qoz hp he h]
   rw[hfin]
   rcases hbr with hil | ⟨e,hq,hce⟩
   case' inl =>
    simp[go_sem,e5V,hil]
    refine Qr (hcall _ 0 _ rfl) ?_
    simp (disch:=omega) [go_sem]
    obtain⟨B,hB⟩:∃B,B=[O.arr ((Zp l k cy).length+1) 2 (zs.map stC)]:=⟨_,rfl⟩
    have f0:∀tl,(B++tl)[0]?=some (O.arr ((Zp l k cy).length+1) 2 (zs.map stC)):=λtl=>by rw[hB];rfl
    have hBc:∀n,∀o∈B,o.cl n:=λn o ho=>by
     rw[hB]at ho
     obtain rfl:=qn.1 ho
     intro el hel x hx
     obtain⟨s,hs,rfl⟩:=qo.1 hel
     exact Qab zs n s hs x hx
   case' inr =>
    obtain⟨hlt,hq'⟩:=q8.1 hq
    simp[go_sem,e5V,hlt,hq,hq',E5.cs,hce]
    refine Qr (hcall _ 0 _ rfl) ?_
    simp (disch:=omega) [go_sem]
    obtain⟨B,hB⟩:∃B,B=[O.arr ((Zp l k cy).length+1) 2 (zs.map stC),O.arr 1 5 [e.cs]]:=⟨_,rfl⟩
    have f0:∀tl,(B++tl)[0]?=some (O.arr ((Zp l k cy).length+1) 2 (zs.map stC)):=λtl=>by rw[hB];rfl
    have hBc:∀n,∀o∈B,o.cl n:=λn o ho=>by
     rw[hB]at ho
     simp only[List.mem_cons,List.not_mem_nil,or_false]at ho
     rcases ho with rfl | rfl
     ·intro el hel x hx
      obtain⟨s,hs,rfl⟩:=qo.1 hel
      exact Qab zs n s hs x hx
     ·intro el hel x hx
      rw[qn.1 hel]at hx
      exact Q48 [e] n e (by simp) x hx
   all_goals
    refine Qz [.t 11 2] (α:=Nat × List Rn × Int × Int) (λp=>p.1<=zs.length/\p.2.1++Jb (zs.drop p.1) p.2.2.1 p.2.2.2=G/\(-(p.1:Int)<=p.2.2.1/\p.2.2.1<=p.1)/\(-4096<=p.2.2.2/\p.2.2.2<=4096)/\p.2.1.length<=p.1)
     (λp=>⟨[(11,.own B.length (p.2.1.length+1) 0 p.2.1.length),(12,.i .i64 p.2.2.1),(13,.i .i64 p.2.2.2),(46,.own 0 ((Zp l k cy).length+1) 0 zs.length),(47,.i .i64 zs.length),(48,.i .i64 p.1)],
      B++[.arr (p.2.1.length+1) 2 (p.2.1.map Rn.cs)]⟩)
     (λp=>zs.length-p.1) (0,[],0,4096) ⟨Nat.zero_le _,hGG,by simp,by simp,by simp⟩ ?_ ?_
    ·subst hB
     simp[go_sem,hyl]
     first
      | exact Q78 _ _
      | exact⟨Q78 _ _,rfl,Q48 [e] _ e (by simp)⟩
    ·rintro⟨q,acc,w,r⟩ ⟨hq,hG,hw,hr,hal⟩
     simp only at hq hG hw hr hal ⊢
     by_cases hql:q=zs.length
     ·subst hql
      rw[List.drop_length]at hG
      have hta:List.take acc.length (acc.map Rn.cs)=acc.map Rn.cs:=qe (by simp)
      have hd:=Br acc
      unfold Jb at hG
      have hfin3:∀(acc':List Rn) (g:Nat),acc'=G->X5 (B++[.arr g 2 (acc'.map Rn.cs)]) [.own B.length g 0 acc'.length]=some [Qj G]:=λacc' g h=>by rw[<- h];exact Qng B acc' g
      by_cases hw0:0<w
      ·by_cases hr0:-4096<r
       ·rw[if_pos ⟨hw0,hr0⟩]at hG
        have hf3:=hfin3 _ (acc.length+1+1) hG
        rw[qw,j3]at hf3
        simp (disch:=omega) [go_sem,Qg,Qd,Qt,Qn,hw0,hr0,hta]
        refine⟨⟨by omega,by omega⟩,Ya (vs:=[Qj G]) hf3 hrc ?_⟩
        simp[go_sem,Qj,L0r.r]
       ·rw[if_neg (λh=>hr0 h.2),List.append_nil]at hG
        simp (disch:=omega) [go_sem,Qg,Qd,Qt,Qn,hw0,hr0]
        refine Ya (vs:=[Qj G]) (hfin3 _ _ hG) hrc ?_
        simp[go_sem,Qj,L0r.r]
      ·rw[if_neg (λh=>hw0 h.1),List.append_nil]at hG
       simp (disch:=omega) [go_sem,Qg,Qd,Qt,Qn,hw0]
       refine Ya (vs:=[Qj G]) (hfin3 _ _ hG) hrc ?_
       simp[go_sem,Qj,L0r.r]
     ·have hqt:q<zs.length:=by omega
      have hs1:zs[q]?=some zs[q]:=q9 hqt
      have hsB:=hyB _ (qb hs1)
      have hdc:=Qj3 hs1
      generalize zs[q]=s at *
      rw[hdc]at hG
      unfold Jb at hG
      have hic:(zs.map stC)[q]?=some [V.i .i64 s.1,V.i .i64 s.2]:=by rw[qp,hs1];rfl
      obtain⟨hicl,hic'⟩:=q8.1 hic
      have hta:List.take acc.length (acc.map Rn.cs)=acc.map Rn.cs:=qe (by simp)
      have hcm:=clM_if s.1
      have hcb:-4096<=clM s.1/\clM s.1<=4096:=by unfold clM;omega
      obtain⟨_,hs2⟩:=hsB
      generalize clM s.1=c at *
      have hcell:∀n,(O.arr 1 2 [[V.i .i64 s.1,V.i .i64 s.2]]).cl n:=λn el hel x hx=>by
       rw[qn.1 hel]at hx
       exact Qab [s] n s (by simp) x hx
      by_cases hw0:0<w
      ·by_cases hr0:c<r
       ·rw[if_pos ⟨hw0,hr0⟩,<- qz]at hG
        simp (disch:=omega) [go_sem,f0,hqt,hic,hicl,hic',hcm,Qg,Qd,Qt,Qn,hw0,hr0,hta,Q3]
        refine⟨⟨by omega,by omega⟩,q+1,acc++[⟨c,r⟩],w+s.2,c,⟨by omega,hG,by omega,hcb,by simp;omega⟩,by omega,⟨by simp,rfl,rfl,by omega⟩,Qy (hBc _) ⟨.inr ⟨by simp[Rn.cs],Qda _ _ _⟩,trivial⟩⟩
       ·rw[if_neg (λh=>hr0 h.2),List.nil_append]at hG
        simp (disch:=omega) [go_sem,f0,hqt,hic,hicl,hic',hcm,Qg,Qd,Qt,Qn,hw0,hr0,Q3]
        exact⟨q+1,acc,w+s.2,c,⟨by omega,hG,by omega,hcb,by omega⟩,by omega,⟨rfl,rfl,rfl,by omega⟩,Qy (hBc _) ⟨.inr ⟨rfl,Qda _ _ _⟩,trivial⟩⟩
      ·rw[if_neg (λh=>hw0 h.1),List.nil_append]at hG
       simp (disch:=omega) [go_sem,f0,hqt,hic,hicl,hic',hcm,Qg,Qd,Qt,Qn,hw0,Q3]
       exact⟨q+1,acc,w+s.2,c,⟨by omega,hG,by omega,hcb,by omega⟩,by omega,⟨rfl,rfl,rfl,by omega⟩,Qy (hBc _) ⟨.inr ⟨rfl,Qda _ _ _⟩,trivial⟩⟩
  ·have hlt:i<l.length:=by omega
   have hq:l[i]?=some l[i]:=q9 hlt
   have hSs:S (i+1)=S i++(if onE cy l[i] then [Qgw k cy l[i]] else []):=by rw[hS,hS,Qc hq,Q2r,Qkn]
   have heB:=hl l[i] (qb hq)
   generalize l[i]=e at *
   obtain⟨_,hq'⟩:=q8.1 hq
   have hce:¬ cy<e.lo.y:=λh=>hbr (.inr ⟨e,hq,h⟩)
   by_cases hhi:cy<e.hi.y
   ·rw[if_pos (by unfold onE;simp;omega)]at hSs
    have hxc:=hx e cy k heB hk (by omega) hhi
    simp (disch:=omega) [go_sem,e5V,hlt,hq,hq',E5.cs,hce,hhi]
    refine Q5 hxc ?_
    simp (disch:=omega) [go_sem,e5V,htk,Q3]
    exact⟨⟨by omega,by omega⟩,i+1,by omega,by omega,⟨by rw[hSs];simp,by omega⟩,⟨by rw[hSs];simp,by rw[hSs];simp[stC,Qgw]⟩,Q78 _ _⟩
   ·rw[if_neg (by unfold onE;simp;omega),List.append_nil]at hSs
    simp (disch:=omega) [go_sem,e5V,hlt,hq,hq',E5.cs,hce,hhi,Q3]
    exact⟨i+1,by omega,by omega,⟨by rw[hSs],by omega⟩,⟨by rw[hSs],by rw[hSs]⟩,Q78 _ _⟩
end
def hiK (m:Int) (l:List E5):Int:=l.foldl (λm e=>max m e.hi.y) m
theorem Qn7 (m:Int) (l:List E5) (e:E5):hiK m (l++[e])=max (hiK m l) e.hi.y:=by simp[hiK]
theorem Qn8:∀(l:List E5) (m:Int),m<=hiK m l/\∀e∈l,e.hi.y<=hiK m l
 | [],m=>⟨Int.le_refl _,by simp⟩
 | e::l,m=>by
   obtain⟨h1,h2⟩:=Qn8 l (max m e.hi.y)
   have h3:hiK m (e::l)=hiK (max m e.hi.y) l:=rfl
   rw[h3]
   refine⟨by omega,λx hx=>?_⟩
   rcases List.mem_cons.1 hx with rfl | hx
   ·omega
   ·exact h2 x hx
theorem Q8a:∀(l:List E5) (m:Int),-65536<=m->m<=65536->(∀e∈l,E5B e)->-65536<=hiK m l/\hiK m l<=65536
 | [],m,h1,h2,_=>⟨h1,h2⟩
 | e::l,m,h1,h2,h3=>by
   have hb:=h3 e (by simp)
   have:=hb.d1;have:=hb.d2
   exact Q8a l (max m e.hi.y) (by omega) (by omega) λx hx=>h3 x (by simp[hx])
def Zw (l:List E5) (k:Int):Int × Int:=match l with
 | []=>(0,0)
 | e::_=>(max (-4096) (e.lo.y / k),max 0 (min 4095 (hiK e.hi.y l / k)-max (-4096) (e.lo.y / k)+1))
theorem Iy {n k:Int} (hk:PitchOk k) (h1:-65536<=n) (h2:n<=65536):-2048<=n / k/\n / k<=2048:=by
 have hp:(0:Int)<k:=by have:=hk.lo;omega
 constructor
 ·rw[Int.le_ediv_iff_mul_le hp]
  have:-2048*k<=-2048*32:=Int.mul_le_mul_of_nonpos_left (by omega) (by have:=hk.lo;omega)
  omega
 ·have:n / k<2049:=by
   rw[Int.ediv_lt_iff_lt_mul hp]
   have:2049*32<=2049*k:=jf hk.lo (by omega)
   omega
  omega
theorem Q61 {l:List E5} {k:Int} (hl:∀e∈l,E5B e) (hp:l.Pairwise λa b=>a.lo.y<=b.lo.y) (hk:PitchOk k):(-4096<=(Zw l k).1/\(Zw l k).1<=2048)/\(0<=(Zw l k).2/\(Zw l k).2<=8192)/\((Zw l k).1+(Zw l k).2<=4096) /\
  ∀y,-4096<=y->y<4096->(∃e∈l,onE (y*k+k / 2) e=true)->(Zw l k).1<=y/\y<(Zw l k).1+(Zw l k).2:=by
 have hk0:(0:Int)<k:=by have:=hk.lo;omega
 cases l with
 | nil=>unfold Zw;simp
 | cons e t =>
   have hb:=hl e (by simp)
   obtain⟨b1,b2⟩:=Q8a (e::t) e.hi.y hb.d1 hb.d2 hl
   obtain⟨g1,g2⟩:=Qn8 (e::t) e.hi.y
   have f1:=Iy hk hb.b1 hb.b2
   have f2:=Iy hk b1 b2
   have hpc:=(j9.1 hp).1
   unfold Zw
   simp only[]
   generalize hiK e.hi.y (e::t)=H at *
   have h3:∀y,(∃x∈e::t,onE (y*k+k / 2) x=true)->e.lo.y / k<=y/\y<=H / k:=by
    rintro y ⟨x,hx,hon⟩
    unfold onE at hon
    simp only[Bool.and_eq_true,decide_eq_true_eq]at hon
    have hlo:e.lo.y<=x.lo.y:=by
     rcases List.mem_cons.1 hx with rfl | hx
     ·exact Int.le_refl _
     ·exact hpc x hx
    have hhi:=g2 x hx
    have hm:(y+1)*k=y*k+k:=by rw[Int.add_mul];omega
    have q1:e.lo.y / k<y+1:=by
     rw[Int.ediv_lt_iff_lt_mul hk0,hm];omega
    have q2:y<=H / k:=by
     rw[Int.le_ediv_iff_mul_le hk0];omega
    omega
   refine⟨by omega,by omega,by omega,λy h1 h2 h4=>?_⟩
   have:=h3 y h4
   omega
def Qpg (P:Program) (f:FuncId):Prop:=∀(l:List E5) (k:Int),(∀e∈l,E5B e)->l.length<=4096->PitchOk k->CallIs P f [e5V l,.i .i64 k] (.t [.i .i64 (Zw l k).1,.i .i64 (Zw l k).2])
theorem mx_if (a b:Int):(if a<b then b else a)=max a b:=by split<;>omega
section
variable {P:Program} (hm:P.follows .mixedOrders=true)
include hm
theorem Q37 {f fl:FuncId} (hf:Q9 P f (L0t.c fl) L0t.r L0t.n) (hfl:Q9h P fl):Qpg P f:=by
 intro l k hl hlen hk
 refine PureC.is (Q8 hm hf (qh rfl) ?_) rfl
 unfold L0t.c
 cases l with
 | nil=>simp[go_sem,e5V,L0t.r,Zw]
 | cons e t =>
   have hb:=hl e (by simp)
   obtain⟨b1,b2⟩:=Q8a (e::t) e.hi.y hb.d1 hb.d2 hl
   have hrv:Zw (e::t) k=(max (-4096) (e.lo.y / k),max 0 (min 4095 (hiK e.hi.y (e::t) / k)-max (-4096) (e.lo.y / k)+1)):=rfl
   have h0:(e::t)[0]?=some e:=rfl
   have hbk:∀i,-65536<=hiK e.hi.y ((e::t).take i)/\hiK e.hi.y ((e::t).take i)<=65536:=λi=>Q8a _ e.hi.y hb.d1 hb.d2 λx hx=>hl x (List.mem_of_mem_take hx)
   have hlp:0<(e::t).length:=by simp
   generalize hL:e::t=L at *
   obtain⟨_,h0'⟩:=q8.1 h0
   have hLn:¬ L=[]:=by rintro rfl;simp at hlp
   simp[go_sem,e5V,h0,h0',hlp,hLn,E5.cs]
   obtain⟨M,hM⟩:∃M:Nat->Int,∀i,M i=hiK e.hi.y (L.take i):=⟨_,λ_=>rfl⟩
   have hM0:M 0=e.hi.y:=by rw[hM];rfl
   refine Qh (α:=Nat) (λi=>i<=L.length)
    (λi=>⟨[(0,e5V L),(1,.i .i64 k),(6,.i .i64 (M i)),(21,e5V L),(22,.i .i64 L.length),(23,.i .i64 i)],[]⟩)
    (λi=>L.length-i) 0 (Nat.zero_le _) ?_ ?_
   ·simp[go_sem,e5V,hM0,E5.cs]
    done
   ·intro i hi
    by_cases hil:i=L.length
    ·subst hil
     have hMl:M L.length=hiK e.hi.y L:=by rw[hM,qi]
     rw[hMl]
     generalize hiK e.hi.y L=H at *
     have f1:=Iy hk hb.b1 hb.b2
     have f2:=Iy hk b1 b2
     have k1:=hk.lo
     have k2:=hk.hi
     have c1:=hfl e.lo.y k (by have:=hb.b1;omega) (by have:=hb.b2;omega) (by omega) (by omega)
     have c2:=hfl H k (by omega) (by omega) (by omega) (by omega)
     simp (disch:=omega) [go_sem,e5V,h0,h0',hlp,hLn,E5.cs]
     refine Q5 c1 ?_
     simp (disch:=omega) [go_sem,e5V,h0,h0',hlp,hLn,E5.cs]
     refine Q5 c2 ?_
     generalize e.lo.y / k=A at *
     generalize H / k=B at *
     rw[hrv]
     simp (disch:=omega) [go_sem,L0t.r,Q3]
     refine⟨?_,?_⟩<;>(repeat' split)<;>omega
    ·have hlt:i<L.length:=by omega
     have hq:L[i]?=some L[i]:=q9 hlt
     have hMs:M (i+1)=max (M i) L[i].hi.y:=by rw[hM,hM,Qc hq,Qn7]
     generalize L[i]=x at *
     obtain⟨_,hq'⟩:=q8.1 hq
     simp (disch:=omega) [go_sem,e5V,hlt,hq,hq',E5.cs,mx_if,Q3]
     exact⟨i+1,by omega,by omega,hMs.symm,by omega⟩
end
def Rw.cs (w:Rw):List V:=[.i .i64 w.y,Qj w.rs]
def rgV (g:List Rw):V:=.a [.l 2 (g.map Rw.cs)]
theorem Qd7 (l:List Rw):∀w∈l,∀y∈w.cs,y.isD=true:=λw _ y hy=>by
 simp[Rw.cs]at hy
 rcases hy with rfl | rfl<;>rfl
theorem Q7f (l:List Rw) (n:Nat):∀w∈l,∀x∈w.cs,x.cl n=true:=λw hw x hx=>Kk n (Qd7 l w hw x hx)
def Kt (F:Int->List Rn) (a:Int) (n:Nat):List Rw:=((List.range n).map λ(j:Nat)=>Rw.mk (a+j) (F (a+j))).filter λw=>decide (w.rs≠[])
theorem Qd8 (F:Int->List Rn) (a:Int) (n:Nat):Kt F a (n+1)=Kt F a n++(if F (a+n)=[] then [] else [⟨a+n,F (a+n)⟩]):=by
 unfold Kt
 rw[List.range_succ,qw,List.filter_append]
 congr 1
 by_cases h:F (a+n)=[]
 ·simp[h]
 ·simp[h]
theorem Qhs (F:Int->List Rn) (a:Int) (n:Nat):(Kt F a n).length<=n:=by
 unfold Kt
 refine Nat.le_trans (j8 _ _) ?_
 simp
theorem mem_rowsT {F:Int->List Rn} {a:Int} {n:Nat} {w:Rw}:w∈Kt F a n↔(∃j:Nat,j<n/\w=⟨a+j,F (a+j)⟩)/\w.rs≠[]:=by
 unfold Kt
 rw[qu,qo]
 simp only[qy,decide_eq_true_eq]
 constructor
 ·rintro⟨⟨j,h1,rfl⟩,h2⟩;exact⟨⟨j,h1,rfl⟩,h2⟩
 ·rintro⟨⟨j,h1,rfl⟩,h2⟩;exact⟨⟨j,h1,rfl⟩,h2⟩
theorem rowsT_v {F:Int->List Rn} {a:Int} {n:Nat} (h:∀j:Nat,j<n->RnsV (F (a+j))):RgV (Kt F a n):=by
 refine⟨λw hw=>?_,λw hw=>(mem_rowsT.1 hw).2,?_⟩
 ·obtain⟨⟨j,hj,rfl⟩,_⟩:=mem_rowsT.1 hw
  exact h j hj
 ·unfold Kt
  refine List.Pairwise.filter _ ?_
  rw[jd]
  exact List.pairwise_lt_range.imp λ{a b} h=>by simp only[];omega
theorem Qn6 {F:Int->List Rn} {a:Int} {n:Nat} {y x:Int}:Wb (Kt F a n) y x↔(a<=y/\y<a+n)/\Qf (F y) x:=by
 unfold Wb
 constructor
 ·rintro⟨w,hw,rfl,hx⟩
  obtain⟨⟨j,hj,rfl⟩,_⟩:=mem_rowsT.1 hw
  exact⟨by simp only[];omega,hx⟩
 ·rintro⟨⟨h1,h2⟩,hx⟩
  refine⟨⟨y,F y⟩,mem_rowsT.2 ⟨⟨(y-a).toNat,by omega,?_⟩,?_⟩,rfl,hx⟩
  ·rw[show a+((y-a).toNat:Int)=y by omega]
  ·rintro h0
   simp only at h0
   rw[h0]at hx
   exact Qk _ hx
theorem Qgu {l l':List E5} (h:l.Perm l') (k cy:Int):(Zp l k cy).Perm (Zp l' k cy):=(h.filter _).map _
theorem Qlc {es:List Eg} {l:List E5} {k:Int} (hB:EgB es 65536) (hl:l.Perm (Jv es)) (hs:l.Pairwise λa b=>a.lo.y<=b.lo.y) (hk:PitchOk k) {F:Int->List Rn}
  (hF:∀y,-10000<=y->y<=10000->RnsV (F y)/\∀x,Qf (F y) x↔(-4096<=x/\x<4096)/\0<Yp (Zp l k (y*k+k / 2)) x):Kt F (Zw l k).1 (Zw l k).2.toNat=Uc es k:=by
 have hlB:∀e∈l,E5B e:=λe he=>Qdt hB (hl.mem_iff.1 he)
 obtain⟨r1,r2,r3,r4⟩:=Q61 hlB hs hk
 generalize Zw l k=an at *
 obtain⟨a,n⟩:=an
 simp only at r1 r2 r3 r4 ⊢
 unfold Uc
 refine Q6s (rowsT_v λj hj=>(hF _ (by omega) (by omega)).1) λy x=>?_
 have hsum:Yp (Zp (es.filterMap Eh) k (y*k+k / 2)) x=Yp (Zp l k (y*k+k / 2)) x:=(Q2t (Qgu hl k _) x).symm
 rw[Qn6,decide_eq_true_eq,Q9t (by have:=hk.lo;omega),hsum]
 constructor
 ·rintro⟨⟨h1,h2⟩,hx⟩
  obtain⟨h3,h4⟩:=((hF y (by omega) (by omega)).2 x).1 hx
  exact⟨by omega,h3,h4⟩
 ·rintro⟨⟨h1,h2⟩,h3,h4⟩
  refine⟨?_,((hF y (by omega) (by omega)).2 x).2 ⟨h3,h4⟩⟩
  have h5:∃e∈l,onE (y*k+k / 2) e=true:=by
   refine Classical.byContradiction λhn=>?_
   have h6:Zp l k (y*k+k / 2)=[]:=by
    unfold Zp
    rw[List.filter_eq_nil_iff.2]
    ·rfl
    ·intro e he ho
     exact hn ⟨e,he,ho⟩
   rw[h6,Xz]at h4
   omega
  have:=r4 y h1 h2 h5
  omega
noncomputable def Kh (ps:List (List P2)) (k:Int):List Rw × Int:=if Zh k 32 1024=false then ([],1) else (Uc (ps.flatMap Z7) k,0)
def Q9c (P:Program) (f:FuncId):Prop:=∀(ps:List (List P2)) (k:Int),PolyOk ps->CallIs P f [Qs ps,.i .i64 k] (.t [rgV (Kh ps k).1,.i .i64 (Kh ps k).2])
section
variable {P:Program} (hm:P.follows .mixedOrders=true)
include hm
theorem Bu {f fc fe fr fw:FuncId} (hf:Q9 P f (L0l.c fc fe fr fw) L0l.r L0l.n) (hc:Q9p P fc) (he:Q9j P fe) (hr:Qpg P fr) (hw:Qph P fw):Q9c P f:=by
 intro ps k hps
 have hcc:=hc ps k hps
 cases hev:Zh k 32 1024 with
 | false =>
   rw[hev]at hcc
   have hR:Kh ps k=([],1):=by unfold Kh;rw[if_pos hev]
   rw[hR]
   refine CallIs.res (r:=.t [.a [.nil],.i .i64 1]) ?_ (.inr ⟨_,_,rfl,rfl,.inr ⟨_,_,rfl,rfl,Le0.nil 2,trivial⟩,Le1.refl _,trivial⟩)
   refine PureC.is (Q8 hm hf (qh rfl) ?_) rfl
   unfold L0l.c
   simp[go_sem,Qs]
   refine Q5 hcc ?_
   simp[go_sem,L0l.r]
   done
 | true =>
   rw[hev]at hcc
   have hk:PitchOk k:=by
    unfold Zh at hev
    simp only[Bool.and_eq_true,decide_eq_true_eq]at hev
    exact⟨hev.1.1,hev.1.2,hev.2⟩
   have hR:Kh ps k=(Uc (ps.flatMap Z7) k,0):=by unfold Kh;rw[if_neg (by rw[hev];simp)]
   rw[hR]
   obtain⟨l,hl,hsl,hec⟩:=he ps hps
   have hlB:∀e∈l,E5B e:=λe he=>Qdt hps.bd (hl.mem_iff.1 he)
   have hll:l.length<=4096:=by have:=hl.length_eq;have:=Iq (ps.flatMap Z7);have:=hps.cnt;omega
   have hrc:=hr l k hlB hll hk
   have hwe:=λy h1 h2=>hw l k y hlB hsl hll hk h1 h2
   obtain⟨F,hF⟩:∃F:Int->List Rn,∀y,-10000<=y->y<=10000->RnsV (F y)/\(∀x,Qf (F y) x↔(-4096<=x/\x<4096)/\0<Yp (Zp l k (y*k+k / 2)) x)/\CallIs P fw [e5V l,.i .i64 k,.i .i64 y] (Qj (F y)):=by
    refine⟨λy=>open Classical in if h:-10000<=y/\y<=10000 then Classical.choose (hwe y h.1 h.2) else [],λy h1 h2=>?_⟩
    simp only[dif_pos (show -10000<=y/\y<=10000 from ⟨h1,h2⟩)]
    exact Classical.choose_spec (hwe y h1 h2)
   have hG:=Qlc hps.bd hl hsl hk (F:=F) λy h1 h2=>⟨(hF y h1 h2).1,(hF y h1 h2).2.1⟩
   obtain⟨r1,r2,r3,_⟩:=Q61 hlB hsl hk
   generalize Zw l k=an at *
   obtain⟨a,n⟩:=an
   simp only at r1 r2 r3 hrc hG
   obtain⟨N,hN⟩:∃N:Nat,n=N:=⟨n.toNat,by omega⟩
   subst hN
   rw[Int.toNat_natCast]at hG
   obtain⟨T,hT⟩:∃T:Nat->List Rw,∀i,T i=Kt F a i:=⟨_,λ_=>rfl⟩
   have hT0:T 0=[]:=by rw[hT];rfl
   rw[<- hT]at hG
   refine PureC.is (Q8 hm hf (qh rfl) ?_) rfl
   unfold L0l.c
   simp[go_sem,Qs]
   refine Q5 hcc ?_
   simp[go_sem,Qs]
   refine Q5 hec ?_
   simp[go_sem]
   refine Q5 hrc ?_
   simp[go_sem]
   refine Qz [.c 1 0 0 2] (α:=Nat) (λi=>i<=N)
    (λi=>⟨[(1,.i .i64 k),(4,.p 0 1 0 0),(7,e5V l),(8,.i .i64 a),(10,.p 1 1 0 0),(28,.i .i64 N),(29,.i .i64 i)],[.arr 1 1 [[.nil]],.arr 1 1 [[.own 2 ((T i).length+1) 0 (T i).length]],.arr ((T i).length+1) 2 ((T i).map Rw.cs)]⟩)
    (λi=>N-i) 0 (Nat.zero_le _) ?_ ?_
   ·simp[go_sem,hT0,e5V]
    done
   ·intro i hi
    by_cases hil:i=N
    ·subst hil
     rw[hG]
     simp[go_sem,L0l.r]
     rw[if_pos (Qd7 _)];rfl
    ·have hlt:i<N:=by omega
     have hTs:T (i+1)=T i++(if F (a+i)=[] then [] else [⟨a+i,F (a+i)⟩]):=by rw[hT,Qd8,<- hT]
     have hTl:(T i).length<=i:=by rw[hT];exact Qhs F a i
     obtain⟨_,_,hFc⟩:=hF (a+i) (by omega) (by omega)
     generalize F (a+i)=rs at *
     have htk:List.take (T i).length ((T i).map Rw.cs)=(T i).map Rw.cs:=qe (by simp)
     simp (disch:=omega) [go_sem,hlt,Q3]
     refine Q5 hFc ?_
     by_cases hrs:rs=[]
     ·rw[if_pos hrs,List.append_nil]at hTs
      simp (disch:=omega) [go_sem,Qj,hrs,Q3]
      exact⟨i+1,by omega,by omega,⟨.inr rfl,by omega⟩,by rw[hTs],⟨by rw[hTs],by rw[hTs]⟩,Q7f _ _⟩
     ·rw[if_neg hrs]at hTs
      have hrl:0<rs.length:=by cases rs with | nil=>exact absurd rfl hrs | cons a b=>simp
      simp (disch:=omega) [go_sem,Qj,hrl,htk,Q3]
      exact⟨⟨by omega,by omega⟩,i+1,by omega,by omega,⟨.inr rfl,by omega⟩,by rw[hTs];simp,⟨by rw[hTs];simp,by rw[hTs];simp[Rw.cs,Qj]⟩,Q7f _ _⟩
end
theorem Qag {α β:Type} (f:α->β) (k:List α) (x:β):(k.map f++[x])[k.length]?=some x:=by
 rw[qf (by simp)];simp
theorem Qaf {α β:Type} (f:α->β) (k:List α) (x y:β):(k.map f++[x]).set k.length y=k.map f++[y]:=by
 have:=ji (s:=k.map f) (t:=[x]) (x:=y) k.length (by simp)
 rw[this];simp
def mxP (p:P2):Int:=max (max p.x (-p.x)) (max p.y (-p.y))
def dT (k:Int) (p:P2):Nat:=((mxP p+k-1) / k).toNat
theorem Q93:∀(l:List Int) (lo hi:Int),l.Pairwise (·<·)->(∀x∈l,lo<=x/\x<hi)->(l.length:Int)<=max 0 (hi-lo)
 | [],lo,hi,_,_=>by simp;omega
 | x::l,lo,hi,hp,h=>by
   obtain⟨h1,h2⟩:=j9.1 hp
   have hx:=h x (by simp)
   have:=Q93 l (x+1) hi h2 λy hy=>by have:=h1 y hy;have:=h y (by simp[hy]);omega
   rw[List.length_cons]
   omega
theorem RgV.len {g:List Rw} (h:RgV g) (hb:RgB g):g.length<=8192:=by
 have:=Q93 (g.map Rw.y) (-4096) 4096 (by rw[jd];exact h.asc) λy hy=>by
  obtain⟨w,hw,rfl⟩:=qo.1 hy
  obtain⟨x,hx⟩:=(h.rs w hw).some (h.ne w hw)
  exact(hb w.y x ⟨w,hw,rfl,hx⟩).1
 rw[List.length_map]at this
 omega
def RnI (l:List Rn):Prop:=∀r∈l,-4096<=r.a/\r.b<=4096
theorem RnsV.len {l:List Rn} (h:RnsV l) (hb:RnI l):l.length<=8192:=by
 have:=Q93 (l.map Rn.a) (-4096) 4096 (by
  rw[jd]
  refine List.Pairwise.imp_of_mem ?_ h.2
  intro r s hr hs hrs
  have:=h.1 r hr
  omega) λy hy=>by
  obtain⟨r,hr,rfl⟩:=qo.1 hy
  have:=h.1 r hr
  have:=hb r hr
  omega
 rw[List.length_map]at this
 omega
theorem RgB.rnb {g:List Rw} (h:RgV g) (hb:RgB g) {w:Rw} (hw:w∈g):RnI w.rs:=λr hr=>by
 have:=RgB.run h hb hw hr
 omega
theorem RgB.yb {g:List Rw} (h:RgV g) (hb:RgB g) {w:Rw} (hw:w∈g):-4096<=w.y/\w.y<4096:=by
 obtain⟨x,hx⟩:=(h.rs w hw).some (h.ne w hw)
 exact(hb w.y x ⟨w,hw,rfl,hx⟩).1
def Zu (l:List Rn) (i:Nat):Int:=if i % 2=1 then ((l[i / 2]?).getD ⟨1048577,1048577⟩).b else ((l[i / 2]?).getD ⟨1048577,1048577⟩).a
theorem U4 (l:List Rn):Zu l (2*l.length)=1048577:=by
 unfold Zu
 rw[if_neg (by omega),show 2*l.length / 2=l.length by omega,qk (Nat.le_refl _)];rfl
theorem U6 {l:List Rn} {k:Nat} {r:Rn} (h:l[k]?=some r):Zu l (2*k)=r.a:=by
 unfold Zu
 rw[if_neg (by omega),show 2*k / 2=k by omega,h];rfl
theorem B4 {l:List Rn} {k:Nat} {r:Rn} (h:l[k]?=some r):Zu l (2*k+1)=r.b:=by
 unfold Zu
 rw[if_pos (by omega),show (2*k+1) / 2=k by omega,h];rfl
theorem Q90 {l:List Rn} (hl:RnsV l) (hb:RnI l) {i:Nat} (h:i<2*l.length):-4096<=Zu l i/\Zu l i<=4096:=by
 have hq:l[i / 2]?=some l[i / 2]:=q9 (by omega)
 have h1:=hb _ (qb hq)
 have h2:=hl.1 _ (qb hq)
 unfold Zu
 rw[hq]
 split<;>simp only[Option.getD_some]<;>omega
theorem Qjd {l:List Rn} (h:RnsV l) {i:Nat} (hi:i+1<2*l.length):Zu l i<Zu l (i+1):=by
 have hq:l[i / 2]?=some l[i / 2]:=q9 (by omega)
 by_cases he:i % 2=1
 ·have hq2:l[i / 2+1]?=some l[i / 2+1]:=q9 (by omega)
  have e1:=B4 hq
  have e2:=U6 hq2
  rw[show 2*(i / 2)+1=i by omega]at e1
  rw[show 2*(i / 2+1)=i+1 by omega]at e2
  rw[e1,e2]
  exact j4.1 h.2 (i / 2) (i / 2+1) (by omega) (by omega) (by omega)
 ·have e1:=U6 hq
  have e2:=B4 hq
  rw[show 2*(i / 2)=i by omega]at e1
  rw[show 2*(i / 2)+1=i+1 by omega]at e2
  rw[e1,e2]
  exact h.1 _ (qb hq)
theorem U5 {l:List Rn} (h:RnsV l) {i:Nat}:∀{j:Nat},i<j->j<2*l.length->Zu l i<Zu l j
 | 0,hij,_=>by omega
 | j+1,hij,hj=>by
   have h1:=Qjd h hj
   by_cases he:i=j
   ·rw[he];exact h1
   ·have:=U5 h (i:=i) (j:=j) (by omega) (by omega)
    omega
theorem Qiq {l:List Rn} {x:Int}:Qf l x↔∃k,k<l.length/\Zu l (2*k)<=x/\x<Zu l (2*k+1):=by
 constructor
 ·rintro⟨r,hr,h⟩
  obtain⟨k,hk⟩:=qq hr
  refine⟨k,(q8.1 hk).1,?_⟩
  rw[U6 hk,B4 hk];exact h
 ·rintro⟨k,hk,h⟩
  have hq:l[k]?=some l[k]:=q9 hk
  rw[U6 hq,B4 hq]at h
  exact⟨_,qb hq,h⟩
structure PosR (l:List Rn) (i:Nat) (X:Int):Prop where
 le:i<=2*l.length
 lo:∀k,k<i->Zu l k<=X
 hi:∀k,i<=k->k<2*l.length->X<Zu l k
theorem PosR.start {l:List Rn} (h:RnsV l) (hb:RnI l):PosR l 0 (-5000):=⟨by omega,by omega,λk _ hk=>by have:=Q90 h hb hk;omega⟩
theorem PosR.inn {l:List Rn} (h:RnsV l) {i:Nat} {X x:Int} (hp:PosR l i X) (h1:X<=x) (h2:i<2*l.length->x<Zu l i):Qf l x↔i % 2=1:=by
 have hle:=hp.le
 rw[Qiq]
 constructor
 ·rintro⟨k,hk,h3,h4⟩
  refine j7 λhne=>?_
  by_cases hki:2*k+1<i
  ·have:=hp.lo _ hki;omega
  ·have h5:i<2*l.length:=by omega
   have h6:=h2 h5
   by_cases he:i=2*k
   ·rw[he]at h6;omega
   ·have:=U5 h (i:=i) (j:=2*k) (by omega) (by omega);omega
 ·intro ho
  have h5:i<2*l.length:=by omega
  refine⟨i / 2,by omega,?_,?_⟩
  ·have:=hp.lo (2*(i / 2)) (by omega);omega
  ·rw[show 2*(i / 2)+1=i by omega];exact h2 h5
theorem PosR.step {l:List Rn} (h:RnsV l) (hb:RnI l) {i:Nat} {X x:Int} (hp:PosR l i X) (h1:X<x) (h2:x<=Zu l i) (h3:x<1048577):PosR l (if Zu l i=x then i+1 else i) x:=by
 have hle:=hp.le
 have hov:=U4 l
 have hil:Zu l i=x->i<2*l.length:=λhe=>by
  refine j7 λhn=>?_
  have:i=2*l.length:=by omega
  rw[this,hov]at he;omega
 split
 ·rename_i he
  have hi2:=hil he
  refine⟨by omega,λk hk=>?_,λk hk hk2=>?_⟩
  ·by_cases hki:k=i
   ·rw[hki];omega
   ·have:=hp.lo k (by omega);omega
  ·have:=U5 h (i:=i) (j:=k) (by omega) hk2;omega
 ·refine⟨hle,λk hk=>?_,λk hk hk2=>?_⟩
  ·have:=hp.lo k hk;omega
  ·by_cases hki:i=k
   ·rw[<- hki];omega
   ·have:=U5 h (i:=i) (j:=k) (by omega) hk2;omega
def Uh (i j:Nat):Bool:=decide (i % 2=1) || decide (j % 2=1)
structure SwI (a b:List Rn) (i j:Nat) (X:Int) (out:List Rn):Prop where
 pa:PosR a i X
 pb:PosR b j X
 cl:Uh i j=false->RnsV out/\(∀r∈out,r.b<=X)/\∀x,x<X->(Qf out x↔Qf a x∨Qf b x)
 op:Uh i j=true->∃o f,out=o++[⟨f,0⟩]/\RnsV o/\(∀r∈o,r.b<f)/\f<=X/\∀x,x<X->(Qf o x∨f<=x↔Qf a x∨Qf b x)
 len:out.length<=i+j
theorem Qbc {l:List Rn} (hb:RnI l) {x:Int} (h:Qf l x):-4096<=x/\x<4096:=by
 obtain⟨r,hr,h1,h2⟩:=h
 have:=hb r hr
 omega
theorem SwI.start {a b:List Rn} (ha:RnsV a) (hb:RnsV b) (ha2:RnI a) (hb2:RnI b):SwI a b 0 0 (-5000) [] where
 pa:=PosR.start ha ha2
 pb:=PosR.start hb hb2
 cl _:=⟨RnsV.nil,by simp,λx hx=>⟨λh=>absurd h (Qk _),λh=>by
  rcases h with h | h
  ·have:=Qbc ha2 h;omega
  ·have:=Qbc hb2 h;omega⟩⟩
 op h:=by simp[Uh]at h
 len:=by simp
theorem SwI.done {a b out U:List Rn} {X:Int} (ha:RnsV a) (hb:RnsV b) (h:SwI a b (2*a.length) (2*b.length) X out) (hU:RnsV U) (hUx:∀x,Qf U x↔Qf a x∨Qf b x):out=U:=by
 obtain⟨h1,h2,h3⟩:=h.cl (by simp[Uh])
 refine h1.ext hU λx=>?_
 rw[hUx]
 by_cases hx:x<X
 ·exact h3 x hx
 ·have e1:=h.pa.inn ha (x:=x) (by omega) (by omega)
  have e2:=h.pb.inn hb (x:=x) (by omega) (by omega)
  rw[e1,e2]
  constructor
  ·rintro⟨r,hr,hr2,hr3⟩
   have:=h2 r hr;omega
  ·omega
def Ul (x:Int) (was now:Bool) (out:List Rn):List Rn :=
 if now && !was then out++[⟨x,0⟩] else if !now && was then out.dropLast++[⟨((out.getLast?).getD ⟨0,0⟩).a,x⟩] else out
def swN (l:List Rn) (i:Nat) (x:Int):Nat:=if Zu l i=x then i+1 else i
theorem SwI.step {a b out:List Rn} {i j:Nat} {X x:Int} (ha:RnsV a) (hb:RnsV b) (ha2:RnI a) (hb2:RnI b) (h:SwI a b i j X out) (hx:x=min (Zu a i) (Zu b j)) (hij:i<2*a.length∨j<2*b.length) :
  SwI a b (swN a i x) (swN b j x) x (Ul x (Uh i j) (Uh (swN a i x) (swN b j x)) out):=by
 have hx1:x<=4096:=by
  rcases hij with h1 | h1
  ·have:=Q90 ha ha2 h1;omega
  ·have:=Q90 hb hb2 h1;omega
 have hov1:=U4 a
 have hov2:=U4 b
 have gt1:X<Zu a i∨(i=2*a.length):=by
  by_cases h1:i<2*a.length
  ·exact .inl (h.pa.hi i (Nat.le_refl _) h1)
  ·have:=h.pa.le;exact .inr (by omega)
 have gt2:X<Zu b j∨(j=2*b.length):=by
  by_cases h1:j<2*b.length
  ·exact .inl (h.pb.hi j (Nat.le_refl _) h1)
  ·have:=h.pb.le;exact .inr (by omega)
 have hXx:X<x:=by
  have hX:X<1048577:=by
   rcases gt1 with g1 | g1
   ·rcases gt2 with g2 | g2
    ·omega
    ·rw[g2,hov2]at hx;omega
   ·rcases gt2 with g2 | g2
    ·rw[g1,hov1]at hx;omega
    ·omega
  rcases gt1 with g1 | g1<;>rcases gt2 with g2 | g2
  ·omega
  ·rw[g2,hov2]at hx;omega
  ·rw[g1,hov1]at hx;omega
  ·omega
 have ia:=λy (h1:X<=y) (h2:y<x)=>h.pa.inn ha (x:=y) h1 (λ_=>by omega)
 have ib:=λy (h1:X<=y) (h2:y<x)=>h.pb.inn hb (x:=y) h1 (λ_=>by omega)
 have iab:∀y,X<=y->y<x->((Qf a y∨Qf b y)↔Uh i j=true):=λy h1 h2=>by
  rw[ia y h1 h2,ib y h1 h2]
  unfold Uh
  simp
 have hpa:=h.pa.step ha ha2 hXx (by omega) (by omega)
 have hpb:=h.pb.step hb hb2 hXx (by omega) (by omega)
 have hlen:=h.len
 have hsn:i<=swN a i x/\j<=swN b j x:=by unfold swN;constructor<;>split<;>omega
 have hsn2:i+j+1<=swN a i x+swN b j x:=by
  have:Zu a i=x∨Zu b j=x:=by omega
  unfold swN
  rcases this with h1 | h1
  ·rw[if_pos h1];split<;>omega
  ·rw[if_pos h1];split<;>omega
 cases hw:Uh i j with
 | false =>
   obtain⟨c1,c2,c3⟩:=h.cl hw
   have hno:∀y,X<=y->¬ Qf out y:=λy hy ⟨r,hr,h1,h2⟩=>by have:=c2 r hr;omega
   have hall:∀y,y<x->(Qf out y↔Qf a y∨Qf b y):=λy hy=>by
    by_cases h1:y<X
    ·exact c3 y h1
    ·rw[iab y (by omega) hy,hw]
     simp[hno y (by omega)]
   cases hn:Uh (swN a i x) (swN b j x) with
   | false=>exact⟨hpa,hpb,λ_=>⟨c1,λr hr=>by have:=c2 r hr;omega,hall⟩,λhh=>by rw[hn]at hh;simp at hh,by simp[Ul];omega⟩
   | true =>
     refine⟨hpa,hpb,λhh=>by rw[hn]at hh;simp at hh,λ_=>⟨out,x,by simp[Ul],c1,λr hr=>by have:=c2 r hr;omega,Int.le_refl _,λy hy=>?_⟩,by simp[Ul];omega⟩
     rw[<- hall y hy]
     constructor
     ·rintro (h1 | h1)
      ·exact h1
      ·omega
     ·exact .inl
 | true =>
   obtain⟨o,f,c0,c1,c2,c3,c4⟩:=h.op hw
   have hall:∀y,y<x->(Qf o y∨f<=y↔Qf a y∨Qf b y):=λy hy=>by
    by_cases h1:y<X
    ·exact c4 y h1
    ·rw[iab y (by omega) hy,hw]
     simp
     exact .inr (by omega)
   cases hn:Uh (swN a i x) (swN b j x) with
   | true=>exact⟨hpa,hpb,λhh=>by rw[hn]at hh;simp at hh,λ_=>⟨o,f,by simp[Ul,c0],c1,c2,by omega,hall⟩,by simp[Ul];omega⟩
   | false =>
     have e:Ul x true false out=o++[⟨f,x⟩]:=by rw[c0];simp[Ul]
     refine⟨hpa,hpb,λ_=>?_,λhh=>by rw[hn]at hh;simp at hh,?_⟩
     ·rw[e]
      refine⟨RnsV.snoc.2 ⟨c1,by simp only[];omega,λr hr=>c2 r hr⟩,λr hr=>?_,λy hy=>?_⟩
      ·rcases qg.1 hr with hr | hr
       ·have:=c2 r hr;omega
       ·rw[qn.1 hr];exact Int.le_refl _
      ·rw[<- hall y hy,J4,inRns_cons]
       simp only[Qk,or_false]
       constructor
       ·rintro (h1 | ⟨h1,_⟩)
        ·exact .inl h1
        ·exact .inr h1
       ·rintro (h1 | h1)
        ·exact .inl h1
        ·exact .inr ⟨h1,hy⟩
     ·rw[e]
      rw[c0]at hlen
      simp only[j3,List.length_cons,List.length_nil]at hlen ⊢
      omega
end Go.Abs
namespace Go.Abs
open Go.Sort
theorem Qee {t:T3} {e:P2} (h:e∈Q7 t):e.x≠e.y:=by
 unfold Q7 Zn at h
 have:=(qu.1 h).2
 simpa using this
theorem Qet {l:List T3} {e:P2} (h:e∈Qa l):e.x≠e.y:=by
 obtain⟨t,_,ht⟩:=jk.1 h
 exact Qee ht
theorem Qkk {e:P2} (h:e.x<e.y):e.und=e:=by cases e;simp only[P2.und,P2.mk.injEq]at h ⊢;omega
theorem und_gt {e:P2} (h:¬ e.x<e.y):e.und=e.rev:=by cases e;simp only[P2.und,P2.rev,P2.mk.injEq]at h ⊢;omega
def isV (l:List Int):V:=.l 1 (l.map λx=>[.i .i64 x])
def bl (n:Nat) (g:Nat->Bool):List (List V):=(List.range n).map λj=>[.b (g j)]
theorem Q91 (n:Nat) (g:Nat->Bool):(bl n g).length=n:=by simp[bl]
theorem Q92 {n:Nat} {g:Nat->Bool} {i:Nat} (h:i<n):(bl n g)[i]?=some [.b (g i)]:=by simp[bl,h]
theorem bl_rep (n:Nat):List.replicate n [V.b false]=bl n (λ_=>false):=by
 apply qx
 intro i
 by_cases h:i<n
 ·rw[Q92 h];simp[h]
 ·rw[qk (by simp;omega),qk (by rw[Q91];omega)]
theorem bl_set (n:Nat) (g:Nat->Bool) (i:Nat) (b:Bool):(bl n g).set i [.b b]=bl n (λj=>if j=i then b else g j):=by
 apply qx
 intro j
 by_cases h:j<n
 ·rw[Q92 h]
  by_cases hj:i=j
  ·subst hj
   rw[qm (by rw[Q91];exact h),if_pos rfl]
  ·rw[qt hj,Q92 h,if_neg (λhh=>hj hh.symm)]
 ·rw[qk (by simp[Q91];omega),qk (by rw[Q91];omega)]
theorem bl_cl (n:Nat) (g:Nat->Bool) (k:Nat):∀el∈bl n g,∀x∈el,x.cl k=true:=by
 intro el hel x hx
 obtain⟨j,_,rfl⟩:=qo.1 hel
 simp at hx;subst hx;rfl
def ics (l:List Int):List (List V):=l.map λx=>[.i .i64 x]
def lsV (ls:List (List Int)):V:=.l 1 (ls.map λl=>[isV l])
def Held (b:Nat) (hx:List O) (ls:List (List Int)) (cells:List (List V)):Prop :=
 cells.length=ls.length/\∀(i:Nat) (c:List V) (l:List Int),cells[i]?=some c->ls[i]?=some l->∃j g,c=[.own (b+j) g 0 l.length]/\hx[j]?=some (.arr g 1 (ics l))
def Flt (hx:List O):Prop:=∀o∈hx,∀n,o.cl n
theorem Held.nil (b:Nat):Held b [] [] []:=⟨rfl,by simp⟩
theorem Held.app {b:Nat} {hx:List O} {ls:List (List Int)} {cells:List (List V)} (h:Held b hx ls cells) (l:List O):Held b (hx++l) ls cells :=
 ⟨h.1,λi c x h1 h2=>by obtain⟨j,g,h3,h4⟩:=h.2 i c x h1 h2;exact⟨j,g,h3,by rw[qd (q8.1 h4).1];exact h4⟩⟩
theorem Held.snoc {b:Nat} {hx:List O} {ls:List (List Int)} {cells:List (List V)} (h:Held b hx ls cells) {j g:Nat} {l:List Int} (hj:hx[j]?=some (.arr g 1 (ics l))):Held b hx (ls++[l]) (cells++[[.own (b+j) g 0 l.length]]):=by
 refine⟨by simp[h.1],λi c x h1 h2=>?_⟩
 by_cases hi:i<ls.length
 ·rw[qd (by rw[h.1];exact hi)]at h1
  rw[qd hi]at h2
  exact h.2 i c x h1 h2
 ·rw[qf (by rw[h.1];omega)]at h1
  rw[qf (by omega)]at h2
  have hi0:i-ls.length=0:=by
   have:=(q8.1 h2).1
   simp at this;omega
  rw[h.1,hi0]at h1
  rw[hi0]at h2
  simp at h1 h2
  subst h1;subst h2
  exact⟨j,g,rfl,hj⟩
theorem Held.cl {b:Nat} {hx:List O} {ls:List (List Int)} {cells:List (List V)} (h:Held b hx ls cells) {n:Nat} (hn:b+hx.length<=n):∀el∈cells,∀x∈el,x.cl n=true:=by
 intro el hel x hx'
 obtain⟨i,hi⟩:=qq hel
 have hlt:=(q8.1 hi).1
 obtain⟨j,g,rfl,h4⟩:=h.2 i el _ hi (q9 (by rw[<- h.1];exact hlt))
 have:=(q8.1 h4).1
 simp at hx';subst hx'
 simp[V.cl,V.cl1,V.cl0];omega
theorem Qg5 (l:List Int):∀el∈ics l,∀x∈el,x.isD=true:=by
 intro el hel x hx
 obtain⟨a,_,rfl⟩:=qo.1 hel
 simp at hx;subst hx;rfl
theorem Q3z (l:List Int) (n:Nat):∀el∈ics l,∀x∈el,x.cl n=true:=λel hel x hx=>Kk n (Qg5 l el hel x hx)
theorem Held.frz {b:Nat} {base hx:List O} {ls:List (List Int)} {cells:List (List V)} (h:Held b hx ls cells) (hb:base.length=b):cells.mapM (λel=>el.mapM (Uj (base++hx)))=some (ls.map λl=>[isV l]):=by
 induction cells generalizing ls with
 | nil =>
   have:=h.1
   simp at this
   obtain rfl:=List.length_eq_zero_iff.1 this.symm
   rfl
 | cons c cells ih =>
   have hl:=h.1
   cases ls with
   | nil=>simp at hl
   | cons l ls =>
     have h0:=h.2 0 c l rfl rfl
     obtain⟨j,g,rfl,hj⟩:=h0
     have ht:Held b hx ls cells:=⟨by simpa using hl,λi c x h1 h2=>h.2 (i+1) c x (by simpa using h1) (by simpa using h2)⟩
     have hg:(base++hx)[b+j]?=some (.arr g 1 (ics l)):=by rw[<- hb,Qd];exact hj
     have ha:(ics l).all (λx=>x.all V.isD)=true:=by
      rw[qj]
      exact λel hel=>qj.2 (Qg5 l el hel)
     have hlen:(ics l).length=l.length:=by simp[ics]
     have hfr:Uj (base++hx) (.own (b+j) g 0 l.length)=some (isV l):=by
      have ht2:List.take l.length (ics l)=ics l:=qe (by omega)
      show _=some (V.l 1 (ics l))
      simp only[Uj,X6,hg]
      rw[List.drop_zero,ht2,if_pos ⟨trivial,by omega,ha⟩]
     simp[List.mapM_cons,hfr,ih ht]
theorem held_if {b:Nat} {base hx:List O} {ls:List (List Int)} {cells:List (List V)} (h:Held b hx ls cells) (hb:base.length=b) :
  (if ls.length<=cells.length then Option.map (V.l 1) (List.mapM (λel=>List.mapM (Uj (base++hx)) el) (List.take ls.length cells)) else none)=some (lsV ls):=by
 have h1:=h.frz hb
 have ht:List.take ls.length cells=cells:=qe (by rw[h.1];exact Nat.le_refl _)
 simp only[ht,h1,h.1,Nat.le_refl,if_true,Option.map_some,lsV]
theorem Qc3 {n:Nat} {g g':Nat->Bool} (h:∀j,j<n->g j=g' j):bl n g=bl n g':=by
 unfold bl
 exact jm λj hj=>by rw[h j (qy.1 hj)]
def mk (n:Nat) (done:List Int):List (List V):=bl n λj=>decide ((j:Int)∈done)
theorem mk_nil (n:Nat):List.replicate n [V.b false]=mk n []:=by rw[bl_rep];exact Qc3 λj _=>by simp
theorem Qm4 {n:Nat} {d:List Int} {v:Int} (h0:0<=v):(mk n d).set v.toNat [.b true]=mk n (d++[v]):=by
 unfold mk
 rw[bl_set]
 refine Qc3 λj _=>?_
 by_cases hj:j=v.toNat
 ·have:(j:Int)=v:=by omega
  simp[hj,show ((v.toNat:Nat):Int)=v by omega]
 ·have:(j:Int)≠v:=by omega
  simp[hj,this]
theorem Qm5 {n:Nat} {d:List Int} {v:Int} (h0:0<=v) (h1:v<n):(mk n d)[v.toNat]?=some [.b (decide (v∈d))]:=by
 unfold mk
 rw[Q92 (by omega),show ((v.toNat:Nat):Int)=v by omega]
theorem mk_cl (n:Nat) (d:List Int) (k:Nat):∀el∈mk n d,∀x∈el,x.cl k=true:=bl_cl _ _ _
theorem Flt.app {a b:List O} (h:Flt a) (k:Flt b):Flt (a++b):=λo ho n=>by
 rcases qg.1 ho with h1 | h1
 ·exact h o h1 n
 ·exact k o h1 n
theorem Flt.WeakH {hx l:List O} (h:Flt hx) (n:Nat):WeakH n (hx++l) hx:=Qeu λo ho=>h o ho n
theorem Flt.WeakH' {hx:List O} (h:Flt hx) (n:Nat):Go.Abs.WeakH n hx hx:=by
 have:=h.WeakH (l:=[]) n
 rwa [List.append_nil]at this
section
variable {K β:Type} [DecidableEq K]
def Z8 (e:K):List (K × β)->Option (Nat × β)
 | []=>none
 | (k,n)::r=>if e=k then some (0,n) else (Z8 e r).map λp=>(p.1+1,p.2)
structure KeyOk (ls:List Nat) (en:K->V):Prop where
 shape:∀a,Zd ls (en a)=true
 len:∀a,(en a).cells.length=ls.length
 eq:∀a b,Za ls (en a).cells (en b).cells=some (decide (a=b))
def asG (en:K->V) (ev:β->V) (p:K × β):V × V:=(en p.1,ev p.2)
theorem Xv {ls:List Nat} {en:K->V} (O:KeyOk ls en) (ev:β->V) (e:K):∀L:List (K × β),Ql ls (en e) (L.map (asG en ev))=some ((Z8 e L).map λp=>(p.1,ev p.2))
 | []=>by simp[Ql,O.shape,O.len,Z8]
 | (k,n)::r=>by
   simp only[List.map_cons,asG,Ql,Z8,O.shape,O.eq,Bool.and_self,if_true]
   by_cases h:e=k
   ·simp[h]
   ·simp only[h,decide_false,if_false]
    have:=Xv O ev e r
    rw[this]
    cases Z8 e r<;>rfl
theorem fndG_none {e:K}:∀{L:List (K × β)},Z8 e L=none↔e∉L.map Prod.fst
 | []=>by simp[Z8]
 | (k,n)::r=>by
   simp only[Z8]
   by_cases h:e=k
   ·simp[h]
   ·rw[if_neg h,Option.map_eq_none_iff,fndG_none (L:=r)]
    simp[h]
theorem Zt {e:K}:∀{L:List (K × β)} {i:Nat} {n:β},Z8 e L=some (i,n)->L[i]?=some (e,n)
 | [],i,n,h=>by simp[Z8]at h
 | (k,m)::r,i,n,h=>by
   simp only[Z8]at h
   by_cases hk:e=k
   ·simp[hk]at h;obtain⟨rfl,rfl⟩:=h;simp[hk]
   ·simp only[hk,if_false,qa,Prod.mk.injEq]at h
    obtain⟨⟨j,n1⟩,hj,rfl,rfl⟩:=h
    simpa using Zt hj
theorem Yl:∀{L:List (K × β)} {i:Nat} {e:K} {n:β},(L.map Prod.fst).Nodup->L[i]?=some (e,n)->Z8 e L=some (i,n)
 | [],i,e,n,_,h=>by simp at h
 | (k,m)::r,0,e,n,_,h=>by simp at h;obtain⟨rfl,rfl⟩:=h;simp[Z8]
 | (k,m)::r,i+1,e,n,hn,h=>by
   simp only[List.map_cons,List.nodup_cons]at hn
   simp only[List.getElem?_cons_succ]at h
   have hk:¬ e=k:=by
    rintro rfl
    exact hn.1 (qo.2 ⟨(e,n),qb h,rfl⟩)
   simp[Z8,hk,Yl hn.2 h]
theorem We {e e':K} {n:β}:∀{L:List (K × β)},Z8 e L=none->Z8 e' (L++[(e,n)])=if e'=e then some (L.length,n) else Z8 e' L
 | [],_=>by simp[Z8]
 | (k,m)::r,h=>by
   simp only[Z8]at h
   by_cases hk:e=k
   ·simp[hk]at h
   ·simp only[hk,if_false,Option.map_eq_none_iff]at h
    by_cases he:e'=e
    ·subst he;simp[Z8,hk,We h]
    ·simp only[List.cons_append,Z8,We h,he,if_false]
theorem Ix {e e':K} {n':β}:∀{L:List (K × β)} {i:Nat} {n:β},Z8 e L=some (i,n)->Z8 e' (L.set i (e,n'))=if e'=e then some (i,n') else Z8 e' L
 | [],i,n,h=>by simp[Z8]at h
 | (k,m)::r,i,n,h=>by
   simp only[Z8]at h
   by_cases hk:e=k
   ·simp[hk]at h;obtain⟨rfl,rfl⟩:=h
    subst hk
    by_cases he:e'=e<;>simp[Z8,he]
   ·simp only[hk,if_false,qa,Prod.mk.injEq]at h
    obtain⟨⟨j,n1⟩,hj,rfl,rfl⟩:=h
    have:=Ix (e':=e') (n':=n') hj
    by_cases he:e'=e
    ·subst he;simp[Z8,hk,this]
    ·simp only[List.set_cons_succ,Z8,this,he,if_false]
def Qaq (e:K) (n:β) (L:List (K × β)):List (K × β):=match Z8 e L with | some (i,_)=>L.set i (e,n) | none=>L++[(e,n)]
theorem Qnv (e e':K) (n:β) (L:List (K × β)):(Z8 e' (Qaq e n L)).map Prod.snd=if e'=e then some n else (Z8 e' L).map Prod.snd:=by
 unfold Qaq
 cases h:Z8 e L with
 | none=>simp only[We h];split<;>simp
 | some p=>obtain⟨i,m⟩:=p;simp only[Ix h];split<;>simp
theorem Qhx (e:K) (n:β) (L:List (K × β)):(Qaq e n L).map Prod.fst=if e∈L.map Prod.fst then L.map Prod.fst else L.map Prod.fst++[e]:=by
 unfold Qaq
 cases h:Z8 e L with
 | none=>rw[if_neg (fndG_none.1 h)];simp
 | some p =>
   obtain⟨i,m⟩:=p
   have h1:=Zt h
   rw[if_pos (qo.2 ⟨(e,m),qb h1,rfl⟩)]
   simp only[List.map_set]
   apply qx
   intro j
   by_cases hj:i=j
   ·subst hj
    have:=(q8.1 h1).1
    rw[qm (by simpa using this)]
    simp[h1]
   ·rw[qt hj]
end
theorem W9:KeyOk [1,1] P2.enc:=⟨λ_=>rfl,λ_=>rfl,veq2⟩
end Go.Abs
