/- Part of the library on which the proof stands: an abstract machine, its values and its soundness against the model; or what functions of the program do to such values. -/
import Derived.Test.YtnaehggpjfdenaaGreatGoRpA
import Derived.Test.YtnaehggpjfdenaaGreatGoSl
import Derived.Test.YtnaehggpjfdenaaGreatAbsCP
import Derived.Test.YtnaehggpjfdenaaGreatGoTk
set_option linter.unusedVariables false
set_option linter.unusedSimpArgs false
set_option maxHeartbeats 16000000
set_option maxRecDepth 20000
namespace Go.Abs
theorem Qe1 (e:Int):Le (.t [.nil,.i .i64 e]) (.t [Qd [],.i .i64 e]):=.inr ⟨_,_,rfl,rfl,.inl (Le0.nil 1),Le1.refl _,trivial⟩
theorem Qjc {p:P2} (h:(-65536<=p.x/\p.x<=65536)/\-65536<=p.y/\p.y<=65536):p.valid=true:=P2.valid_iff.2 ⟨by omega,by omega,by omega,by omega⟩
theorem Ik {l:List Sg4} (h:Qpv l) {s:Sg4} (hs:s∈l):s.eg.1.valid=true/\s.eg.2.valid=true:=by
 obtain⟨a,b,c,d⟩:=h.2 s.eg (qo.2 ⟨s,hs,rfl⟩);exact⟨Qjc ⟨a,b⟩,Qjc ⟨c,d⟩⟩
theorem Q7q (s:Sg4):s.eg.1.enc=.a [.i .i64 s.a.1,.i .i64 s.a.2]:=rfl
theorem Q7p (s:Sg4):s.eg.2.enc=.a [.i .i64 s.b.1,.i .i64 s.b.2]:=rfl
theorem Qzf (n:Nat) (g:Nat->Bool) (rest:List O):frz ([O.arr 1 1 (bl n g)]++rest) (.own 0 1 0 n)=some (blV n g):=by
 have h1:List.take n (bl n g)=bl n g:=qe (by rw[Ux];exact Nat.le_refl _);have h2:(bl n g).all (λx=>x.all V.isD)=true:=by
  rw[qj];exact λel hel=>qj.2 (Qze n g el hel)
 simp[frz,Ys,h1,Ux,blV];exact λx hx y hy=>Qze n g x hx y hy
theorem Q4k (els:List (List V)) (n:Nat) (g:Nat->Bool) (st:Bool) (x y:Int) (rest:List O) :
  Zh (O.arr 1 1 (bl n g)::rest) [.l 4 els,.own 0 1 0 n,.b st,.a [.i .i64 x,.i .i64 y]]=some [.l 4 els,blV n g,.b st,.a [.i .i64 x,.i .i64 y]]:=by
 have h:=Qzf n g rest;simp only[List.cons_append,List.nil_append]at h;unfold Zh;rw[List.mapM_cons,List.mapM_cons,h]
 rfl
section
variable {P:Program} (hm:P.follows .mixedOrders=true)
include hm
theorem Q99 {f fv fb fl:FuncId} (hf:Q5 P f (L1z.c fv fb fl) L1z.r L1z.n) (hv:Ji P fv) (hb:Qf8 P fb) (hle:Qo7 P fl):Q54 P f:=by
 intro l hl;have hlen:=hl.1;have hb1:=hb l hlen;refine⟨λhbal=>?_,λhbal=>?_⟩
 ·have hbb:Q4u (egs l)=false:=by
   cases h:Q4u (egs l) with
   | false=>rfl
   | true=>exact absurd (balB_iff.1 h) hbal
  rw[hbb]at hb1
  refine CallIs.res (r:=.t [.nil,.i .i64 12]) ?_ (Qe1 _);refine PI hm hf ?_;unfold L1z.c;simp[go_sem,Qq,show ¬ (8192:Int)<l.length by omega];refine Q8 (α:=Nat) (λk=>k<=l.length)
   (λk=>⟨[(0,Qq l),(4,.i .i64 k)],[]⟩)
   (λk=>l.length-k) 0 (Nat.zero_le _) ?_ ?_
  ·simp[go_sem,Qq]
  ·intro k hk;by_cases hkl:k=l.length
   ·subst hkl;simp[go_sem,Qq];refine Q2 hb1 ?_;simp[go_sem,L1z.r]
   ·have hlt:k<l.length:=by omega
    have hq:=Yo hlt;generalize Yn l k=s at hq;obtain⟨_,hq'⟩:=q8.1 hq;obtain⟨v1,v2⟩:=Ik hl (qb hq);have c1:=hv s.eg.1;have c2:=hv s.eg.2;rw[v1,Q7q]at c1
    rw[v2,Q7p]at c2
    simp (disch:=omega) [go_sem,Qq,hlt,hq,hq',Sg4.cs];refine Q2 c1 ?_;simp (disch:=omega) [go_sem,Qq,hlt,hq,hq',Sg4.cs];refine Q2 c2 ?_;simp (disch:=omega) [go_sem,Q0];exact⟨k+1,by omega,by omega,by simp[Qq]⟩
 ·rw[balB_iff.2 hbal]at hb1
  refine Q1x hm hf (qh rfl) ?_;unfold L1z.c;simp[go_sem,Qq,show ¬ (8192:Int)<l.length by omega];refine Q8 (α:=Nat) (λk=>k<=l.length)
   (λk=>⟨[(0,Qq l),(4,.i .i64 k)],[]⟩)
   (λk=>l.length-k) 0 (Nat.zero_le _) ?_ ?_
  ·simp[go_sem,Qq]
  intro k hk;by_cases hkl:k=l.length
  case neg =>
   have hlt:k<l.length:=by omega
   have hq:=Yo hlt;generalize Yn l k=s at hq;obtain⟨_,hq'⟩:=q8.1 hq;obtain⟨v1,v2⟩:=Ik hl (qb hq);have c1:=hv s.eg.1;have c2:=hv s.eg.2;rw[v1,Q7q]at c1
   rw[v2,Q7p]at c2
   simp (disch:=omega) [go_sem,Qq,hlt,hq,hq',Sg4.cs];refine Q2 c1 ?_;simp (disch:=omega) [go_sem,Qq,hlt,hq,hq',Sg4.cs];refine Q2 c2 ?_;simp (disch:=omega) [go_sem,Q0];exact⟨k+1,by omega,by omega,by simp[Qq]⟩
  subst hkl;have hseg:Qq l=.l 4 (l.map Sg4.cs):=rfl;simp[go_sem,Qq];refine Q2 hb1 ?_;simp[go_sem,Qzd];refine⟨⟨by omega,by omega⟩,?_⟩;refine Xg (vs:=[Qq l,blV l.length λ_=>false,.b false,(⟨0,0⟩:P2).enc]) ?_ (hle l (λ_=>false) false ⟨0,0⟩ hlen) rfl ?_
  ·exact Q4k _ _ _ _ _ _ _
  simp[go_sem];refine Qi [.t 5 1] (α:=(Nat->Bool) × List (List P2) × List O × List (List V))
   (λp=>Wq (Uk l p.1)/\(p.2.1.flatMap Qu++Uk l p.1).Perm (neE (egs l))/\Qf5 2 p.2.2.1 p.2.1 p.2.2.2/\Flt p.2.2.1/\p.2.1.length+(Uk l p.1).length<=l.length)
   (λp=>⟨[(0,Qq l),(5,.own 1 (p.2.1.length+1) 0 p.2.1.length),(6,.own 0 1 0 l.length),(7,.i .i64 (Y6 l p.1 false ⟨0,0⟩ l.length))],
    .arr 1 1 (bl l.length p.1)::.arr (p.2.1.length+1) 1 p.2.2.2::p.2.2.1⟩)
   (λp=>(Uk l p.1).length) (λ_=>false,[],[],[]) ⟨by rw[Q3g];exact Qp1 hbal,by rw[Q3g];exact List.Perm.refl _,HeldR.nil 2,by simp[Flt],by rw[Q3g];unfold neE;have:=jc (λe:Eg=>decide (e.1≠e.2)) (egs l);rw[Iz]at this;simpa using this⟩ ?_ ?_
  ·simp[go_sem,Qq];exact Qkv _ _ _
  ·rintro⟨g,ps,hx,cells⟩ ⟨hB,hP,hH,hF,hN⟩;simp only at hB hP hH hF hN ⊢;rcases Qrr l g ⟨0,0⟩ with⟨h1,h2⟩ | ⟨i,h1,hi,hgi,hne⟩
   ·rw[h1];rw[h2,List.append_nil]at hP
    have hfz:=Qk7 pcsD (rz:=1) (base:=[.arr 1 1 (bl l.length g),.arr (ps.length+1) 1 cells]) hH rfl;simp only[List.cons_append,List.nil_append,List.length_map]at hfz;have hval:(V.l 1 (List.map (Qr4 2 (λ_:Unit=>[]) P2.cs) (ps.map λp=>((),p))))=Qd ps:=by
     unfold Qd;rw[List.map_map];rfl
    rw[hval]at hfz
    simp[go_sem,Qq,L1z.r,Q2z];rw[hfz];exact⟨_,rfl,ps,hP,by omega,rfl⟩
   ·rw[h1];have hsi:=Yo hi;generalize hs:Yn l i=s at *
    obtain⟨_,hsi'⟩:=q8.1 hsi;have hcc:=hH.1;rw[List.length_map]at hcc
    have hcl2:=hH.cl pcsD (n:=hx.length+2) (by omega);simp (disch:=omega) [go_sem,Qq,hi,hsi,hsi',Sg4.cs,Qf,Qc,Qk,Qm];refine Qi [.t 9 2] (α:=(Nat->Bool) × Nat × List P2)
     (λp=>p.2.1<l.length/\p.1 p.2.1=false/\(Yn l p.2.1).eg.1≠(Yn l p.2.1).eg.2/\Trail s.eg.1 (Yn l p.2.1).eg.1 p.2.2 (Uk l p.1) (Uk l g)/\p.2.2.length+(Uk l p.1).length=(Uk l g).length)
     (λp=>⟨[(0,Qq l),(5,.own 1 (ps.length+1) 0 ps.length),(6,.own 0 1 0 l.length),(7,.i .i64 p.2.1),(8,.p (hx.length+2) 1 0 0),(9,.own (hx.length+3) (p.2.2.length+1) 0 p.2.2.length)],
      .arr 1 1 (bl l.length p.1)::.arr (ps.length+1) 1 cells::(hx++[.arr 1 2 [s.eg.1.cs],.arr (p.2.2.length+1) 2 (p.2.2.map P2.cs)])⟩)
     (λp=>(Uk l p.1).length) (g,i,[]) ⟨hi,hgi,by rw[hs];exact hne,by rw[hs];exact Trail.start hB _,by simp⟩ ?_ ?_
    ·simp[go_sem,Qq];refine⟨Qkv _ _ _,λel hel x hx'=>Uv (by omega) (hcl2 el hel x hx'),Qn (λo ho=>hF o ho _) ?_⟩;simp[go_sem,Sg4.eg,P2.cs]
    ·rintro⟨g1,a,vs⟩ ⟨ha,hga,hnea,hT,hlen2⟩;simp only at ha hga hnea hT hlen2 ⊢;have hta:=Qve ha hga hnea;have hsa:=Yo ha;generalize hsA:Yn l a=u at *
     have hT2:Trail s.eg.1 u.eg.2 (vs++[u.eg.1]) (Uk l (mkD g1 a)) (Uk l g):=hT.step hta;obtain⟨_,hsa'⟩:=q8.1 hsa;have hbs:(bl l.length g1).set a [.b true]=bl l.length (mkD g1 a):=Qzc l.length g1 a true;have hvt:List.take vs.length (vs.map P2.cs)=vs.map P2.cs:=qe (by simp);have hll:=hta.length_eq;rw[List.length_cons]at hll
     have hcO1:∀n,(O.arr 1 2 [s.eg.1.cs]).cl n:=λn el hel x hx=>by
      rw[qn.1 hel]at hx
      exact K4 n (pcsD.e1 _ x hx)
     have hcO2:∀n,(O.arr (vs.length+1+1) 2 (vs.map P2.cs++[u.eg.1.cs])).cl n:=λn=>by
      have h7:=Qgp pcsD (vs++[u.eg.1]) n;rw[qx]at h7
      exact h7
     have hbg:(bl l.length g1)[a]?=some [.b (g1 a)]:=Q4t ha;rw[hga]at hbg
     cases hbf:(!(u.b.1 == s.eg.1.x) || !(u.b.2 == s.eg.1.y)) with
     | true =>
       have hbne:u.eg.2≠s.eg.1:=by
        intro hh;have h5:u.b.1=s.eg.1.x/\u.b.2=s.eg.1.y:=p2_iff.1 hh;rw[h5.1,h5.2]at hbf
        simp at hbf
       obtain⟨e,he,he2⟩:=hT2.more hbne;obtain⟨i2,j1,j2,j3,j4,j5⟩:=Qmm he he2;have hl2:=hle l (mkD g1 a) true u.eg.2 hlen;rw[j1]at hl2
       simp (disch:=omega) [go_sem,Qq,ha,hsa,hsa',hbf,hbg,hbs,hvt,Ux,Sg4.cs,P2.cs,Qf,Qc,Qk,Qm];refine⟨⟨by omega,by omega⟩,?_⟩;refine Xg (vs:=[Qq l,blV l.length (mkD g1 a),.b true,u.eg.2.enc]) (Q4k _ _ _ _ _ _ _) hl2 rfl ?_;simp[go_sem];refine⟨mkD g1 a,i2,vs++[u.eg.1],⟨j2,j3,j4,by rw[j5];exact hT2,by simp;omega⟩,by omega,?_⟩;simp[Qq]
       exact⟨Qkv _ _ _,λel hel x hx'=>Uv (by omega) (hcl2 el hel x hx'),Qn (λo ho=>hF o ho _) ⟨.inr ⟨rfl,hcO1 _⟩,.inr ⟨rfl,hcO2 _⟩,trivial⟩⟩
     | false =>
       have hbe:u.eg.2=s.eg.1:=by
        simp only[Bool.or_eq_false_iff,Bool.not_eq_false',beq_iff_eq]at hbf;exact p2_iff.2 hbf
       rw[hbe]at hT2
       obtain⟨hB2,hP2⟩:=hT2.close (by simp);have hl2:=hle l (mkD g1 a) false ⟨0,0⟩ hlen;simp (disch:=omega) [go_sem,Qq,ha,hsa,hsa',hbf,hbg,hbs,hvt,Ux,Sg4.cs,P2.cs,Qf,Qc,Qk,Qm];refine⟨⟨by omega,by omega⟩,⟨by omega,by omega,by omega⟩,?_⟩;refine Xg (vs:=[Qq l,blV l.length (mkD g1 a),.b false,(⟨0,0⟩:P2).enc]) (Q4k _ _ _ _ _ _ _) hl2 rfl ?_;simp[go_sem]
       have htc:List.take ps.length cells=cells:=qe (by omega);have e4:hx.length+3=2+(hx.length+1):=by omega
       have hHs:Qf5 2 (hx++[.arr 1 2 [s.eg.1.cs],.arr (vs.length+1+1) 2 ((vs++[u.eg.1]).map P2.cs)]) (ps++[vs++[u.eg.1]]) (cells++[[.own (hx.length+3) (vs.length+1+1) 0 (vs.length+1)]]):=by
        have h9:=(hH.app [.arr 1 2 [s.eg.1.cs],.arr (vs.length+1+1) 2 ((vs++[u.eg.1]).map P2.cs)]).snoc (j:=hx.length+1) (g:=vs.length+1+1) (l:=((),vs++[u.eg.1])) (by rw[Qf];rfl);rw[<- e4]at h9
        simpa[Qf5]using h9
       have hFs:Flt (hx++[.arr 1 2 [s.eg.1.cs],.arr (vs.length+1+1) 2 ((vs++[u.eg.1]).map P2.cs)]):=hF.app λo ho n=>by
        simp only[List.mem_cons,List.not_mem_nil,or_false]at ho;rcases ho with rfl | rfl
        ·exact hcO1 n
        ·have h8:=hcO2 n;rw[qx];exact h8
       refine⟨mkD g1 a,ps++[vs++[u.eg.1]],hx++[.arr 1 2 [s.eg.1.cs],.arr (vs.length+1+1) 2 ((vs++[u.eg.1]).map P2.cs)],_,⟨hB2,?_,hHs,hFs,by simp;omega⟩,by omega,?_⟩
       ·rw[List.flatMap_append,j6];refine List.Perm.trans (List.Perm.append_left _ ?_) hP;simpa using hP2
       ·have hw:=hFs.WeakH (l:=[O.arr 1 1 [[V.own (hx.length+3) (vs.length+1+1) 0 (vs.length+1)]]]) (hx.length+2+1+1);rw[j6]at hw
        have hc9:=hHs.cl pcsD (n:=hx.length+2+1+1) (by simp;omega);simp[Qq,htc]at hc9 hw ⊢
        exact⟨Qkv _ _ _,hc9,hw⟩
end
theorem Jx {h l:List O} {id:Nat} (hid:id<h.length):(h++l)[id]?=h[id]?:=qd hid
theorem Q2w {h l:List O} {id:Nat} (hid:id<h.length) (o:O):(h++l).set id o=h.set id o++l:=List.set_append_left _ _ hid
def Qep (a b:P2):Int:=if a.x<b.x∨(a.x=b.x/\a.y<b.y) then -1 else if a=b then 0 else 1
theorem W9 (a b:P2):ltC Qep a b=decide (a.x<b.x∨(a.x=b.x/\a.y<b.y)):=by
 unfold ltC Qep;by_cases h:a.x<b.x∨(a.x=b.x/\a.y<b.y)
 ·simp[h]
 ·rw[if_neg h];by_cases h2:a=b<;>simp[h,h2]
theorem Qsw:Go.Sort.SWO (ltC Qep) where
 irrefl x:=by rw[W9];simp
 trans x y z:=by
  rw[W9,W9,W9];simp only[decide_eq_true_eq];omega
 ntrans x y z:=by
  rw[W9,W9,W9];simp only[decide_eq_false_iff_not];omega
def Qi2 (P:Program) (f:FuncId):Prop:=∀a b:P2,CallIs P f [a.enc,b.enc] (.i .i64 (Qep a b))
def Qxj (o:O) (ents:List (V × V)):Prop:=o=.mp ents∨o=.md ents
def Qhx (P:Program) (f:FuncId):Prop:=∀(h:List O) (id:Nat) (o:O) (ents:List (V × V)) (e:P2) (i q g off n:Nat) (els:List (List V)) (v:P2),Qxj o ents->h[id]?=some o ->
 Qo [1,1] e.enc ents=some (some (i,.own q g off n))->h[q]?=some (.arr g 2 els)->1<=n->off+n<=els.length->els[off]?=some v.cs ->
 ACall P f [.mp id,e.enc] h (λr h'=>r=v.enc/\((n=1/\h'=h.set id (.md (ents.eraseIdx i)))∨(n≠1/\∃o',Qxj o' (ents.set i (e.enc,.own q g (off+1) (n-1)))/\h'=h.set id o')))
section
variable {P:Program} (hm:P.follows .mixedOrders=true)
include hm
theorem Q2r {f:FuncId} (hf:Q5 P f L05.c L05.r L05.n):Qi2 P f:=by
 intro a b;refine PI hm hf ?_;unfold L05.c Qep;by_cases h1:a.x<b.x
 ·simp[go_sem,P2.enc,P2.cs,h1,L05.r]
 ·by_cases h2:a.x=b.x
  ·by_cases h3:a.y<b.y
   ·simp[go_sem,P2.enc,P2.cs,h2,h3,L05.r]
   ·by_cases h4:a.y=b.y
    ·simp[go_sem,P2.enc,P2.cs,h2,h4,p2_iff,L05.r]
    ·simp[go_sem,P2.enc,P2.cs,h2,h3,h4,p2_iff,L05.r]
  ·have h2':(a.x == b.x)=false:=by simpa using h2
   simp[go_sem,P2.enc,P2.cs,h1,h2,h2',p2_iff,L05.r]
theorem Q7j {f:FuncId} (hf:Q5 P f L07.c L07.r L07.n):Qhx P f:=by
 intro h id o ents e i q g off n els v ho hid hfe hq hn hol hv;refine Kh λhcl=>?_
 obtain⟨hlt,hid'⟩:=q8.1 hid;obtain⟨hqt,hq'⟩:=q8.1 hq;have hvl:=(q8.1 hv).1;obtain⟨_,hv'⟩:=q8.1 hv;have hqid:q≠id:=by
  rintro rfl;rw[hid]at hq
  rcases ho with rfl | rfl<;>simp at hq
 have hqs:∀o',(h.set id o')[q]?=some (.arr g 2 els):=λo'=>by rw[qt (λhh=>hqid hh.symm)];exact hq
 have hqs':∀o' (hh:q<(h.set id o').length),(h.set id o')[q]=.arr g 2 els:=λo' hh=>(q8.1 (hqs o')).2
 have hentcl:∀N,h.length<=N->∀x∈ents,x.1.cl N=true/\x.2.cl N=true:=λN hN x hx=>by
  have:=hcl N hN o (qb hid);rcases ho with rfl | rfl<;>exact this x hx
 have hpad:∀(o':O) (l:List O) (N:Nat),h.length<=N->o'.cl N->WeakH N (h.set id o'++l) (h.set id o'):=λo' l N hN ho'=>by
  have:=Qn (n:=N) (a:=l) (b:=[]) (h:=h.set id o') (λo1 h1=>by
   rcases List.mem_or_eq_of_mem_set h1 with h1 | rfl
   ·exact hcl N hN o1 h1
   ·exact ho') (by cases l<;>trivial)
  rwa [List.append_nil]at this
 refine Uw hm hf (qh rfl) ?_;unfold L07.c;generalize hK:Qbl h.length L07.r _=K;simp only[P2.enc,P2.cs]at hfe hv;have hqa:∀(o':O) (l:List O),(h.set id o'++l)[q]?=some (.arr g 2 els):=λo' l=>by
  rw[qd (by rw[List.length_set];exact hqt)];exact hqs o'
 have g0:∀(o':O) (l:List O),(h.set id o'++l)[h.length]?=l[0]?:=λo' l=>by
  have:=Qc (h.set id o') l
  rwa [List.length_set]at this
 have gk:∀(o':O) (l:List O) (k:Nat),(h.set id o'++l)[h.length+k]?=l[k]?:=λo' l k=>by
  have:=Qf (h.set id o') l k
  rwa [List.length_set]at this
 have sk:∀(o':O) (l:List O) (k:Nat) (x:O),(h.set id o'++l).set (h.length+k) x=h.set id o'++l.set k x:=λo' l k x=>by
  have:=Qk (h.set id o') l k x
  rwa [List.length_set]at this
 have fin:∀(env:List (Nat × V)) (o':O) (x:O),get 4 env=.p (h.length+1) 1 0 0->(∀N,h.length<=N->o'.cl N) ->
   ((n=1/\o'=.md (ents.eraseIdx i))∨(n≠1/\Qxj o' (ents.set i (e.enc,.own q g (off+1) (n-1))))) ->
   K .r ⟨env,h.set id o'++[x,.arr 1 2 [v.cs]]⟩:=by
  intro env o' x henv hocl hor;rw[<- hK,Q87];refine⟨[v.enc],h.set id o',?_,rfl,?_,by simp,by simp,hpad o' _ _ (by simp) (hocl _ (by simp)),rfl,?_⟩
  ·simp[L07.r,X6,henv,gk,X0,Jm,P2.cs,P2.enc]
  ·simp[P2.enc,P2.cs,V.cl,V.cl1,V.cl0]
  ·rcases hor with⟨a,rfl⟩ | ⟨a,b⟩
   ·exact .inl ⟨a,rfl⟩
   ·exact .inr ⟨a,o',b,rfl⟩
 have hecl:∀N,h.length<=N->(O.md (ents.eraseIdx i)).cl N:=λN hN x hx=>hentcl N hN x (List.mem_of_mem_eraseIdx hx)
 have hscl:∀N,h.length<=N->∀x∈ents.set i (e.enc,.own q g (off+1) (n-1)),x.1.cl N=true/\x.2.cl N=true:=λN hN x hx=>by
  rcases List.mem_or_eq_of_mem_set hx with h1 | rfl
  ·exact hentcl N hN x h1
  ·simp[P2.enc,P2.cs,V.cl,V.cl1,V.cl0];omega
 simp only[P2.enc,P2.cs]at fin hscl;by_cases h1:n=1
 ·subst h1;rcases ho with rfl | rfl
  ·simp (disch:=omega) [go_sem,P2.enc,P2.cs,hid,hid',hlt,hqt,hq,hq',hfe,hv,hv',hvl,hqa,gk,g0,sk,Qf,Qc,Qk,Qm,Jx hlt,Q2w hlt,Jx hqt];exact fin _ _ _ (by simp[go_sem]) hecl (.inl ⟨rfl,rfl⟩)
  ·simp (disch:=omega) [go_sem,P2.enc,P2.cs,hid,hid',hlt,hqt,hq,hq',hfe,hv,hv',hvl,hqa,gk,g0,sk,Qf,Qc,Qk,Qm,Jx hlt,Q2w hlt,Jx hqt];exact fin _ _ _ (by simp[go_sem]) hecl (.inl ⟨rfl,rfl⟩)
 ·have hn1:¬ ((n:Int)=1):=by omega
  have hn2:(n == 1)=false:=by simpa using h1
  rcases ho with rfl | rfl
  ·simp (disch:=omega) [go_sem,P2.enc,P2.cs,hid,hid',hlt,hqt,hq,hq',hfe,hv,hv',hvl,hqa,gk,g0,sk,h1,hn1,hn,Qf,Qc,Qk,Qm,Jx hlt,Q2w hlt,Jx hqt];refine⟨by omega,fin _ _ _ ?_ ?_ ?_⟩
   ·simp[go_sem]
   ·exact λN hN=>hscl N hN
   ·exact .inr ⟨h1,.inl rfl⟩
  ·simp (disch:=omega) [go_sem,P2.enc,P2.cs,hid,hid',hlt,hqt,hq,hq',hfe,hv,hv',hvl,hqa,gk,g0,sk,h1,hn1,hn,Qf,Qc,Qk,Qm,Jx hlt,Q2w hlt,Jx hqt];refine⟨by omega,fin _ _ _ ?_ ?_ ?_⟩
   ·simp[go_sem]
   ·exact λN hN=>hscl N hN
   ·exact .inr ⟨h1,.inr rfl⟩
end
def Be (L:List (P2 × Int)) (e:P2):Int:=match Zf e L with | some (_,n)=>n | none=>0
def Uy (L:List (P2 × Int)) (e:P2) (d:Int):List (P2 × Int):=Qjd e (Be L e+d) L
theorem Qio (L:List (P2 × Int)) (e:P2):Be L e=((Zf e L).map Prod.snd).getD 0:=by
 unfold Be;cases Zf e L with
 | none=>rfl
 | some p=>rfl
theorem Q34 (L:List (P2 × Int)) (e e':P2) (d:Int):Be (Uy L e d) e'=Be L e'+if e'=e then d else 0:=by
 rw[Qio (Uy L e d),Uy,Qyd];by_cases h:e'=e
 ·subst h;simp
 ·rw[if_neg h,if_neg h,<- Qio];omega
def Ql8 (L:List (P2 × Int)):Prop:=(L.map Prod.fst).Nodup
theorem Q4w {L:List (P2 × Int)} (h:Ql8 L) (e:P2) (d:Int):Ql8 (Uy L e d)/\(Uy L e d).length<=L.length+1/\∀x,x∈(Uy L e d).map Prod.fst↔x∈L.map Prod.fst∨x=e:=by
 have hk:=Qr7 e (Be L e+d) L;unfold Ql8 Uy;rw[hk];have hl:(Qjd e (Be L e+d) L).length=((Qjd e (Be L e+d) L).map Prod.fst).length:=by simp
 rw[hl,hk];by_cases hm:e∈L.map Prod.fst
 ·rw[if_pos hm];refine⟨h,by simp,λx=>⟨.inl,?_⟩⟩;rintro (hx | rfl)
  ·exact hx
  ·exact hm
 ·rw[if_neg hm];refine⟨?_,by simp,λx=>by simp⟩;rw[List.nodup_append];exact⟨h,by simp,λa ha b hb=>by simp at hb;subst hb;rintro rfl;exact hm ha⟩
def U1 (l:List Sg4) (k:Nat):List (P2 × Int):=(l.take k).foldl (λL s=>Uy (Uy L s.eg.1 1) s.eg.2 (-1)) []
theorem Qea {l:List Sg4} {k:Nat} {s:Sg4} (h:l[k]?=some s):U1 l (k+1)=Uy (Uy (U1 l k) s.eg.1 1) s.eg.2 (-1):=by
 unfold U1;rw[List.take_add_one,h];simp
theorem Q7s (l:List Sg4):∀k,k<=l.length->Ql8 (U1 l k)/\(U1 l k).length<=2*k/\(∀p,Be (U1 l k) p=Jb (egs (l.take k)) p)/\∀e∈egs (l.take k),e.1∈(U1 l k).map Prod.fst/\e.2∈(U1 l k).map Prod.fst
 | 0,_=>⟨by simp[U1,Ql8],by simp[U1],λp=>by simp[U1,Be,Zf,Jb,egs],by simp[egs]⟩
 | k+1,h=>by
   obtain⟨h1,h2,h3,h4⟩:=Q7s l k (by omega);have hq:=Yo (show k<l.length by omega);generalize Yn l k=s at hq;obtain⟨a1,a2,a3⟩:=Q4w h1 s.eg.1 1;obtain⟨b1,b2,b3⟩:=Q4w a1 s.eg.2 (-1);rw[Qea hq,Q1e l hq];refine⟨b1,by omega,λp=>?_,λe he=>?_⟩
   ·rw[Q34,Q34,h3,Qew];by_cases c1:p=s.eg.1<;>by_cases c2:p=s.eg.2
    ·rw[if_pos c1,if_pos c2,if_pos c1.symm,if_pos c2.symm];omega
    ·rw[if_pos c1,if_neg c2,if_pos c1.symm,if_neg (λh=>c2 h.symm)];omega
    ·rw[if_neg c1,if_pos c2,if_neg (λh=>c1 h.symm),if_pos c2.symm];omega
    ·rw[if_neg c1,if_neg c2,if_neg (λh=>c1 h.symm),if_neg (λh=>c2 h.symm)];omega
   ·rcases qg.1 he with he | he
    ·obtain⟨q1,q2⟩:=h4 e he;exact⟨(b3 _).2 (.inl ((a3 _).2 (.inl q1))),(b3 _).2 (.inl ((a3 _).2 (.inl q2)))⟩
    ·rw[qn.1 he];exact⟨(b3 _).2 (.inl ((a3 _).2 (.inr rfl))),(b3 _).2 (.inr rfl)⟩
theorem Qwd (l:List Sg4):Q4u (egs l)=(U1 l l.length).all λp=>decide (p.2=0):=by
 obtain⟨h1,h2,h3,h4⟩:=Q7s l l.length (Nat.le_refl _);rw[qi]at h3 h4
 have hv:∀p n,(p,n)∈U1 l l.length->n=Jb (egs l) p:=by
  intro p n hp;obtain⟨i,hi⟩:=qq hp;have:=Xj h1 hi;rw[<- h3 p];unfold Be;rw[this]
 rw[Bool.eq_iff_iff];unfold Q4u;rw[qj,qj];constructor
 ·rintro h ⟨p,n⟩ hp;have hb:=balB_iff.1 (qj.2 h:Q4u (egs l)=true) p;have:=hv p n hp;unfold Jb at this;simp only[decide_eq_true_eq];omega
 ·intro h e he;obtain⟨k1,k2⟩:=h4 e he;obtain⟨⟨p1,n1⟩,m1,rfl⟩:=qo.1 k1;obtain⟨⟨p2,n2⟩,m2,e2⟩:=qo.1 k2;have z1:=h _ m1;have z2:=h _ m2;have v1:=hv _ _ m1;have v2:=hv _ _ m2;simp only[decide_eq_true_eq]at z1 z2;simp only[]at e2;rw[e2]at v2
  simp only[Bool.and_eq_true,decide_eq_true_eq];exact⟨by omega,by omega⟩
def evI (n:Int):V:=.i .i64 n
theorem Qhw (M:List (P2 × Int)) (n:Nat):∀(a b:V) (x:P2) (y:Int),(x,y)∈M->asG P2.enc evI (x,y)=(a,b)->a.cl n=true/\b.cl n=true:=by
 intro a b x y _ he;simp only[asG,evI,Prod.mk.injEq]at he;obtain⟨rfl,rfl⟩:=he;simp[P2.enc,P2.cs,V.cl,V.cl1,V.cl0]
theorem Qf0 {M:List (P2 × Int)} {e:P2} {d:Int} (h1:-100000<=Be M e+d) (h2:Be M e+d<=100000) :
  (Qo [1,1] e.enc (M.map (asG P2.enc evI))=some none/\M.map (asG P2.enc evI)++[(e.enc,.i .i64 d)]=(Uy M e d).map (asG P2.enc evI)) ∨
  ∃(i:Nat) (n:Int),Qo [1,1] e.enc (M.map (asG P2.enc evI))=some (some (i,.i .i64 n))/\M[i]?=some (e,n)/\IntKind.i64.wrap (n+d)=n+d /\
   (M.map (asG P2.enc evI)).set i (e.enc,.i .i64 (n+d))=(Uy M e d).map (asG P2.enc evI):=by
 have hf:=Ke Ez evI e M;unfold Uy Qjd;unfold Be at *
 cases hfn:Zf e M with
 | none =>
   rw[hfn]at hf
   refine .inl ⟨hf,?_⟩;simp[asG,evI]
 | some p =>
   obtain⟨i,n⟩:=p;rw[hfn]at hf h1 h2
   simp only[]at h1 h2;refine .inr ⟨i,n,hf,?_,Q0 (by omega) (by omega),?_⟩
   ·exact Y7 hfn
   ·rw[List.map_set];rfl
theorem Jp {α β:Type} (f:α->β) (M:List α) (x:β):(M.map f++[x])[M.length]?=some x:=by
 rw[qf (by simp)];simp
theorem Jo {α β:Type} (f:α->β) (M:List α) (x y:β):(M.map f++[x]).set M.length y=M.map f++[y]:=by
 have:=jq (s:=M.map f) (t:=[x]) (x:=y) M.length (by simp);rw[this];simp
theorem Jn {α β:Type} (f:α->β) {M:List α} {i:Nat} {y:α} (h:M[i]?=some y) (x:β):((M.map f).set i x)[i]?=some x:=by
 have:=(q8.1 h).1;rw[qm (by simpa using this)]
def SeenZ (M:List (P2 × Int)) (seen:List Nat):Prop:=∀i∈seen,∀p,M[i]?=some p->p.2=0
section
variable {P:Program} (hm:P.follows .mixedOrders=true)
include hm
theorem Bw {f:FuncId} (hf:Q5 P f L03.c L03.r L03.n):Qf8 P f:=by
 intro l hl;rw[Qwd];refine PI hm hf ?_;unfold L03.c;simp[go_sem,Qq];refine Q8 (α:=Nat) (λk=>k<=l.length)
  (λk=>⟨[(3,.mp 0),(9,Qq l),(10,.i .i64 l.length),(11,.i .i64 k)],[.mp ((U1 l k).map (asG P2.enc evI))]⟩)
  (λk=>l.length-k) 0 (Nat.zero_le _) ?_ ?_
 ·simp[go_sem,Qq,U1]
 ·intro k hk;by_cases hkl:k=l.length
  ·subst hkl;obtain⟨h1,h2,_,_⟩:=Q7s l l.length (Nat.le_refl _);generalize U1 l l.length=M at *
   generalize hB:(M.all λp=>decide (p.2=0))=B;simp[go_sem,Qq];refine Q8 (α:=List Nat) (λseen=>SeenZ M seen)
    (λseen=>⟨[(31,.p 1 1 0 0)],[.mp (M.map (asG P2.enc evI)),.it (some 0) M.length seen]⟩)
    (λseen=>left M.length seen) [] (by simp[SeenZ]) ?_ ?_
   ·simp[go_sem];exact Qhw _ _
   ·intro seen hseen;simp[go_sem,Mnx];refine⟨λhall=>?_,?_⟩
    ·obtain rfl:true=B:=by
      rw[<- hB];symm
      rw[qj];intro p hp;obtain⟨i,hi⟩:=qq hp;simpa using hseen i (hall i (q8.1 hi).1) p hi
     simp[go_sem,L03.r]
    ·rintro i a b e n hi hab hni;simp only[asG,Prod.mk.injEq]at hab;obtain⟨rfl,rfl⟩:=hab;have hil:i<M.length:=(q8.1 hi).1;have hleft:=Qp5 hil hni;have hgi:(M.map (asG P2.enc evI))[i]?=some (e.enc,.i .i64 n):=by rw[qp,hi];rfl
     simp[go_sem,hi,asG,evI];by_cases hn:n=0
     ·subst hn;simp[go_sem];refine⟨seen++[i],?_,hleft,?_,rfl⟩
      case refine_2 =>
       rintro a b x y hxy rfl rfl;exact Qhw M 2 _ _ x y hxy rfl
      intro j hj p hp;rcases qg.1 hj with h | h
      ·exact hseen j h p hp
      ·rw[qn.1 h,hi]at hp
       obtain rfl:=Option.some.inj hp
       rfl
     ·obtain rfl:false=B:=by
       rw[<- hB];symm
       rw[List.all_eq_false];exact⟨_,qb hi,by simpa using hn⟩
      have hnb:(n != 0)=true:=by simpa using hn
      simp[go_sem,hn,hnb,L03.r]
  ·have hlt:k<l.length:=by omega
   have hq:=Yo hlt;generalize Yn l k=s at hq;obtain⟨_,hq'⟩:=q8.1 hq;obtain⟨m1,m2,m3,m4⟩:=Q7s l k hk;have hms:=Qea hq;have hb1:=Qhu (egs (l.take k)) s.eg.1;have hb2:=Qhu (egs (l.take k)) s.eg.2;rw[<- m3,Iz,qv]at hb1 hb2
   have hv2:=Q34 (U1 l k) s.eg.1 s.eg.2 1;generalize U1 l k=M at *
   have hbb:-8200<=Be (Uy M s.eg.1 1) s.eg.2/\Be (Uy M s.eg.1 1) s.eg.2<=8200:=by
    rw[hv2];split<;>omega
   have hM2l:(Uy M s.eg.1 1).length<=M.length+1:=(Q4w m1 _ _).2.1;have R1:=Qf0 (M:=M) (e:=s.eg.1) (d:=1) (by omega) (by omega);have R2:=Qf0 (M:=Uy M s.eg.1 1) (e:=s.eg.2) (d:=-1) (by omega) (by omega);rw[<- hms]at R2
   have hcl:=Qhw (U1 l (k+1)) 1;generalize hM2:U1 l (k+1)=M2 at *
   generalize Uy M s.eg.1 1=M1 at *
   have hk1:s.eg.1.enc=V.a [V.i .i64 s.a.1,V.i .i64 s.a.2]:=rfl;have hk2:s.eg.2.enc=V.a [V.i .i64 s.b.1,V.i .i64 s.b.2]:=rfl;have w1:IntKind.i64.wrap 1=1:=rfl;have wm1:IntKind.i64.wrap (-1)=-1:=rfl;rw[hk1]at R1
   rw[hk2]at R2
   clear hms hv2;have e1:∀n:Int,asG P2.enc evI (s.eg.1,n)=(V.a [V.i .i64 s.a.1,V.i .i64 s.a.2],.i .i64 n):=λ_=>rfl
   have e2:∀n:Int,asG P2.enc evI (s.eg.2,n)=(V.a [V.i .i64 s.b.1,V.i .i64 s.b.2],.i .i64 n):=λ_=>rfl
   rcases R1 with⟨a1,a2⟩ | ⟨i,n,a1,a2,a3,a4⟩
   ·rcases R2 with⟨b1,b2⟩ | ⟨i',n',b1,b2,b3,b4⟩
    ·
     simp (disch:=omega) [go_sem,Qq,hlt,hq,hq',Sg4.cs,a1,a2,b1,b2,w1,wm1,Jp,Jo,e1,e2];refine⟨k+1,by omega,by omega,Q0 (by omega) (by omega),by rw[hM2],?_⟩;rw[hM2];exact hcl
    ·
     have b3':IntKind.i64.wrap (n'-1)=n'+-1:=b3;simp (disch:=omega) [go_sem,Qq,hlt,hq,hq',Sg4.cs,a1,a2,b1,b2,b3',b4,Jn _ b2,w1,wm1,Jp,Jo,e1,e2];refine⟨k+1,by omega,by omega,Q0 (by omega) (by omega),by rw[hM2],?_⟩;rw[hM2];exact hcl
   ·rcases R2 with⟨b1,b2⟩ | ⟨i',n',b1,b2,b3,b4⟩
    ·
     simp (disch:=omega) [go_sem,Qq,hlt,hq,hq',Sg4.cs,a1,a2,a3,a4,Jn _ a2,b1,b2,w1,wm1,Jp,Jo,e1,e2];refine⟨k+1,by omega,by omega,Q0 (by omega) (by omega),by rw[hM2],?_⟩;rw[hM2];exact hcl
    ·
     have b3':IntKind.i64.wrap (n'-1)=n'+-1:=b3;simp (disch:=omega) [go_sem,Qq,hlt,hq,hq',Sg4.cs,a1,a2,a3,a4,Jn _ a2,b1,b2,b3',b4,Jn _ b2,w1,wm1,Jp,Jo,e1,e2];refine⟨k+1,by omega,by omega,Q0 (by omega) (by omega),by rw[hM2],?_⟩;rw[hM2];exact hcl
end
theorem Q07 {α β:Type} (f:α->β):∀(l:List α) (i:Nat),(l.map f).eraseIdx i=(l.eraseIdx i).map f
 | [],_=>rfl
 | _::_,0=>rfl
 | a::l,i+1=>by simp[Q07 f l i]
theorem Ww {α:Type}:∀(l:List α) (i:Nat) (a:α),l[i]?=some a->l.set i a=l
 | [],_,_,_=>rfl
 | b::l,0,a,h=>by simp at h;simp[h]
 | b::l,i+1,a,h=>by simp at h;simp[Ww l i a h]
structure PJz where
 j:Nat
 g:Nat
 o:Nat
 n:Nat
def evP (p:PJz):V:=.own p.j p.g p.o p.n
def Q5q (F:P2->List P2) (e:P2) (l:List P2):P2->List P2:=λk=>if k=e then l else F k
theorem Kj (F:P2->List P2) (e:P2) (l:List P2):Q5q F e l e=l:=if_pos rfl
theorem Jf {F:P2->List P2} {e k:P2} {l:List P2} (h:k≠e):Q5q F e l k=F k:=if_neg h
def PF (F:P2->List P2) (R:List Eg):Prop:=∀k,((R.filter λe=>decide (e.1=k)).map Prod.snd).Perm (F k)
theorem PF.mem {F:P2->List P2} {R:List Eg} (h:PF F R) {k v:P2}:v∈F k↔(k,v)∈R:=by
 rw[<- (h k).mem_iff,qo];constructor
 ·rintro⟨⟨a,b⟩,he,rfl⟩;obtain⟨h1,h2⟩:=qu.1 he;obtain rfl:a=k:=by simpa using h2
  exact h1
 ·intro hv;exact⟨(k,v),qu.2 ⟨hv,by simp⟩,rfl⟩
theorem PF.take {F:P2->List P2} {R:List Eg} (h:PF F R) {e v:P2} {l:List P2} (he:F e=v::l):∃R',R.Perm ((e,v)::R')/\PF (Q5q F e l) R':=by
 have hm:(e,v)∈R:=h.mem.1 (by rw[he];simp);refine⟨R.erase (e,v),List.perm_cons_erase hm,λk=>?_⟩;have hp:=((List.perm_cons_erase hm).filter λx=>decide (x.1=k)).map Prod.snd;have hk:=h k;by_cases hke:k=e
 ·subst hke;rw[Kj];rw[he]at hk
  rw[List.filter_cons,if_pos (by simp),List.map_cons]at hp
  exact(hp.symm.trans hk).cons_inv
 ·rw[Jf hke];rw[List.filter_cons,if_neg (by simpa using λh=>hke h.symm)]at hp
  exact hp.symm.trans hk
theorem PF.none {F:P2->List P2} {R:List Eg} (h:PF F R) {k:P2}:F k=[]↔∀e∈R,e.1≠k:=by
 constructor
 ·rintro hk ⟨a,b⟩ he rfl;have:=h.mem.2 he;rw[hk]at this;simp at this
 ·intro hn;refine List.eq_nil_iff_forall_not_mem.2 λv hv=>?_
  exact hn _ (h.mem.1 hv) rfl
structure PoolAt (b:Nat) (h:List O) (id:Nat) (o:O) (KJ:List (P2 × PJz)) (F:P2->List P2):Prop where
 mp:Qxj o (KJ.map (asG P2.enc evP))
 ob:h[id]?=some o
 val:∀(i:Nat) (k:P2) (p:PJz),KJ[i]?=some (k,p)->p.n=(F k).length/\1<=p.n/\∃els:List P2,h[p.j]?=some (.arr p.g 2 (els.map P2.cs))/\p.o+p.n<=els.length/\(els.drop p.o).take p.n=F k
 key:(KJ.map Prod.fst).Nodup
 lt:∀(i:Nat) (k:P2) (p:PJz),KJ[i]?=some (k,p)->p.j<b
 none:∀e,Zf e KJ=Option.none->F e=[]
theorem PoolAt.app {b:Nat} {h:List O} {id:Nat} {o:O} {KJ:List (P2 × PJz)} {F:P2->List P2} (H:PoolAt b h id o KJ F) (l:List O):PoolAt b (h++l) id o KJ F where
 mp:=H.mp
 ob:=by rw[qd (q8.1 H.ob).1];exact H.ob
 val i k p hi:=by
  obtain⟨h1,h2,els,h3,h4⟩:=H.val i k p hi;exact⟨h1,h2,els,by rw[qd (q8.1 h3).1];exact h3,h4⟩
 key:=H.key
 lt:=H.lt
 none:=H.none
theorem PoolAt.sub {b:Nat} {h l:List O} {id:Nat} {o:O} {KJ:List (P2 × PJz)} {F:P2->List P2} (H:PoolAt b (h++l) id o KJ F) (hb:b<=h.length) (hid:id<h.length):PoolAt b h id o KJ F where
 mp:=H.mp
 ob:=by have:=H.ob;rwa [qd hid]at this
 val i k p hi:=by
  obtain⟨h1,h2,els,h3,h4⟩:=H.val i k p hi;have:=H.lt i k p hi;exact⟨h1,h2,els,by rwa [qd (by omega)]at h3,h4⟩
 key:=H.key
 lt:=H.lt
 none:=H.none
theorem Qn6 {L:List (P2 × PJz)} {i:Nat} {e:P2} {p:PJz} (hn:(L.map Prod.fst).Nodup) (hi:L[i]?=some (e,p)):e∉(L.eraseIdx i).map Prod.fst/\∀k,k≠e->(k∈(L.eraseIdx i).map Prod.fst↔k∈L.map Prod.fst):=by
 have hlt:=(q8.1 hi).1;have hp:L.Perm ((e,p)::L.eraseIdx i):=by
  have h1:=List.eraseIdx_eq_take_drop_succ L i;have h2:L=L.take i++(e,p)::L.drop (i+1):=by
   have h3:=List.take_append_drop i L;rw[List.drop_eq_getElem_cons hlt,(q8.1 hi).2]at h3
   exact h3.symm
  rw[h1]
  conv=>lhs;rw[h2]
  exact List.perm_middle
 have hm:=hp.map Prod.fst;rw[List.map_cons]at hm
 have hnd:=hm.nodup_iff.1 hn;refine⟨(List.nodup_cons.1 hnd).1,λk hk=>?_⟩;rw[hm.mem_iff,List.mem_cons];simp[hk]
theorem PoolAt.take {b:Nat} {h:List O} {id:Nat} {o:O} {KJ:List (P2 × PJz)} {F:P2->List P2} (H:PoolAt b h id o KJ F) {e v:P2} {l:List P2} (he:F e=v::l) :
  ∃(i:Nat) (p:PJz) (els:List P2),Zf e KJ=some (i,p)/\KJ[i]?=some (e,p)/\h[p.j]?=some (.arr p.g 2 (els.map P2.cs))/\1<=p.n/\p.o+p.n<=els.length/\els[p.o]?=some v /\
   ∀o',((p.n=1/\o'=.md ((KJ.map (asG P2.enc evP)).eraseIdx i))∨(p.n≠1/\Qxj o' ((KJ.map (asG P2.enc evP)).set i (e.enc,.own p.j p.g (p.o+1) (p.n-1))))) ->
    ∃KJ',PoolAt b (h.set id o') id o' KJ' (Q5q F e l):=by
 cases hf:Zf e KJ with
 | none=>rw[H.none e hf]at he;simp at he
 | some q =>
   obtain⟨i,p⟩:=q;have hi:=Y7 hf;obtain⟨h1,h2,els,h3,h4,h5⟩:=H.val i e p hi;have hlt:=(q8.1 H.ob).1;rw[he]at h1 h5
   simp only[List.length_cons]at h1;have hv:els[p.o]?=some v:=by
    have h6:=congrArg (λl:List P2=>l[0]?) h5;simp only[jf,jh]at h6;rw[if_pos (by omega)]at h6
    simpa using h6
   have hl:(els.drop (p.o+1)).take (p.n-1)=l:=by
    have h6:=congrArg List.tail h5;simp only[List.tail_cons]at h6;rw[<- h6,<- List.drop_one,List.drop_take,List.drop_drop]
   refine⟨i,p,els,rfl,hi,h3,h2,h4,hv,?_⟩;have hkeep:∀(o':O) (j g:Nat) (x:List P2),h[j]?=some (.arr g 2 (x.map P2.cs))->(h.set id o')[j]?=some (.arr g 2 (x.map P2.cs)):=λo' j g x hj=>by
    rw[qt]
    ·exact hj
    ·rintro rfl;rw[H.ob]at hj
     rcases H.mp with h | h<;>rw[h]at hj<;>simp at hj
   rintro o' (⟨a1,a2⟩ | ⟨a1,a2⟩)
   ·obtain⟨e1,e2⟩:=Qn6 H.key hi;have hl0:l=[]:=ql (by omega);refine⟨KJ.eraseIdx i,?_,?_,?_,?_,?_,?_⟩
    ·rw[Q07]at a2;exact .inr a2
    ·rw[qm hlt]
    ·intro i' k p' hk;have hne:k≠e:=by
      rintro rfl;exact e1 (qo.2 ⟨_,qb hk,rfl⟩)
     have hm:=List.mem_of_mem_eraseIdx (qb hk);obtain⟨i2,hi2⟩:=qq hm;rw[Jf hne];obtain⟨b1,b2,els2,b3,b4⟩:=H.val i2 k p' hi2;exact⟨b1,b2,els2,hkeep _ _ _ _ b3,b4⟩
    ·exact H.key.sublist ((List.eraseIdx_sublist KJ i).map Prod.fst)
    ·intro i' k p' hk;obtain⟨i2,hi2⟩:=qq (List.mem_of_mem_eraseIdx (qb hk));exact H.lt i2 k p' hi2
    ·intro k hk;by_cases hke:k=e
     ·subst hke;rw[Kj,hl0]
     ·rw[Jf hke];refine H.none k (fndG_none.2 λhm=>?_);exact fndG_none.1 hk ((e2 k hke).2 hm)
   ·refine⟨KJ.set i (e,⟨p.j,p.g,p.o+1,p.n-1⟩),?_,?_,?_,?_,?_,?_⟩
    ·rw[List.map_set];exact a2
    ·rw[qm hlt]
    ·intro i' k p' hk;by_cases hii:i=i'
     ·subst hii;rw[qm (q8.1 hi).1]at hk
      simp only[Option.some.injEq,Prod.mk.injEq]at hk;obtain⟨rfl,rfl⟩:=hk;rw[Kj];exact⟨by simp only[];omega,by simp only[];omega,els,hkeep _ _ _ _ h3,by simp only[];omega,hl⟩
     ·rw[qt hii]at hk
      have hne:k≠e:=by
       rintro rfl;have:=Xj H.key hk;rw[hf]at this
       simp only[Option.some.injEq,Prod.mk.injEq]at this;exact hii this.1
      rw[Jf hne];obtain⟨b1,b2,els2,b3,b4⟩:=H.val i' k p' hk;exact⟨b1,b2,els2,hkeep _ _ _ _ b3,b4⟩
    ·have:(KJ.set i (e,(⟨p.j,p.g,p.o+1,p.n-1⟩:PJz))).map Prod.fst=KJ.map Prod.fst:=by
      rw[List.map_set];exact Ww _ _ _ (by rw[qp,hi];rfl)
     rw[this];exact H.key
    ·intro i' k p' hk;by_cases hii:i=i'
     ·subst hii;rw[qm (q8.1 hi).1]at hk
      simp only[Option.some.injEq,Prod.mk.injEq]at hk;obtain⟨rfl,rfl⟩:=hk;exact H.lt i _ p hi
     ·rw[qt hii]at hk
      exact H.lt i' k p' hk
    ·intro k hk;rw[Q2n hf]at hk
     split at hk
     ·simp at hk
     ·rename_i hne;rw[Jf hne];exact H.none k hk
end Go.Abs
