/- Part of the library on which the proof stands: an abstract machine, its values and its soundness against the model; or what functions of the program do to such values. -/
import Derived.Test.YtnaehggpjfdenaaGreatGoSn
import Derived.Test.YtnaehggpjfdenaaGreatGoRevC
set_option linter.unusedVariables false
set_option linter.unusedSimpArgs false
set_option maxHeartbeats 8000000
set_option maxRecDepth 20000
namespace Go.Abs
def idL (n:Nat):List Int:=(List.range n).map λ(j:Nat)=>(j:Int)
theorem Qxp (n:Nat):idL (n+1)=idL n++[(n:Int)]:=by unfold idL;rw[List.range_succ,qx];rfl
theorem Qpb (n:Nat):(idL n).length=n:=by simp[idL]
theorem Qp4:Le .nil (lsV []):=.inl (.inl (Le0.nil 1))
theorem sum_le {ts:List T3} {L K:List Int} (h:PreLab ts L) (s:Spread ts L K):Q5s K<=Q5s L:=by
 by_cases hne:K=L
 ·subst hne;exact Nat.le_refl _
 ·exact Nat.le_of_lt (s.sum h hne)
theorem frz_own {h:List O} {id g sz n:Nat} {els:List (List V)} (ho:h[id]?=some (.arr g sz els)) (hn:els.length=n) (hd:∀el∈els,∀x∈el,x.isD=true):frz h (.own id g 0 n)=some (.l sz els):=by
 subst hn;have ha:(els.all λx=>x.all V.isD)=true:=by rw[qj];exact λel hel=>qj.2 (hd el hel)
 simp[frz,Ys,ho,ha]
section
variable {P:Program} (hm:P.follows .mixedOrders=true)
include hm
theorem Q6c {f fc fs:FuncId} (hf:Q5 P f (L1f.c fc fs) L1f.r L1f.n) (hc:Y0 P fc) (hs:Qbi P fs):B8 P f:=by
 intro m;by_cases hz:m.check=0
 case neg =>
  have he:m.shells=[]:=by simp[Mesh.shells,hz]
  rw[he];refine CallIs.res (r:=.nil) ?_ Qp4;refine PI hm hf ?_;unfold L1f.c;simp[go_sem,Mesh.enc,Mesh.cs];refine Q2 (hc m) ?_;simp[go_sem,hz,L1f.r]
 have hl:=(Mesh.check_zero.1 hz).2.1;have hR:∀L,IsLab m.tris L->m.shells=Yf L L.length:=λL hL=>by unfold Mesh.shells;rw[if_pos hz,Ey hL]
 refine PureC.is (Q1x hm hf (qh rfl) ?_) rfl;unfold L1f.c;have hpre:=Qvi m.tris;have hidl:∀n,(List.range n).map (λ(j:Nat)=>(j:Int))=idL n:=λ_=>rfl
 rw[hidl]at hpre
 simp[go_sem,Mesh.enc,Mesh.cs,tsV];refine Q2 (hc m) ?_;simp[go_sem,hz];refine Qi [.t 3 1] (α:=Nat) (λk=>k<=m.tris.length)
  (λk=>⟨[(1,.p 0 1 0 0),(3,.own 1 (k+1) 0 k),(15,.i .i64 m.tris.length),(16,.i .i64 k)],[.arr 1 2 [m.cs],.arr (k+1) 1 (ics (idL k))]⟩)
  (λk=>m.tris.length-k) 0 (Nat.zero_le _) ?_ ?_
 ·simp[go_sem,Mesh.cs,vsV,tsV,idL,ics]
 ·intro k hk;by_cases hkl:k=m.tris.length
  ·subst hkl;have hil:=Qpb m.tris.length;simp[go_sem,Mesh.cs];generalize idL m.tris.length=I at *
   refine Q8 (α:=Option (List Int × Bool)) (λx=>match x with | none=>True | some (L,ag)=>PreLab m.tris L/\(ag=false->IsLab m.tris L))
    (λx=>match x with
     | none=>⟨[(1,.p 0 1 0 0),(3,.own 1 (m.tris.length+1) 0 m.tris.length),(5,.b true)],[.arr 1 2 [m.cs],.arr (m.tris.length+1) 1 (ics I)]⟩
     | some (L,ag)=>⟨[(1,.p 0 1 0 0),(3,isV L),(5,.b ag)],[.arr 1 2 [m.cs],.dead]⟩)
    (λx=>match x with | none=>Q5s I+2 | some (L,true)=>Q5s L+1 | some (L,false)=>0) none trivial ?_ ?_
   ·simp[go_sem,Mesh.cs,vsV,tsV];exact Xu _ _
   ·rintro (_ | ⟨L,ag⟩) hx
    ·have hsp:=Q1g hpre;have hs1:=hs m I hz hpre;have hps:=hpre.spread hsp;have hsl:=sum_le hpre hsp;have hfix:J4 m.tris I m.tris.length=I->IsLab m.tris I:=λh=>Spread.fix hpre (by rw[h]at hsp;exact hsp)
     generalize J4 m.tris I m.tris.length=K at *
     simp[go_sem,Mesh.cs];have hfz:frz [O.arr 1 2 [[vsV m.verts,tsV m.tris]],.arr (m.tris.length+1) 1 (ics I)] (.own 1 (m.tris.length+1) 0 m.tris.length)=some (isV I):=frz_own rfl (by simp[ics,hil]) (Q7x I);refine Y8 (vs:=[m.enc,isV I]) ?_ hs1 ?_
     ·unfold Zh;simp only[List.mapM_cons,List.mapM_nil,hfz]
      rfl
     simp[go_sem];by_cases hKI:K=I
     ·refine⟨some (K,false),⟨hps,λ_=>by rw[hKI];exact hfix hKI⟩,?_,?_⟩
      ·simp only;omega
      ·simp[go_sem,hKI,Q03,vsV,tsV,isV,Mesh.cs]
     ·refine⟨some (K,true),⟨hps,λh=>by cases h⟩,?_,?_⟩
      ·simp only;omega
      ·simp[go_sem,hKI,Q03,vsV,tsV,isV,Mesh.cs]
    ·obtain⟨hL,hlab⟩:=hx;cases ag
     ·have hLab:=hlab rfl;rw[hR L hLab];have hLl:=hLab.len;simp[go_sem,Mesh.cs,isV];refine Qi [.t 6 1] (α:=Nat × List O × List (List V)) (λp=>p.1<=L.length/\Held 3 p.2.1 (Yf L p.1) p.2.2/\Flt p.2.1/\(Yf L p.1).length<=p.1)
       (λp=>⟨[(3,isV L),(6,.own 2 ((Yf L p.1).length+1) 0 (Yf L p.1).length),(31,isV L),(32,.i .i64 L.length),(33,.i .i64 p.1)],
        .dead::.dead::.arr ((Yf L p.1).length+1) 1 p.2.2::p.2.1⟩)
       (λp=>L.length-p.1) (0,[],[]) ⟨Nat.zero_le _,Held.nil 3,by simp[Flt],by simp[Yf]⟩ ?_ ?_
      ·simp[go_sem,isV,Yf]
      ·rintro⟨k,hx,cells⟩ ⟨hk,hH,hF,hkl⟩;simp only at hk hH hF hkl ⊢;by_cases hkl:k=L.length
       ·subst hkl;have hfz:=Qpc (base:=[.dead,.dead,.arr ((Yf L L.length).length+1) 1 cells]) hH rfl;simp only[List.cons_append,List.nil_append]at hfz;generalize Yf L L.length=D at *
        simp[go_sem,isV,L1f.r,Q2z];rw[hfz];rfl
       ·have hlt:k<L.length:=by omega
        have hp:L[k]?=some L[k]:=q9 hlt;have hst:=Q3a L k;have hlow:=shK_low hLab k;generalize hv:L[k]=v at hp;obtain⟨_,hp'⟩:=q8.1 hp;rw[hp]at hst
        by_cases hvk:v=k
        ·rw[if_pos (by rw[hvk])]at hst
         simp (disch:=omega) [go_sem,isV,hlt,hp,hp',hvk,Q0];refine Qi [.t 8 1] (α:=Nat) (λj=>k<=j/\j<=L.length)
          (λj=>⟨[(3,isV L),(6,.own 2 ((Yf L k).length+1) 0 (Yf L k).length),(7,.i .i64 k),(8,.own (hx.length+3) ((shK L k j).length+1) 0 (shK L k j).length),(9,.i .i64 j),(31,isV L),(32,.i .i64 L.length),(33,.i .i64 k)],
           .dead::.dead::.arr ((Yf L k).length+1) 1 cells::(hx++[.arr ((shK L k j).length+1) 1 (ics (shK L k j))])⟩)
          (λj=>L.length-j) k ⟨Nat.le_refl _,by omega⟩ ?_ ?_
         ·rw[hlow];simp[go_sem,isV,ics];exact⟨hH.cl (by omega),Qn (λo ho=>hF o ho _) (by simp[go_sem])⟩
         ·rintro j ⟨hj1,hj2⟩;by_cases hjl:j=L.length
          ·subst hjl;generalize shK L k L.length=w at *
           generalize hls:Yf L k=ls at *
           have htc:List.take ls.length cells=cells:=qe (by rw[hH.1];exact Nat.le_refl _);have e4:hx.length+3=3+hx.length:=by omega
           have hHs:Held 3 (hx++[.arr (w.length+1) 1 (ics w)]) (ls++[w]) (cells++[[.own (hx.length+3) (w.length+1) 0 w.length]]):=by
            rw[e4];exact(hH.app _).snoc (by rw[Qc];rfl)
           have hFs:Flt (hx++[.arr (w.length+1) 1 (ics w)]):=hF.app λo ho n=>by
            simp at ho;subst ho;exact Xu w n
           simp (disch:=omega) [go_sem,isV,Q0,Qf,Qc,htc];refine⟨⟨by have:=hH.1;omega,by omega,by omega⟩,k+1,hx++[.arr (w.length+1) 1 (ics w)],_,⟨by omega,by rw[hst];exact hHs,hFs,by rw[hst];simp only[j7,List.length_cons,List.length_nil];omega⟩,by omega,by simp,⟨by rw[hst];simp,by simp⟩,⟨⟨by rw[hst];simp,rfl⟩,hHs.cl (by simp;omega)⟩,?_⟩
           have:=hFs.WeakH (l:=[O.arr 1 1 [[V.own (hx.length+3) (w.length+1) 0 w.length]]]) ((hx++[O.arr (w.length+1) 1 (ics w)]).length+1+1+1)
           rwa [j6]at this
          ·have hjt:j<L.length:=by omega
           have hq:L[j]?=some L[j]:=q9 hjt;have hss:=Qv5 L k j;generalize L[j]=u at hq;obtain⟨_,hq'⟩:=q8.1 hq;rw[hq]at hss
           have hwl:(shK L k j).length<=j:=by
            unfold shK;rw[List.length_map];have:=jc (λj=>decide (L[j]?=some (k:Int))) (List.range j);simpa using this
           have htw:List.take (shK L k j).length (ics (shK L k j))=ics (shK L k j):=qe (by simp[ics]);have hwi:(shK L k j).length<=(ics (shK L k j)).length:=by simp[ics]
           by_cases huk:u=k
           ·rw[if_pos (by rw[huk])]at hss
            have hics:ics (shK L k (j+1))=ics (shK L k j)++[[.i .i64 (j:Int)]]:=by rw[hss];simp[ics]
            have hsl:(shK L k (j+1)).length=(shK L k j).length+1:=by rw[hss];simp
            generalize hw:shK L k j=w at *
            simp (disch:=omega) [go_sem,isV,hjt,hq,hq',huk,Q0,Qf,Qc,htw,hwi];refine⟨⟨by omega,by omega⟩,j+1,⟨by omega,by omega⟩,by omega,⟨hsl.symm,by simp⟩,hH.cl (by omega),?_⟩;rw[hics,hsl];exact Qn (λo ho=>hF o ho _) ⟨.inr ⟨rfl,by rw[<- hics];exact Xu _ _⟩,trivial⟩
           ·rw[if_neg (by simpa using huk),List.append_nil]at hss
            generalize hw:shK L k j=w at *
            simp (disch:=omega) [go_sem,isV,hjt,hq,hq',huk,Q0,Qf,Qc];refine⟨j+1,⟨by omega,by omega⟩,by omega,⟨by rw[hss],by simp⟩,hH.cl (by omega),?_⟩;rw[hss];exact Qn (λo ho=>hF o ho _) ⟨.inr ⟨rfl,Xu _ _⟩,trivial⟩
        ·rw[if_neg (by simpa using hvk),List.append_nil]at hst
         have hvb:(v != (k:Int))=true:=by simpa using hvk
         simp (disch:=omega) [go_sem,isV,hlt,hp,hp',hvk,hvb,Q0];exact⟨k+1,hx,cells,⟨by omega,by rw[hst];exact hH,hF,by rw[hst];omega⟩,by omega,Nat.le_refl _,⟨by rw[hst],by simp⟩,⟨⟨by rw[hst],rfl⟩,hH.cl (by omega)⟩,hF.WeakH' _⟩
     ·have hsp:=Q1g hL;have hs1:=hs m L hz hL;have hps:=hL.spread hsp;have hsl:=λh=>hsp.sum hL h
      have hfix:J4 m.tris L m.tris.length=L->IsLab m.tris L:=λh=>Spread.fix hL (by rw[h]at hsp;exact hsp)
      generalize J4 m.tris L m.tris.length=K at *
      simp[go_sem,Mesh.cs];refine Q2 hs1 ?_;simp[go_sem];by_cases hKI:K=L
      ·refine⟨some (K,false),⟨hps,λ_=>by rw[hKI];exact hfix hKI⟩,?_,?_⟩
       ·simp only;omega
       ·simp[go_sem,hKI,vsV,tsV,isV,Mesh.cs]
      ·refine⟨some (K,true),⟨hps,λh=>by cases h⟩,?_,?_⟩
       ·have:=hsl hKI;simp only;omega
       ·simp[go_sem,hKI,vsV,tsV,isV,Mesh.cs]
  ·have hlt:k<m.tris.length:=by omega
   have hil:=Qpb k;have hsu:=Qxp k;have htk:List.take k (ics (idL k))=ics (idL k):=qe (by simp[ics,hil]);have hic:ics (idL (k+1))=ics (idL k)++[[.i .i64 (k:Int)]]:=by rw[hsu];simp[ics]
   generalize idL k=I at *
   simp (disch:=omega) [go_sem,Mesh.cs,hlt,Q0,htk];exact⟨⟨by simp[ics,hil],by omega,by omega⟩,k+1,by omega,by omega,⟨rfl,by simp⟩,⟨rfl,rfl⟩,⟨rfl,hic.symm⟩,Xu _ _⟩
end
theorem UM.cl2 {hx:List O} {KJ:List (P2 × (Nat × Nat))} {Q:List (P2 × Int)} (h:UM hx KJ Q) {N:Nat} (hN:hx.length+2<=N):∀(a b:V) (x:P2) (y z:Nat),(x,y,z)∈KJ->asG P2.enc evU (x,y,z)=(a,b)->a.cl N=true/\b.cl N=true:=λa b x y z hm he=>by
 have:=h.cl hN (asG P2.enc evU (x,y,z)) (qo.2 ⟨_,hm,rfl⟩);rw[he]at this
 exact this
theorem Qmk (m:Mesh) (N:Nat):∀x∈m.cs,x.cl N=true:=by
 intro x hx;simp[Mesh.cs]at hx
 rcases hx with rfl | rfl<;>rfl
theorem Flt.one {o:O} (h:∀n,o.cl n):Flt [o]:=λx hx n=>by simp at hx;subst hx;exact h n
theorem fe_cl (e:P2) (n:Nat):(O.arr 1 2 [[V.i .i64 e.x,V.i .i64 e.y]]).cl n:=by
 intro el hel x hx;simp at hel;subst hel;simp at hx;rcases hx with rfl | rfl<;>rfl
theorem Kn {α:Type} [BEq α] [LawfulBEq α]:∀{A B:List α},A.Nodup->(∀a∈A,a∈B)->A.length<=B.length
 | [],_,_,_=>Nat.zero_le _
 | a::A,B,h,hs=>by
   have h1:=List.nodup_cons.1 h;have h2:=Kn (A:=A) (B:=B.erase a) h1.2 λb hb=>by
    rw[List.mem_erase_of_ne (by rintro rfl;exact h1.1 hb)];exact hs b (by simp[hb])
   rw[List.length_erase_of_mem (hs a (by simp))]at h2
   have:=List.length_pos_of_mem (hs a (by simp));simp only[List.length_cons];omega
theorem Part.len {ts:List T3} {D S:List Int} {i:Nat} (h:Part ts D S i):S.length<=ts.length:=by
 have h1:=(List.nodup_append.1 h.nodup).2.1;have h2:=Kn (B:=(List.range ts.length).map λ(j:Nat)=>(j:Int)) h1 λv hv=>by
  obtain⟨h0,hc⟩:=h.mem v hv;exact qo.2 ⟨v.toNat,qz.2 hc.lt.2,by omega⟩
 simpa using h2
def BfK (ts:List T3) (D S:List Int) (k:Nat):Prop:=∀(k':Nat) (v:Int),k'<k->S[k']?=some v->∀j:Nat,adjI ts v.toNat j->(j:Int)∈D++S
structure BfI (ts:List T3) (D S:List Int) (i k:Nat) (v:Int) (E:List P2):Prop where
 part:Part ts D S i
 bk:BfK ts D S k
 at_:S[k]?=some v
 ed:∀e∈E,∀w∈usL (Q18 ts ts.length) e.und,w∈D++S
theorem Qai {D S:List Int} {u w:Int} (h:w∈D++S):w∈D++(S++[u]):=by
 rcases qg.1 h with h | h<;>simp[h]
theorem BfI.add {ts:List T3} {D S:List Int} {i k:Nat} {v u:Int} {E:List P2} (h:BfI ts D S i k v E) (hu:0<=u) (hadj:adjI ts v.toNat u.toNat) (hn:u∉D++S):BfI ts D (S++[u]) i k v E:=by
 have hk:=(q8.1 h.at_).1;refine⟨h.part.add (qb h.at_) hu hadj hn,λk' w hk' hw j hj=>?_,by rw[qd hk];exact h.at_,λe he w hw=>Qai (h.ed e he w hw)⟩;rw[qd (by omega)]at hw
 exact Qai (h.bk k' w hk' hw j hj)
theorem BfI.more {ts:List T3} {D S:List Int} {i k:Nat} {v:Int} {E:List P2} (h:BfI ts D S i k v E) {e:P2} (ha:∀w∈usL (Q18 ts ts.length) e.und,w∈D++S):BfI ts D S i k v (E++[e]) :=
 ⟨h.part,h.bk,h.at_,λe' he w hw=>by
  rcases qg.1 he with h1 | h1
  ·exact h.ed e' h1 w hw
  ·simp at h1;subst h1;exact ha w hw⟩
theorem BfI.next {ts:List T3} {D S:List Int} {i k:Nat} {v:Int} (h:BfI ts D S i k v (Q4 (tAt ts v.toNat))):BfK ts D S (k+1):=λk' w hk' hw j hj=>by
 by_cases hkk:k'=k
 ·subst hkk;rw[h.at_]at hw
  obtain rfl:=Option.some.inj hw;obtain⟨e,he,hm⟩:=(adj_us hj.lt.1).1 hj;exact h.ed e he _ hm
 ·exact h.bk k' w (by omega) hw j hj
theorem old0 {ts:List T3} {L:List Int} (hL:IsLab ts L):Old ts L [] 0 :=
 ⟨by simp,λv=>by
  constructor
  ·intro h;simp at h
  ·rintro⟨j,_,_,u,h3,h4⟩;have:=(hL.con j u h3).1;omega⟩
section
variable {P:Program} (hm:P.follows .mixedOrders=true)
include hm
theorem Q8g {f fc fe fu fs:FuncId} (hf:Q5 P f (L40.c fc fe fu fs) L40.r L40.n) (hc:Y0 P fc) (he:Xf P fe) (hu:Qnu P fu) (hs:Qhz P fs):B8 P f:=by
 intro m;by_cases hz:m.check=0
 case neg =>
  have he:m.shells=[]:=by simp[Mesh.shells,hz]
  rw[he];refine CallIs.res (r:=.nil) ?_ Qp4;refine PI hm hf ?_;unfold L40.c;simp[go_sem,Mesh.enc,Mesh.cs];refine Q2 (hc m) ?_;simp[go_sem,hz,L40.r]
 have hl:=(Mesh.check_zero.1 hz).2.1;obtain⟨L,hL⟩:=Qgt m.tris;have hR:m.shells=Yf L L.length:=by unfold Mesh.shells;rw[if_pos hz,Ey hL]
 rw[hR];have hLl:=hL.len;refine PureC.is (Q1x hm hf (qh rfl) ?_) rfl;unfold L40.c;simp[go_sem,Mesh.enc,Mesh.cs,tsV];refine Q2 (hc m) ?_;simp[go_sem,hz];refine Q8 (α:=Nat × List O × List (P2 × (Nat × Nat))) (λp=>p.1<=m.tris.length/\UM p.2.1 p.2.2 (Q18 m.tris p.1)/\Flt p.2.1)
  (λp=>⟨[(1,.p 0 1 0 0),(3,.mp 1),(22,tsV m.tris),(23,.i .i64 m.tris.length),(24,.i .i64 p.1)],.arr 1 2 [m.cs]::.mp (p.2.2.map (asG P2.enc evU))::p.2.1⟩)
  (λp=>m.tris.length-p.1) (0,[],[]) ⟨Nat.zero_le _,UM.nil,by simp[Flt]⟩ ?_ ?_
 ·simp[go_sem,Mesh.cs,vsV,tsV]
 ·rintro⟨i,hx,KJ⟩ ⟨hi,hU,hF⟩;simp only at hi hU hF ⊢;by_cases hil:i=m.tris.length
  ·subst hil;simp[go_sem,Mesh.cs,tsV,mk_nil];have hmcs:m.cs=[vsV m.verts,.l 3 (m.tris.map T3.cs)]:=rfl;obtain⟨pre,hpre⟩:∃pre:List (List V)->Nat->List (List V)->List O,pre=λM g C=>.arr 1 2 [m.cs]::.mp (KJ.map (asG P2.enc evU))::(hx++[.arr 1 1 M,.arr g 1 C]):=⟨_,rfl⟩
   obtain⟨mi,hmi⟩:∃mi,mi=hx.length+2:=⟨_,rfl⟩
   obtain⟨oi,hoi⟩:∃oi,oi=hx.length+3:=⟨_,rfl⟩
   obtain⟨N,hN⟩:∃N,N=hx.length+4:=⟨_,rfl⟩
   have plen:∀M g C,(pre M g C).length=N:=λM g C=>by rw[hpre,hN];simp
   have f0:∀M g C l,(pre M g C++l)[0]?=some (.arr 1 2 [m.cs]):=λM g C l=>by rw[hpre];rfl
   have f1:∀M g C l,(pre M g C++l)[1]?=some (.mp (KJ.map (asG P2.enc evU))):=λM g C l=>by rw[hpre];rfl
   have fm:∀M g C l,(pre M g C++l)[mi]?=some (.arr 1 1 M):=λM g C l=>by rw[hpre,hmi];simp[Qc,Qf]
   have fo:∀M g C l,(pre M g C++l)[oi]?=some (.arr g 1 C):=λM g C l=>by rw[hpre,hoi];simp[Qc,Qf]
   have fu:∀M g C l j o,hx[j]?=some o->(pre M g C++l)[j+2]?=some o:=λM g C l j o h=>by rw[hpre];simp only[List.cons_append,List.getElem?_cons_succ,j6];exact X1 h
   have fk0:∀M g C l,(pre M g C++l)[N]?=l[0]?:=λM g C l=>by rw[<- plen M g C];exact Qc _ _
   have fk:∀M g C l k,(pre M g C++l)[N+k]?=l[k]?:=λM g C l k=>by rw[<- plen M g C];exact Qf _ _ _
   have sm:∀M M' g C l,(pre M g C++l).set mi (.arr 1 1 M')=pre M' g C++l:=λM M' g C l=>by rw[hpre,hmi];simp[Qm,Qk]
   have so:∀M g g' C C' l,(pre M g C++l).set oi (.arr g' 1 C')=pre M g' C'++l:=λM g g' C C' l=>by rw[hpre,hoi];simp[Qm,Qk]
   have sk:∀M g C l k o,(pre M g C++l).set (N+k) o=pre M g C++l.set k o:=λM g C l k o=>by rw[<- plen M g C];exact Qk _ _ _ _
   have pcl:∀D g C n',N<=n'->(∀el∈C,∀x∈el,x.cl n'=true)->∀o∈pre (mk m.tris.length D) g C,o.cl n':=by
    intro D g C n' hn hC o ho;rw[hpre]at ho
    simp only[List.mem_cons,qg,List.not_mem_nil,or_false]at ho;rcases ho with rfl | rfl | ho | rfl | rfl
    ·intro el hel x hx';simp at hel;subst hel;exact Qmk m n' x hx'
    ·exact hU.cl (by omega)
    ·exact hF o ho n'
    ·exact mk_cl _ _ _
    ·exact hC
   refine⟨⟨by omega,by omega⟩,?_⟩;refine Qi [.t 8 1] (α:=Nat × List Int × List (List V) × List O) (λp=>p.1<=m.tris.length/\Old m.tris L p.2.1 p.1/\Held N p.2.2.2 (Yf L p.1) p.2.2.1/\Flt p.2.2.2/\(Yf L p.1).length<=p.1)
    (λp=>⟨[(1,.p 0 1 0 0),(3,.mp 1),(8,.own oi ((Yf L p.1).length+1) 0 (Yf L p.1).length),(9,.own mi 1 0 m.tris.length),(54,.i .i64 m.tris.length),(55,.i .i64 p.1)],
     pre (mk m.tris.length p.2.1) ((Yf L p.1).length+1) p.2.2.1++p.2.2.2⟩)
    (λp=>m.tris.length-p.1) (0,[],[],[]) ⟨Nat.zero_le _,old0 hL,Held.nil N,by simp[Flt],by simp[Yf]⟩ ?_ ?_
   ·simp[go_sem,hpre,hmi,hoi,Yf,hmcs];exact⟨rfl,hU.cl2 (by omega),Qn (λo ho=>hF o ho _) ⟨.inr ⟨rfl,mk_cl _ _ _⟩,.inr ⟨rfl,by simp[O.cl]⟩,trivial⟩⟩
   ·rintro⟨i,D,cells,hy⟩ ⟨hi,hD,hH,hFy,hsl⟩;simp only at hi hD hH hFy hsl ⊢;clear hpre;by_cases hil:i=m.tris.length
    ·subst hil;rw[hLl];have hfz:=Qpc (base:=pre (mk m.tris.length D) ((Yf L m.tris.length).length+1) cells) hH (plen _ _ _);generalize hls:Yf L m.tris.length=ls at *
     simp[go_sem,L40.r,Q2z,fo];rw[hfz];rfl
    ·have hlt:i<m.tris.length:=by omega
     have hmg:=Qw8 (n:=m.tris.length) (d:=D) (v:=(i:Int)) (by omega) (by omega);rw[Int.toNat_natCast]at hmg
     obtain⟨_,hmg'⟩:=q8.1 hmg;have hst:=Q3a L i;generalize hls:Yf L i=ls at *
     by_cases hd:(i:Int)∈D
     ·obtain⟨hD2,hne⟩:=hD.skip hL hd;rw[if_neg hne,List.append_nil]at hst
      rw[decide_eq_true hd]at hmg hmg'
      simp (disch:=omega) [go_sem,hlt,fm,hmg,hmg',Q0];refine⟨i+1,D,cells,hy,⟨by omega,hD2,by rw[hst];exact hH,hFy,by rw[hst];omega⟩,by omega,?_⟩;rw[hst];simp[go_sem,plen];exact⟨⟨by omega,by omega,by omega,by omega⟩,Qn (pcl _ _ _ _ (by simp) (hH.cl (by simp))) (hFy.WeakH' _)⟩
     ·have hLi:=hD.own hL hlt hd;rw[if_pos hLi]at hst
      rw[decide_eq_false hd]at hmg hmg'
      have hP0:=Part.one hD hlt hd;have hms:=λd=>Qw7 (n:=m.tris.length) (d:=d) (v:=(i:Int)) (by omega)
      simp only[Int.toNat_natCast]at hms;simp (disch:=omega) [go_sem,hlt,fm,sm,hmg,hmg',hms,plen,Q0];have hwk:∀(D' S':List Int) (a:Nat) (l:List O) (n':Nat),N+hy.length<=n'->WeakH n' (pre (mk m.tris.length D') (ls.length+1) cells++(hy++(O.arr a 1 (ics S')::l))) (pre (mk m.tris.length D') (ls.length+1) cells++(hy++[O.arr a 1 (ics S')])) :=
       λD' S' a l n' hn=>Qn (pcl _ _ _ _ (by omega) (hH.cl (by omega))) (Qn (λo ho=>hFy o ho _) ⟨.inr ⟨rfl,Xu _ _⟩,by cases l<;>trivial⟩)
      have hcell:=hH.1;refine Q8 (α:=Nat × List Int) (λp=>p.1<=p.2.length/\Part m.tris D p.2 i/\BfK m.tris D p.2 p.1)
       (λp=>⟨[(1,.p 0 1 0 0),(3,.mp 1),(8,.own oi (ls.length+1) 0 ls.length),(9,.own mi 1 0 m.tris.length),(11,.own (N+hy.length) p.2.length 0 p.2.length),(12,.i .i64 p.1),(54,.i .i64 m.tris.length),(55,.i .i64 i)],
        pre (mk m.tris.length (D++p.2)) (ls.length+1) cells++(hy++[.arr p.2.length 1 (ics p.2)])⟩)
       (λp=>m.tris.length-p.1) (0,[(i:Int)]) ⟨by simp,hP0,λ_ _ h=>by omega⟩ ?_ ?_
      ·simp[go_sem,ics,plen];exact⟨⟨by omega,by omega,by omega,by omega⟩,hwk _ [(i:Int)] 1 [] _ (by omega)⟩
      ·rintro⟨k,S⟩ ⟨hk,hP,hB⟩;simp only at hk hP hB ⊢;have hSl:=hP.len;have gS:∀M g C g' els l,(pre M g C++(hy++(O.arr g' 1 els::l)))[N+hy.length]?=some (.arr g' 1 els):=λM g C g' els l=>by rw[fk,Qc];rfl
       have gT:∀M g C o x l,(pre M g C++(hy++(o::x::l)))[N+(hy.length+1)]?=some x:=λM g C o x l=>by rw[fk,Qf];rfl
       have sS:∀M g C o o' l,(pre M g C++(hy++(o::l))).set (N+hy.length) o'=pre M g C++(hy++(o'::l)):=λM g C o o' l=>by rw[sk,Qm];rfl
       by_cases hkl:k=S.length
       ·subst hkl;have hall:=hP.all hL hD hlt hLi λv hv j hj=>by
         obtain⟨k',hk'⟩:=qq hv;exact hB k' v (q8.1 hk').1 hk' j hj
        have hso:=Quy (List.nodup_append.1 hP.nodup).2.1 hall;have hon:=hD.next hL hP.nodup hall;rw[hLl]at hst
        generalize shK L i m.tris.length=W at *
        have hWl:W.length=S.length:=by rw[<- hso];simp[Zn]
        have hcall:=hs (pre (mk m.tris.length (D++S)) (ls.length+1) cells++(hy++[O.arr S.length 1 (ics S)])) (N+hy.length) S.length S (by omega) (gS _ _ _ _ _ _);rw[sS,hso]at hcall
        have htc:List.take ls.length cells=cells:=qe (by omega);have hHs:Held N (hy++[O.arr S.length 1 (ics W)]) (ls++[W]) (cells++[[.own (N+hy.length) S.length 0 S.length]]):=by
         have:=(hH.app [O.arr S.length 1 (ics W)]).snoc (j:=hy.length) (l:=W) (g:=S.length) (by rw[Qc];rfl)
         rwa [hWl]at this
        have hFs:Flt (hy++[O.arr S.length 1 (ics W)]):=hFy.app (Flt.one λn=>Xu W n);simp (disch:=omega) [go_sem,gS];refine Qt hcall ?_;change Nx P _ _ _ _ _ (pre (mk m.tris.length (D++S)) (ls.length+1) cells++(hy++[O.arr S.length 1 (ics W)]));simp (disch:=omega) [go_sem,fo,so,htc,gT,plen,Q0]
        refine⟨⟨by omega,by omega,by omega⟩,i+1,D++S,_,hy++[O.arr S.length 1 (ics W)],⟨by omega,hon,by rw[hst];exact hHs,hFs,by rw[hst];simp;omega⟩,by omega,?_⟩;rw[hst];simp[go_sem,plen];exact⟨⟨by omega,by omega,by omega,by omega⟩,Qn (pcl _ _ _ _ (by omega) (hHs.cl (by simp))) (Qn (λo ho=>hFy o ho _) ⟨.inr ⟨rfl,Xu _ _⟩,trivial⟩)⟩
       ·have hkS:k<S.length:=by omega
        have hv:S[k]?=some S[k]:=q9 hkS;generalize S[k]=v at hv;obtain⟨hv0,hvc⟩:=hP.mem v (qb hv);have hvl:=hvc.lt.2;have hic:(ics S)[k]?=some [V.i .i64 v]:=by simp[ics,hv]
        obtain⟨hicl,hic'⟩:=q8.1 hic;have ht:=Zt hvl;generalize htt:tAt m.tris v.toNat=t at ht;obtain⟨_,ht'⟩:=q8.1 ht;have hvl2:v<m.tris.length:=by omega
        simp (disch:=omega) [go_sem,f0,hmcs,hkS,gS,hic,hic',hicl,ht,ht',hvl,hvl2,hv0,tcs,Q0];refine Qa (he t) ?_;have hlen:(Q4 t).length<=3:=Zj t 3;have hnx:∀S',BfI m.tris D S' i k v (Q4 t)->BfK m.tris D S' (k+1):=λS' h=>by rw[<- htt]at h;exact h.next
        have htm:m.tris[v.toNat]?=some t:=ht;have hel:∀e∈Q4 t,e∈Q4 t:=λe h=>h
        generalize hEE:Q4 t=E at hlen hnx hel;simp[go_sem,psV];refine Q8 (α:=Nat × List Int) (λp=>p.1<=E.length/\BfI m.tris D p.2 i k v (E.take p.1))
         (λp=>⟨[(1,.p 0 1 0 0),(3,.mp 1),(8,.own oi (ls.length+1) 0 ls.length),(9,.own mi 1 0 m.tris.length),(11,.own (N+hy.length) p.2.length 0 p.2.length),(12,.i .i64 k),(54,.i .i64 m.tris.length),(55,.i .i64 i),(81,psV E),(82,.i .i64 E.length),(83,.i .i64 p.1)],
          pre (mk m.tris.length (D++p.2)) (ls.length+1) cells++(hy++[.arr p.2.length 1 (ics p.2)])⟩)
         (λp=>E.length-p.1) (0,S) ⟨Nat.zero_le _,hP,hB,hv,by simp⟩ ?_ ?_
        ·simp[go_sem,psV,plen];exact⟨⟨by omega,by omega,by omega,by omega⟩,hwk _ S _ [] _ (by omega)⟩
        ·clear hP hB hv hic hicl hic' hkl hkS hk hSl;rintro⟨q,S⟩ ⟨hq,hI⟩;simp only at hq hI ⊢;have hSl:=hI.part.len;have hkS:=(q8.1 hI.at_).1;by_cases hql:q=E.length
         ·subst hql;rw[qi]at hI
          have hB:=hnx S hI;simp (disch:=omega) [go_sem,psV,Q0,plen];exact⟨k+1,S,⟨by omega,hI.part,hB⟩,by omega,⟨by omega,by omega,by omega,by omega,rfl,by simp⟩,hwk _ S _ [] _ (by omega)⟩
         ·have hqE:q<E.length:=by omega
          have hee:E[q]?=some E[q]:=q9 hqE;generalize E[q]=e at hee;have heE:e∈E:=qb hee;have htk:=Q6 hee;obtain⟨_,hee'⟩:=q8.1 hee;have hfe:Qo [1,1] (V.a [.i .i64 e.und.x,.i .i64 e.und.y]) (KJ.map (asG P2.enc evU))=_:=Ke Ez evU e.und KJ;simp (disch:=omega) [go_sem,psV,hqE,hee,hee',pcs,gT,Qc,Qf];refine Q2 (hu e) ?_;cases hfn:Zf e.und KJ with
          | none =>
            rw[hfn,Option.map_none]at hfe
            have hus:=hU.none _ hfn;simp (disch:=omega) [go_sem,P2.enc,P2.cs,f1,hfe,Q0];refine Q8 (α:=Unit) (λ_=>True)
             (λ_=>⟨[(1,.p 0 1 0 0),(3,.mp 1),(8,.own oi (ls.length+1) 0 ls.length),(9,.own mi 1 0 m.tris.length),(11,.own (N+hy.length) S.length 0 S.length),(12,.i .i64 k),(54,.i .i64 m.tris.length),(55,.i .i64 i),(81,psV E),(82,.i .i64 E.length),(83,.i .i64 q),(91,.i .i64 0),(92,.i .i64 0)],
              pre (mk m.tris.length (D++S)) (ls.length+1) cells++(hy++[.arr S.length 1 (ics S)])⟩)
             (λ_=>0) () trivial ?_ ?_
            ·simp[go_sem,psV,plen];exact⟨⟨by omega,by omega,by omega,by omega⟩,hwk _ S _ _ _ (by omega)⟩
            ·intro _ _;simp (disch:=omega) [go_sem,psV,plen,Q0];exact⟨q+1,S,⟨by omega,by rw[htk];exact hI.more (by rw[hus];simp)⟩,by omega,⟨by omega,by omega,by omega,by omega,rfl,by simp⟩,hwk _ S _ [] _ (by omega)⟩
          | some w =>
            obtain⟨p,jj,n⟩:=w;rw[hfn,Option.map_some]at hfe
            obtain⟨hn,hjj⟩:=hU.val p e.und jj n (Y7 hfn);have hjjl:=(q8.1 hjj).1;have gU:=λM g C l=>fu M g C l jj _ hjj
            have hmU:∀w∈usL (Q18 m.tris m.tris.length) e.und,∃j:Nat,j<m.tris.length/\w=(j:Int)/\adjI m.tris v.toNat j:=λw hw=>by
             obtain⟨j,h1,h2,a,ha,hab⟩:=mem_allP.1 (mem_usL.1 hw);exact⟨j,h1,h2,t,_,htm,Zt h1,e,by rw[hEE];exact heE,a,ha,hab.symm⟩
            have hmore:=λS' (h:BfI m.tris D S' i k v (E.take q))=>h.more (e:=e)
            have hUl:=Qok (Q18 m.tris m.tris.length) e.und;have hAl:=Ql0 m.tris m.tris.length;generalize usL (Q18 m.tris m.tris.length) e.und=U at hn hjj gU hmU hmore hUl;subst hn;simp (disch:=omega) [go_sem,P2.enc,P2.cs,f1,hfe,evU,gU,Q0];refine Q8 (α:=Nat × List Int) (λp=>p.1<=U.length/\BfI m.tris D p.2 i k v (E.take q)/\∀w∈U.take p.1,w∈D++p.2)
             (λp=>⟨[(1,.p 0 1 0 0),(3,.mp 1),(8,.own oi (ls.length+1) 0 ls.length),(9,.own mi 1 0 m.tris.length),(11,.own (N+hy.length) p.2.length 0 p.2.length),(12,.i .i64 k),(54,.i .i64 m.tris.length),(55,.i .i64 i),(81,psV E),(82,.i .i64 E.length),(83,.i .i64 q),(90,.own (jj+2) U.length 0 U.length),(91,.i .i64 U.length),(92,.i .i64 p.1)],
              pre (mk m.tris.length (D++p.2)) (ls.length+1) cells++(hy++[.arr p.2.length 1 (ics p.2)])⟩)
             (λp=>U.length-p.1) (0,S) ⟨Nat.zero_le _,hI,by simp⟩ ?_ ?_
            ·simp[go_sem,psV,plen];exact⟨⟨by omega,by omega,by omega,by omega,by omega⟩,hwk _ S _ _ _ (by omega)⟩
            ·clear hI hSl hkS;rintro⟨r,S⟩ ⟨hr,hI,hmr⟩;simp only at hr hI hmr ⊢;have hSl:=hI.part.len;by_cases hrl:r=U.length
             ·subst hrl;rw[qi]at hmr
              simp (disch:=omega) [go_sem,psV,plen,Q0];exact⟨q+1,S,⟨by omega,by rw[htk];exact hmore S hI hmr⟩,by omega,⟨by omega,by omega,by omega,by omega,rfl,by simp⟩,hwk _ S _ [] _ (by omega)⟩
             ·have hrU:r<U.length:=by omega
              have hur:U[r]?=some U[r]:=q9 hrU;obtain⟨j,hjl,hju,hadj⟩:=hmU _ (qb hur);rw[hju]at hur
              have htr:=Q6 hur;have hicU:(ics U)[r]?=some [V.i .i64 (j:Int)]:=by simp[ics,hur]
              obtain⟨hiclU,hicU'⟩:=q8.1 hicU;have hmg:=Qw8 (n:=m.tris.length) (d:=D++S) (v:=(j:Int)) (by omega) (by omega);rw[Int.toNat_natCast]at hmg
              obtain⟨hmgl,hmg'⟩:=q8.1 hmg;have hms:=Qw7 (n:=m.tris.length) (d:=D++S) (v:=(j:Int)) (by omega);rw[Int.toNat_natCast]at hms
              by_cases hjm:(j:Int)∈D++S
              ·rw[decide_eq_true hjm]at hmg hmg'
               have hmr2:∀w∈U.take (r+1),w∈D++S:=λw hw=>by
                rw[htr]at hw
                rcases qg.1 hw with h | h
                ·exact hmr w h
                ·simp at h;subst h;exact hjm
               generalize hDS:D++S=DS at *
               simp (disch:=omega) [go_sem,psV,gU,hrU,hur,hicU,hicU',hiclU,fm,hmg,hmg',plen,Q0];exact⟨hjl,r+1,S,⟨by omega,hI,λw hw=>qg.1 (by rw[hDS];exact hmr2 w hw)⟩,by omega,⟨by omega,by omega,by omega,by omega,rfl,by omega,by simp⟩,by rw[hDS];exact hwk DS S _ [] _ (by omega)⟩
              ·rw[decide_eq_false hjm]at hmg hmg'
               have hI2:=hI.add (u:=(j:Int)) (by omega) (by rw[Int.toNat_natCast];exact hadj) hjm;have hmr2:∀w∈U.take (r+1),w∈D++(S++[(j:Int)]):=λw hw=>by
                rw[htr]at hw
                rcases qg.1 hw with h | h
                ·exact Qai (hmr w h)
                ·simp at h;subst h;simp
               have htS:List.take S.length (ics S)=ics S:=qe (by simp[ics]);have hiS:S.length<=(ics S).length:=by simp[ics]
               have hDS2:D++(S++[(j:Int)])=D++S++[(j:Int)]:=(j6 _ _ _).symm;have hicsS:ics (S++[(j:Int)])=ics S++[[.i .i64 (j:Int)]]:=by simp[ics]
               generalize hDS:D++S=DS at *
               simp (disch:=omega) [go_sem,psV,gU,hrU,hur,hicU,hicU',hiclU,fm,sm,gS,sS,gT,htS,hiS,hmg,hmg',hms,plen,Q0];refine⟨hjl,⟨by omega,by omega⟩,r+1,S++[(j:Int)],⟨by omega,hI2,λw hw=>qg.1 (hmr2 w hw)⟩,by omega,⟨by omega,by omega,by omega,by omega,by simp,by omega,by simp⟩,?_⟩;rw[hDS2,hicsS,j7,List.length_singleton]
               have:=hwk (DS++[(j:Int)]) (S++[(j:Int)]) (S.length+1) [] (N+(hy.length+1)) (by omega)
               rwa [hicsS]at this
  ·have hlt:i<m.tris.length:=by omega
   have hp:=Zt hlt;have hps:=Qez m.tris i;have hal:=Ql0 m.tris i;generalize tAt m.tris i=t at hp hps;obtain⟨_,hp'⟩:=q8.1 hp;generalize hQ:Q18 m.tris i=Q at *
   simp[go_sem,Mesh.cs,tsV,hlt,hp,hp',tcs,Qc,Qf];refine Q2 (he t) ?_;have hlen:(Q4 t).length<=3:=Zj t 3;simp[go_sem,psV];refine Q8 (α:=Nat × List O × List (P2 × (Nat × Nat))) (λp=>p.1<=(Q4 t).length/\UM p.2.1 p.2.2 (Q++((Q4 t).take p.1).map λe=>(e.und,(i:Int)))/\Flt p.2.1)
    (λp=>⟨[(1,.p 0 1 0 0),(3,.mp 1),(4,.i .i64 i),(22,tsV m.tris),(23,.i .i64 m.tris.length),(24,.i .i64 i),(30,psV (Q4 t)),(31,.i .i64 (Q4 t).length),(32,.i .i64 p.1)],.arr 1 2 [m.cs]::.mp (p.2.2.map (asG P2.enc evU))::p.2.1⟩)
    (λp=>(Q4 t).length-p.1) (0,hx++[.arr 1 3 [t.cs]],KJ) ⟨Nat.zero_le _,by simpa using hU.app _,hF.app (by simp[Flt,O.cl,Ky])⟩ ?_ ?_
   ·simp[go_sem,Mesh.cs,tsV,vsV,psV];exact⟨hU.cl2 (by omega),(hF.app (Flt.one (o:=.arr 1 3 [t.cs]) λn=>by intro el hel x hx;simp at hel;subst hel;exact of_eq_true (Ky t n) x hx)).WeakH' _⟩
   ·rintro⟨j,hx,KJ⟩ ⟨hj,hU,hF⟩;simp only at hj hU hF ⊢;by_cases hjl:j=(Q4 t).length
    ·subst hjl;rw[qi,<- hps]at hU
     simp (disch:=omega) [go_sem,Mesh.cs,tsV,vsV,psV,Q0];exact⟨i+1,hx,KJ,⟨by omega,hU,hF⟩,by omega,by omega,by simp,⟨rfl,hU.cl2 (by omega)⟩,hF.WeakH' _⟩
    ·have hjt:j<(Q4 t).length:=by omega
     have hq:(Q4 t)[j]?=some (Q4 t)[j]:=q9 hjt;have htk:((Q4 t).take (j+1)).map (λe=>(e.und,(i:Int)))=((Q4 t).take j).map (λe=>(e.und,(i:Int)))++[((Q4 t)[j].und,(i:Int))]:=by rw[Q6 hq,qx];rfl
     generalize (Q4 t)[j]=e at hq htk;obtain⟨_,hq'⟩:=q8.1 hq;have hQs:Q++((Q4 t).take (j+1)).map (λe=>(e.und,(i:Int)))=(Q++((Q4 t).take j).map λe=>(e.und,(i:Int)))++[(e.und,(i:Int))]:=by rw[htk,<- j6]
     have hQl:(Q++((Q4 t).take j).map λe=>(e.und,(i:Int))).length<=12300:=by rw[j7,List.length_map,qv];omega
     generalize (Q++((Q4 t).take j).map λe=>(e.und,(i:Int)))=Q1 at *
     have hul:=Qok Q1 e.und;have hfe:Qo [1,1] (V.a [.i .i64 e.und.x,.i .i64 e.und.y]) (KJ.map (asG P2.enc evU))=_:=Ke Ez evU e.und KJ;simp[go_sem,psV,hjt,hq,hq',pcs,Qc,Qf];refine Qa (hu e) ?_;simp[go_sem,P2.enc,P2.cs,Qc,Qf];refine Qa (hu e) ?_;cases hfn:Zf e.und KJ with
     | none =>
       rw[hfn,Option.map_none]at hfe
       simp (disch:=omega) [go_sem,P2.enc,P2.cs,hfe,Qc,Qf,Q0];have hF2:Flt (hx++[.arr 1 2 [[.i .i64 e.x,.i .i64 e.y]],.arr 1 1 (ics [(i:Int)])]):=hF.app λo ho n=>by
        simp at ho;rcases ho with rfl | rfl
        ·exact fe_cl e n
        ·exact Xu _ _
       have hU2:=hU.new (v:=(i:Int)) hfn (l:=[.arr 1 2 [[.i .i64 e.x,.i .i64 e.y]],.arr 1 1 (ics [(i:Int)])]) (j0:=hx.length+1) (by omega) (by rw[Qf];rfl);exact⟨j+1,_,_,⟨by omega,by rw[<- List.map_take,hQs];exact hU2,hF2⟩,by omega,by simp,⟨.inr rfl,by simp⟩,Qmk m _,⟨by rw[qx];rfl,hU2.cl2 (by simp)⟩,hF2.WeakH' _⟩
     | some q =>
       obtain⟨p,jj,n⟩:=q;rw[hfn,Option.map_some]at hfe
       obtain⟨hn,hjj⟩:=hU.val p e.und jj n (Y7 hfn);have hjjl:=(q8.1 hjj).1;have hgj:∀l:List O,(hx++l)[jj]?=some (.arr n 1 (ics (usL Q1 e.und))):=λl=>X1 hjj
       have hsj:∀(l:List O) (o:O),(hx++l).set jj o=hx.set jj o++l:=λl o=>Ua l hjjl o
       have htn:List.take n (ics (usL Q1 e.und))=ics (usL Q1 e.und):=qe (by simp[ics,hn]);have hnl:n<=(ics (usL Q1 e.und)).length:=by simp[ics,hn]
       simp (disch:=omega) [go_sem,P2.enc,P2.cs,hfe,evU,hgj,hsj,htn,hnl,Qc,Qf,Q0];have hF2:Flt (hx.set jj (.arr (n+1) 1 (ics (usL Q1 e.und)++[[.i .i64 (i:Int)]]))++[.arr 1 2 [[.i .i64 e.x,.i .i64 e.y]]]):=(hF.set λn'=>by
        have:ics (usL Q1 e.und)++[[V.i .i64 (i:Int)]]=ics (usL Q1 e.und++[(i:Int)]):=by simp[ics]
        rw[this];exact Xu _ _).app (Flt.one (fe_cl e))
       have hU2:=(hU.old (v:=(i:Int)) hfn).app [.arr 1 2 [[.i .i64 e.x,.i .i64 e.y]]];refine⟨⟨by omega,by omega⟩,λo ho=>?_,j+1,_,_,⟨by omega,by rw[<- List.map_take,hQs];exact hU2,hF2⟩,by omega,by simp,⟨.inr rfl,by simp⟩,Qmk m _,⟨by rw[List.map_set];rfl,hU2.cl2 (by simp)⟩,hF2.WeakH' _⟩;rw[List.drop_eq_nil_of_le (by simp)]at ho
       simp at ho
end
def crs (b c:V3):V3:=⟨b.y*c.z-b.z*c.y,b.z*c.x-b.x*c.z,b.x*c.y-b.y*c.x⟩
def Qyx (a b:V3):Int:=a.x*b.x+a.y*b.y+a.z*b.z
def Qhm (a b c:V3):Int:=Qyx a (crs b c)
def vAt (vs:List V3) (i:Int):V3:=(vs[i.toNat]?).getD ⟨0,0,0⟩
def Qin (vs:List V3) (t:T3):Int:=Qhm (vAt vs t.a) (vAt vs t.b) (vAt vs t.c)
def Xb (vs:List V3) (ts:List T3):Int:=(ts.map (Qin vs)).sum
def Mesh.vol6 (m:Mesh):Int:=if m.check=0 then Xb m.verts m.tris else 0
def Qtg (P:Program) (f:FuncId):Prop:=∀m:Mesh,CallIs P f [m.enc] (.i .i64 m.vol6)
def Qtw (P:Program) (f:FuncId):Prop:=∀a b c:V3,a.valid=true->b.valid=true->c.valid=true->CallIs P f [a.enc,b.enc,c.enc] (.i .i64 (Qhm a b c))
theorem Q1a (vs:List V3):Xb vs []=0:=rfl
theorem Ii (vs:List V3) (t:T3) (ts:List T3):Xb vs (t::ts)=Qin vs t+Xb vs ts:=by simp[Xb]
theorem Qu8 (vs:List V3) (a b:List T3):Xb vs (a++b)=Xb vs a+Xb vs b:=by
 induction a with
 | nil=>simp[Q1a]
 | cons t a ih=>rw[List.cons_append,Ii,Ii,ih];omega
theorem Qmj {x y A B:Int} (h1:-A<=x) (h2:x<=A) (h3:-B<=y) (h4:y<=B):-(A*B)<=x*y/\x*y<=A*B:=by
 have hA:0<=A:=by omega
 have hB:0<=B:=by omega
 have a1:=Int.mul_nonneg (a:=A-x) (b:=B-y) (by omega) (by omega);have a2:=Int.mul_nonneg (a:=A+x) (b:=B+y) (by omega) (by omega);have a3:=Int.mul_nonneg (a:=A-x) (b:=B+y) (by omega) (by omega);have a4:=Int.mul_nonneg (a:=A+x) (b:=B-y) (by omega) (by omega);simp only[Int.mul_add,Int.add_mul,Int.mul_sub,Int.sub_mul]at a1 a2 a3 a4;omega
theorem Ea {x y:Int} (h1:-65536<=x) (h2:x<=65536) (h3:-65536<=y) (h4:y<=65536):-4294967296<=x*y/\x*y<=4294967296:=Qmj (A:=65536) (B:=65536) h1 h2 h3 h4
theorem crs_b {b c:V3} (hb:b.valid=true) (hc:c.valid=true):-8589934592<=(crs b c).x/\(crs b c).x<=8589934592/\-8589934592<=(crs b c).y/\(crs b c).y<=8589934592/\-8589934592<=(crs b c).z/\(crs b c).z<=8589934592:=by
 obtain⟨b1,b2,b3,b4,b5,b6⟩:=V3.valid_iff.1 hb;obtain⟨c1,c2,c3,c4,c5,c6⟩:=V3.valid_iff.1 hc;have m1:=Ea b3 b4 c5 c6;have m2:=Ea b5 b6 c3 c4;have m3:=Ea b5 b6 c1 c2;have m4:=Ea b1 b2 c5 c6;have m5:=Ea b1 b2 c3 c4;have m6:=Ea b3 b4 c1 c2;unfold crs;refine⟨?_,?_,?_,?_,?_,?_⟩<;>simp only<;>omega
theorem det3_b {a b c:V3} (ha:a.valid=true) (hb:b.valid=true) (hc:c.valid=true):-1688849860263936<=Qhm a b c/\Qhm a b c<=1688849860263936:=by
 obtain⟨b1,b2,b3,b4,b5,b6⟩:=V3.valid_iff.1 ha;obtain⟨c1,c2,c3,c4,c5,c6⟩:=crs_b hb hc;have m1:=Qmj b1 b2 c1 c2;have m2:=Qmj b3 b4 c3 c4;have m3:=Qmj b5 b6 c5 c6;unfold Qhm Qyx;omega
theorem Q7n {vs:List V3} {i:Int} (h0:0<=i) (h:i<vs.length):vs[i.toNat]?=some (vAt vs i):=by
 unfold vAt;rw[q9 (by omega)];rfl
theorem Ki {vs:List V3} (hv:K8 vs=true) {i:Int} (h0:0<=i) (h:i<vs.length):(vAt vs i).valid=true:=Qil hv (Q7n h0 h)
theorem Qu6 {vs:List V3} (hv:K8 vs=true) {t:T3} (ht:t.ok vs.length=true):-1688849860263936<=Qin vs t/\Qin vs t<=1688849860263936:=by
 obtain⟨a1,a2,b1,b2,c1,c2⟩:=T3.ok_iff.1 ht;exact det3_b (Ki hv a1 a2) (Ki hv b1 b2) (Ki hv c1 c2)
theorem Qu7 {vs:List V3} (hv:K8 vs=true):∀{ts:List T3},Ec vs.length ts=true->-1688849860263936*(ts.length:Int)<=Xb vs ts/\Xb vs ts<=1688849860263936*(ts.length:Int)
 | [],_=>by simp[Q1a]
 | t::ts,h=>by
   have h':t.ok vs.length=true/\Ec vs.length ts=true:=by simpa[Ec]using h
   have h1:=Qu6 hv h'.1;have h2:=Qu7 hv h'.2;rw[Ii,List.length_cons];omega
end Go.Abs
