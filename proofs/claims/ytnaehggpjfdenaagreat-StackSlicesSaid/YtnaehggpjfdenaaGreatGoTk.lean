/- Part of the library on which the proof stands: an abstract machine, its values and its soundness against the model; or what functions of the program do to such values. -/
import Derived.Test.YtnaehggpjfdenaaGreatGoCsA
import Derived.Test.YtnaehggpjfdenaaGreatGoHeap
set_option linter.unusedVariables false
set_option linter.unusedSimpArgs false
set_option maxHeartbeats 4000000
namespace Go.Abs
open Go.Sort
instance:Inhabited P2:=⟨⟨0,0⟩⟩
def P2.rev (e:P2):P2:=⟨e.y,e.x⟩
def P2.und (e:P2):P2:=⟨min e.x e.y,max e.x e.y⟩
def P2.ints (e:P2):List Int:=[e.x,e.y]
def Zc (m:Mesh):List (P2 × Int):=if m.check=0 then X3 (Q7 m.tris) else []
def Qbm (P:Program) (f:FuncId):Prop:=∀m:Mesh,NewC P f [m.enc] (λr h=>r=.mp 1/\h=[.dead,.mp ((Zc m).map asV)])
def Qts (P:Program) (f:FuncId):Prop:=∀e:P2,CallIs P f [e.enc] e.rev.enc
def Qnu (P:Program) (f:FuncId):Prop:=∀e:P2,CallIs P f [e.enc] e.und.enc
def OrC (P:Program) (f:FuncId):Prop:=∀x y:Int,CallIs P f [.l 1 [[.i .i64 x],[.i .i64 y]]] (.i .i64 (if x≠0 then x else y))
def Qsy (a b:P2):Int:=if Q15 a.x b.x≠0 then Q15 a.x b.x else Q15 a.y b.y
def Qo5 (P:Program) (f:FuncId):Prop:=∀a b:P2,CallIs P f [a.enc,b.enc] (.i .i64 (Qsy a b))
theorem ltE (a b:P2):ltC Qsy a b=decide (P2.lt a b):=by
 unfold ltC Qsy Q15 P2.lt;by_cases h1:a.x<b.x
 ·simp[h1]
 ·by_cases h2:b.x<a.x
  ·simp[h1,h2];omega
  ·have h3:a.x=b.x:=by omega
   by_cases h4:a.y<b.y
   ·simp[h3,h4]
   ·by_cases h5:b.y<a.y<;>simp[h3,h4,h5]
theorem swoE:SWO (ltC Qsy) where
 irrefl x:=by rw[ltE];simp[P2.lt]
 trans x y z h1 h2:=by
  rw[ltE,decide_eq_true_eq]at *
  exact P2.lt_trans h1 h2
 ntrans x y z h1 h2:=by
  rw[ltE,decide_eq_false_iff_not]at *
  unfold P2.lt at *;omega
section
variable {P:Program} (hm:P.follows .mixedOrders=true)
include hm
theorem Qbw {f:FuncId} (hf:Q5 P f L42.c L42.r L42.n):Xf P f:=E9 hm hf
theorem E3 {f:FuncId} (hf:Q5 P f L44.c L44.r L44.n):Qts P f:=by
 intro e;refine PI hm hf ?_;unfold L44.c;simp[go_sem,P2.enc,P2.cs,L44.r,P2.rev]
theorem Kx {f:FuncId} (hf:Q5 P f L45.c L45.r L45.n):Qnu P f:=by
 intro e;refine PI hm hf ?_;unfold L45.c;simp[go_sem,P2.enc,P2.cs,L45.r,P2.und,Wm,Qak]
theorem Or_ok {f:FuncId} (hf:Q5 P f L01.c L01.r L01.n):OrC P f:=by
 intro x y;refine PI hm hf ?_;unfold L01.c;simp[go_sem];refine Q8 (α:=Nat) (λk=>k<=2/\(1<=k->x=0)/\(2<=k->y=0))
  (λk=>⟨[(3,.i .i64 0),(6,.l 1 [[.i .i64 x],[.i .i64 y]]),(7,.i .i64 2),(8,.i .i64 k)],[]⟩)
  (λk=>2-k) 0 ⟨by omega,by omega,by omega⟩ ?_ ?_
 ·simp[go_sem]
 ·rintro k ⟨hk,h1,h2⟩;have w1:IntKind.i64.wrap 1=1:=rfl;have w2:IntKind.i64.wrap 2=2:=rfl;have:k=0∨k=1∨k=2:=by omega
  rcases this with rfl | rfl | rfl
  ·by_cases hx:x=0
   ·simp[go_sem,hx,w1];exact⟨1,⟨by omega,λh=>by omega⟩,by omega,rfl⟩
   ·simp[go_sem,hx,L01.r]
  ·have hx:=h1 (by omega);by_cases hy:y=0
   ·simp[go_sem,hx,hy,w2];exact⟨2,by omega,by omega,rfl⟩
   ·simp[go_sem,hx,hy,L01.r]
  ·have hx:=h1 (by omega);have hy:=h2 (by omega);simp[go_sem,hx,hy,L01.r]
theorem Qbv {f fc fo:FuncId} (hf:Q5 P f (L43.c fc fo) L43.r L43.n) (hc:CmpC P fc) (ho:OrC P fo):Qo5 P f:=by
 intro a b;refine PI hm hf ?_;unfold L43.c;simp[go_sem,P2.enc,P2.cs];refine Qa (hc a.x b.x) ?_;simp[go_sem];refine Qa (hc a.y b.y) ?_;simp[go_sem];refine Qa (ho _ _) ?_;simp[go_sem,L43.r,Qsy]
theorem Q5r {f fc fe:FuncId} (hf:Q5 P f (L41.c fc fe) L41.r L41.n) (hc:Y0 P fc) (he:Xf P fe):Qbm P f:=by
 intro m;refine Qme hm hf (qh rfl) ?_;unfold L41.c;simp[go_sem,Mesh.enc,Mesh.cs];refine Q2 (hc m) ?_;by_cases hz:m.check=0
 case neg =>
  have hT:Zc m=[]:=by simp[Zc,hz]
  simp[go_sem,hz,L41.r,hT]
 have hl:=(Mesh.check_zero.1 hz).2.1;simp[go_sem,hz,tsV];refine Q8 (α:=Nat) (λk=>k<=m.tris.length)
  (λk=>⟨[(3,.mp 1),(14,tsV m.tris),(15,.i .i64 m.tris.length),(16,.i .i64 k)],[.dead,.mp ((X3 (Q7 (m.tris.take k))).map asV)]⟩)
  (λk=>m.tris.length-k) 0 (by omega) ?_ ?_
 ·simp[go_sem,tsV,Q7,X3]
 ·intro k hk;by_cases hkl:k=m.tris.length
  ·subst hkl;rw[qi];have hT:Zc m=X3 (Q7 m.tris):=by simp[Zc,hz]
   simp[go_sem,tsV,L41.r,hT];exact Jd _ 2
  ·have hlt:k<m.tris.length:=by omega
   have hp:m.tris[k]?=some m.tris[k]:=q9 hlt;generalize m.tris[k]=t at hp;obtain⟨_,hp'⟩:=q8.1 hp;simp[go_sem,tsV,hlt,hp',tcs];refine Q2 (he t) ?_;have hlen:(Q4 t).length<=3:=Zj t 3;have hE:=Yw m.tris k;generalize hA:Q7 (m.tris.take k)=A0;simp[go_sem,psV];refine Q8 (α:=Nat) (λj=>j<=(Q4 t).length)
    (λj=>⟨[(3,.mp 1),(14,tsV m.tris),(15,.i .i64 m.tris.length),(16,.i .i64 k),(21,psV (Q4 t)),(22,.i .i64 (Q4 t).length),(23,.i .i64 j)],[.dead,.mp ((X3 (A0++(Q4 t).take j)).map asV)]⟩)
    (λj=>(Q4 t).length-j) 0 (by omega) ?_ ?_
   ·simp[go_sem,tsV,psV];exact Jd _ 2
   ·intro j hj;by_cases hjl:j=(Q4 t).length
    ·subst hjl;simp (disch:=omega) [go_sem,tsV,psV,Q0];exact⟨k+1,by omega,by omega,by omega,by rw[Zy hp,hA],Jd _ 2⟩
    ·have hjlt:j<(Q4 t).length:=by omega
     have hq:(Q4 t)[j]?=some (Q4 t)[j]:=q9 hjlt;have htk:(Q4 t).take (j+1)=(Q4 t).take j++[(Q4 t)[j]]:=by rw[List.take_add_one,hq];rfl
     generalize (Q4 t)[j]=e at hq htk;obtain⟨_,hq'⟩:=q8.1 hq;have hS1:A0++(Q4 t).take (j+1)=(A0++(Q4 t).take j)++[e]:=by rw[htk,<- j6]
     generalize hS:A0++(Q4 t).take j=S at hS1;have hT1:=Ue S e;rw[<- hS1]at hT1
     generalize hL:X3 S=L at hT1;have h1:=Kq e L;unfold Ql1 at hT1;cases hfn:fnd e L with
     | some p =>
       obtain⟨i,n⟩:=p;rw[hfn]at h1 hT1
       simp only[Option.map_some]at h1;simp only at hT1;have hn:n=S.count e:=by
        have:=Q33 S e;rw[hL,val,hfn]at this
        exact this
       have hcl:S.count e<=S.length:=List.count_le_length;have hSl:S.length<=3*4096:=by
        rw[<- hS,<- hA,j7,qv];omega
       have h3:fnd e (L.set i (e,n+1))=some (i,n+1):=(Uq (n':=n+1) hfn).2;have hil:i<L.length:=(q8.1 (Uq (n':=n+1) hfn).1).1;have hil':i<(List.map asV L).length:=by simpa using hil
       have wn:IntKind.i64.wrap (n+1)=n+1:=Q0 (by omega) (by omega);simp[go_sem,psV,hjlt,hq',pcs,h1,wn,qm hil',List.set_set];refine⟨j+1,by omega,by omega,⟨.inr rfl,Q0 (by omega) (by omega)⟩,?_,Jd _ 2⟩;rw[hT1,List.map_set];rfl
     | none =>
       rw[hfn]at h1 hT1
       simp only[Option.map_none]at h1;have w1:IntKind.i64.wrap 1=1:=rfl;simp only at hT1;simp[go_sem,psV,hjlt,hq',pcs,h1,w1];refine⟨j+1,by omega,by omega,⟨.inr rfl,Q0 (by omega) (by omega)⟩,?_,Jd _ 2⟩;rw[hT1,qx];rfl
end
end Go.Abs
namespace Go.Abs
open Go.Sort
def bordE (E:List P2) (e:P2):Bool:=decide (E.count e.rev<E.count e)
def border (E:List P2):List P2:=Jv (E.filter (bordE E))
def Mesh.border (m:Mesh):List P2:=if m.check=0 then Go.Abs.border (Q7 m.tris) else []
def Mesh.closed (m:Mesh):Bool:=decide (m.check=0) && decide (m.border=[])
def Ks (P:Program) (f:FuncId):Prop:=∀m:Mesh,CallIs P f [m.enc] (psV m.border)
def Bc (P:Program) (f:FuncId):Prop:=∀m:Mesh,CallIs P f [m.enc] (.b m.closed)
def Mesh.use (m:Mesh) (e:P2):Int:=if m.check=0 then (Q7 m.tris).count e else 0
theorem sh_asV (L:List (P2 × Int)) (n:Nat):(O.mp (L.map asV)).sh n=.mp (L.map asV):=by
 simp[O.sh,asV,V.sh2,V.sh1,V.sh0]
theorem Qlg (m:Mesh) (e:P2):val e (Zc m)=m.use e:=by
 unfold Zc Mesh.use;split
 ·exact Q33 _ _
 ·rfl
theorem Q8h {m:Mesh} {i:Nat} {e:P2} {n:Int} (h:(Zc m)[i]?=some (e,n)):m.check=0/\e∈Q7 m.tris/\n=m.use e:=by
 unfold Zc at h;split at h
 ·rename_i hz;have:=Qdo h;exact⟨hz,this.1,by simp[Mesh.use,hz,this.2]⟩
 ·simp at h
theorem Qq4 {m:Mesh} {e:P2} (hz:m.check=0) (h:e∈Q7 m.tris):∃i:Nat,(Zc m)[i]?=some (e,m.use e):=by
 unfold Zc Mesh.use;rw[if_pos hz,if_pos hz];exact Qui h
theorem Qfc (m:Mesh):((Zc m).map Prod.fst).Nodup:=by
 unfold Zc;split
 ·exact(Uf _).1
 ·simp
theorem Qlk (m:Mesh):(Zc m).length<=12288:=by
 unfold Zc;split
 ·rename_i hz;have h1:=(Uf (Q7 m.tris)).2;have h3:=Yw m.tris m.tris.length;rw[qi]at h3
  have h4:=(Mesh.check_zero.1 hz).2.1;have h5:∀E:List P2,(X3 E).length<=E.length:=by
   refine Io (by simp[X3]) λE x ih=>?_
   rw[Ue];unfold Ql1;split<;>simp<;>omega
  have:=h5 (Q7 m.tris);omega
 ·simp
theorem mem_border {m:Mesh} {e:P2}:e∈m.border↔m.check=0/\e∈Q7 m.tris/\m.use e.rev<m.use e:=by
 unfold Mesh.border Mesh.use;by_cases hz:m.check=0
 ·simp only[if_pos hz];unfold Go.Abs.border bordE;rw[mem_ascOf,qu];simp[hz]
 ·simp[hz]
theorem Qbg (m:Mesh):asc m.border:=by
 unfold Mesh.border;split
 ·exact Jc _
 ·simp[asc]
theorem Qrd {L:List (P2 × Int)} (h:(L.map Prod.fst).Nodup) {i j:Nat} {e:P2} {n n':Int} (hi:L[i]?=some (e,n)) (hj:L[j]?=some (e,n')):i=j:=by
 have h1:=Ur h hi;have h2:=Ur h hj;rw[h1]at h2
 simp at h2;exact h2.1
def BInv (m:Mesh) (p:List Nat × List P2):Prop:=p.2.Nodup/\p.2.length<=p.1.length/\p.1.length<=(Zc m).length-left (Zc m).length p.1/\(∀i∈p.1,i<(Zc m).length)/\∀x,x∈p.2↔∃i∈p.1,∃n,(Zc m)[i]?=some (x,n)/\m.use x.rev<m.use x
section
variable {P:Program} (hm:P.follows .mixedOrders=true)
include hm
theorem Q35 {f fc fr fs fo:FuncId} (hf:Q5 P f (L3y.c fc fr fs fo) L3y.r L3y.n) (hc:Qbm P fc) (hr:Qts P fr) (hs:Ic P fs 2) (ho:Qo5 P fo) (hcal:Qx P fo=true):Ks P f:=by
 intro m;refine PI hm hf ?_;unfold L3y.c;have hLl:=Qlk m;simp[go_sem,Mesh.enc,Mesh.cs];refine Q56 (hc m) rfl ?_;simp only[List.map_cons,List.map_nil,sh_asV];simp[go_sem];refine Qi [.t 4 2] (α:=List Nat × List P2) (BInv m)
  (λp=>⟨[(3,.mp 2),(4,.own 4 (p.2.length+1) 0 p.2.length),(10,.p 3 1 0 0)],[.dead,.dead,.mp ((Zc m).map asV),.it (some 2) (Zc m).length p.1,.arr (p.2.length+1) 2 (p.2.map P2.cs)]⟩)
  (λp=>left (Zc m).length p.1) ([],[]) ⟨by simp,by simp,by simp[left],by simp,by simp⟩ ?_ ?_
 ·simp[go_sem];exact Jd _ 5
 ·rintro⟨seen,out⟩ ⟨hnd,hol,hsl,hsr,hmem⟩;simp only at hnd hol hsl hsr hmem;simp[go_sem,Mnx];refine⟨λhall=>?_,?_⟩
  ·obtain⟨ys,hperm,hup,hcall⟩:=hs P2.ints (λ_=>rfl) Qsy swoE fo hcal (λa b=>ho a b) out (by omega);have hys:ys=m.border:=by
    rw[Qky hperm hnd (hup.imp (by intro a b h;rw[ltE]at h;simpa using h))];refine Q2v (Jc _) (Qbg m) λx=>?_
    rw[mem_ascOf,hmem,mem_border];constructor
    ·rintro⟨i,_,n,h1,h2⟩;have:=Q8h h1;exact⟨this.1,this.2.1,h2⟩
    ·rintro⟨h1,h2,h3⟩;obtain⟨i,hi⟩:=Qq4 h1 h2;exact⟨i,hall i (q8.1 hi).1,_,hi,h3⟩
   refine Qt (hcall _ 4 _ rfl) ?_;subst hys;have hl2:m.border.length=out.length:=hperm.length_eq;have hy2:m.border.map (λx=>x.ints.map (V.i .i64))=m.border.map P2.cs:=rfl;rw[hy2];have ht:List.take out.length (m.border.map P2.cs)=m.border.map P2.cs:=qe (by simp[hl2]);simp[go_sem,L3y.r,psV,Q9p,hl2,ht]
  ·rintro i a b e n hi hab hni;simp only[asV,Prod.mk.injEq]at hab;obtain⟨rfl,rfl⟩:=hab;have hil:i<(Zc m).length:=(q8.1 hi).1;have hg:=Q8h hi;simp[go_sem,hi,asV];refine Q2 (hr e) ?_;have h1:Qo [1,1] (V.a [V.i .i64 e.y,V.i .i64 e.x]) ((Zc m).map asV)=_:=Kq e.rev (Zc m);have hv:=Qlg m e.rev;have hleft:=Qp5 hil hni;have hleft2:left (Zc m).length seen<=(Zc m).length:=by
    unfold left;have:=jc (λi=>!seen.contains i) (List.range (Zc m).length);simpa using this
   have hinv:∀out':List P2,(out'.Nodup/\out'.length<=seen.length+1/\∀x,x∈out'↔x∈out∨(x=e/\m.use e.rev<m.use e)) ->
     BInv m (seen++[i],out'):=by
    rintro out' ⟨q1,q2,q3⟩;refine⟨q1,by simpa using q2,by simp only[j7,List.length_cons,List.length_nil];omega,λj hj=>?_,λx=>?_⟩
    ·rcases qg.1 hj with h | h
     ·exact hsr j h
     ·simp at h;omega
    ·rw[q3,hmem];constructor
     ·rintro (⟨j,h1,n',h2,h3⟩ | ⟨rfl,h3⟩)
      ·exact⟨j,by simp[h1],n',h2,h3⟩
      ·exact⟨i,by simp,n,hi,h3⟩
     ·rintro⟨j,h1,n',h2,h3⟩;rcases qg.1 h1 with h | h
      ·exact .inl ⟨j,h,n',h2,h3⟩
      ·simp at h;subst h;rw[hi]at h2
       simp at h2;obtain⟨rfl,rfl⟩:=h2;exact .inr ⟨rfl,h3⟩
   have hein:e∉out:=by
    rw[hmem];rintro⟨j,h1,n',h2,_⟩;have:=Qrd (Qfc m) hi h2;subst this;exact hni h1
   have hn:=hg.2.2;have hi1:=hinv (out++[e]);have hi2:=hinv out;cases hfn:fnd e.rev (Zc m) with
   | none =>
     rw[hfn]at h1
     rw[val,hfn]at hv
     simp only at hv;simp only[Option.map_none]at h1;by_cases hlt:0<n
     ·simp (disch:=omega) [go_sem,h1,P2.rev,P2.enc,P2.cs,hlt];refine⟨by omega,seen++[i],out++[e],hi1 ⟨?_,by simp;omega,λx=>?_⟩,hleft,?_⟩
      ·rw[List.nodup_append];exact⟨hnd,by simp,λa ha b hb=>by simp at hb;subst hb;rintro rfl;exact hein ha⟩
      ·rw[qg,qn];have:m.use e.rev<m.use e:=by omega
       simp[this]
      ·simp[pcs];exact Jd _ 5
     ·simp (disch:=omega) [go_sem,h1,P2.rev,P2.enc,P2.cs,hlt];refine⟨seen++[i],out,hi2 ⟨hnd,by omega,λx=>?_⟩,hleft,?_⟩
      ·have:¬ m.use e.rev<m.use e:=by omega
       simp[this]
      ·exact⟨rfl,Jd _ 5,rfl,rfl,rfl⟩
   | some p =>
     obtain⟨j,n'⟩:=p;rw[hfn]at h1
     rw[val,hfn]at hv
     simp only at hv;simp only[Option.map_some]at h1;by_cases hlt:n'<n
     ·simp (disch:=omega) [go_sem,h1,P2.rev,P2.enc,P2.cs,hlt];refine⟨by omega,seen++[i],out++[e],hi1 ⟨?_,by simp;omega,λx=>?_⟩,hleft,?_⟩
      ·rw[List.nodup_append];exact⟨hnd,by simp,λa ha b hb=>by simp at hb;subst hb;rintro rfl;exact hein ha⟩
      ·rw[qg,qn];have:m.use e.rev<m.use e:=by omega
       simp[this]
      ·simp[pcs];exact Jd _ 5
     ·simp (disch:=omega) [go_sem,h1,P2.rev,P2.enc,P2.cs,hlt];refine⟨seen++[i],out,hi2 ⟨hnd,by omega,λx=>?_⟩,hleft,?_⟩
      ·have:¬ m.use e.rev<m.use e:=by omega
       simp[this]
      ·exact⟨rfl,Jd _ 5,rfl,rfl,rfl⟩
theorem Ej {f fc fb:FuncId} (hf:Q5 P f (L3z.c fc fb) L3z.r L3z.n) (hc:Y0 P fc) (hb:Ks P fb):Bc P f:=by
 intro m;refine PI hm hf ?_;unfold L3z.c;simp[go_sem,Mesh.enc,Mesh.cs];refine Q2 (hc m) ?_;by_cases h:m.check=0
 ·simp[go_sem,h];refine Q2 (hb m) ?_;simp[go_sem,psV,L3z.r,Mesh.closed,h];rw[Bool.eq_iff_iff];simp
 ·have h':(m.check == 0)=false:=by simpa using h
  simp[go_sem,h,h',L3z.r,Mesh.closed]
end
abbrev Use:=P2 × Int
def uCs (u:Use):List V:=[.i .i64 u.1.x,.i .i64 u.1.y,.i .i64 u.2]
def Jz (l:List Use):V:=.l 3 (l.map uCs)
def Ju (l:List Use):Prop:=l.Pairwise λa b=>P2.lt a.1 b.1
def pl (l:List Use) (e:P2):Nat:=l.countP λu=>decide (P2.lt u.1 e)
theorem Qjh (l:List Use) (e:P2):pl l e<=l.length:=List.countP_le_length
theorem K9 {e:P2}:∀{l:List Use},Ju l->∀{j:Nat} {u:Use},l[j]?=some u->(P2.lt u.1 e↔j<pl l e)
 | [],_,j,u,h=>by simp at h
 | x::r,ha,j,u,h=>by
   have hc:=jd.1 ha;by_cases hx:P2.lt x.1 e
   ·have hp:pl (x::r) e=pl r e+1:=by simp[pl,List.countP_cons,hx]
    cases j with
    | zero=>simp at h;subst h;simp[hp,hx]
    | succ j=>simp at h;rw[K9 hc.2 h,hp];omega
   ·have h0:pl r e=0:=by
     unfold pl;rw[List.countP_eq_zero];intro v hv;simp only[decide_eq_true_eq];exact λh1=>hx (P2.lt_trans (hc.1 v hv) h1)
    have hp:pl (x::r) e=0:=by unfold pl at h0 ⊢;simp[List.countP_cons,hx,h0]
    rw[hp];simp only[Nat.not_lt_zero,iff_false];cases j with
    | zero=>simp at h;subst h;exact hx
    | succ j =>
      simp at h;rw[K9 hc.2 h,h0];omega
theorem Qzo {l:List Use} (h:Ju l) {i j:Nat} {e:P2} {n n':Int} (hi:l[i]?=some (e,n)) (hj:l[j]?=some (e,n')):i=j:=by
 have a:=K9 (e:=e) h hi;have b:=K9 (e:=e) h hj;obtain⟨hi',hi2⟩:=q8.1 hi;obtain⟨hj',hj2⟩:=q8.1 hj;have hpw:=j8.1 h;rcases Nat.lt_trichotomy i j with h1 | h1 | h1
 ·have:=hpw i j hi' hj' h1;rw[hi2,hj2]at this
  exact absurd this (P2.lt_irrefl e)
 ·exact h1
 ·have:=hpw j i hj' hi' h1;rw[hi2,hj2]at this
  exact absurd this (P2.lt_irrefl e)
theorem Q1z {l:List Use} (h:Ju l) {j:Nat} {e:P2} {n:Int} (hj:l[j]?=some (e,n)):pl l e=j:=by
 have h1:¬ j<pl l e:=λhh=>P2.lt_irrefl e ((K9 h hj).2 hh)
 have hjl:=(q8.1 hj).1;refine jb λhne=>?_
 have hlt:pl l e<j:=by omega
 have h2:l[pl l e]?=some l[pl l e]:=q9 (by omega);have h3:=j8.1 h (pl l e) j (by omega) hjl hlt;obtain⟨_,hj2⟩:=q8.1 hj;rw[hj2]at h3
 have:pl l e<pl l e:=(K9 h h2).1 h3;omega
def K3 (l:List Use) (e:P2):Int:=match l[pl l e]? with | some u=>if u.1=e then u.2 else 0 | none=>0
def Q4j (l:List Use) (e:P2):Bool:=match l[pl l e]? with | some u=>decide (u.1=e) | none=>false
theorem Q2l {l:List Use} (h:Ju l) {e:P2}:Q4j l e=true↔∃n,(e,n)∈l:=by
 unfold Q4j;constructor
 ·intro h1;split at h1
  ·rename_i u hu;simp only[decide_eq_true_eq]at h1;subst h1;exact⟨u.2,qb hu⟩
  ·simp at h1
 ·rintro⟨n,hn⟩;obtain⟨j,hj⟩:=qq hn;rw[Q1z h hj,hj];simp
theorem Q2d {l:List Use} (h:Ju l) {e:P2} {n:Int} (hn:(e,n)∈l):K3 l e=n:=by
 obtain⟨j,hj⟩:=qq hn;unfold K3;rw[Q1z h hj,hj];simp
theorem Qrc {l:List Use} {e:P2} (hn:∀n,(e,n)∉l):K3 l e=0:=by
 unfold K3;split
 ·rename_i u hu;split
  ·rename_i h1;subst h1;exact absurd (qb hu) (hn u.2)
  ·rfl
 ·rfl
def Zo (l:List Use) (e:P2):List Use:=if Q4j l e then l else l.take (pl l e)++(e,0)::l.drop (pl l e)
theorem Ko {l:List Use} (h:Ju l) {e:P2} {u:Use}:u∈Zo l e↔u∈l∨(u=(e,0)/\Q4j l e=false):=by
 unfold Zo;cases hh:Q4j l e
 ·simp only[Bool.false_eq_true,if_false,qg,List.mem_cons,and_true];have:u∈l↔u∈l.take (pl l e)∨u∈l.drop (pl l e):=by rw[<- qg,List.take_append_drop]
  rw[this];constructor
  ·rintro (h1 | h1 | h1)<;>simp[h1]
  ·rintro ((h1 | h1) | h1)<;>simp[h1]
 ·simp
theorem Wr {l:List Use} (h:Ju l) (e:P2):Ju (Zo l e):=by
 unfold Zo;cases hh:Q4j l e
 ·simp only[Bool.false_eq_true,if_false];have h':Ju (l.take (pl l e)++l.drop (pl l e)):=by rw[List.take_append_drop];exact h
  have hp:=jg.1 h';have hlow:∀u∈l.take (pl l e),P2.lt u.1 e:=by
   intro u hu;obtain⟨j,hj⟩:=qq hu;rw[jf]at hj
   split at hj
   ·rename_i hjl;exact(K9 h hj).2 hjl
   ·simp at hj
  have hhigh:∀u∈l.drop (pl l e),P2.lt e u.1:=by
   intro u hu;obtain⟨j,hj⟩:=qq hu;rw[jh]at hj
   refine jb λhc=>?_
   have h1:¬ P2.lt u.1 e:=λh2=>by have:=(K9 h hj).1 h2;omega
   have h2:u.1=e:=(P2.lt_total h1 hc)
   have h3:Q4j l e=true:=(Q2l h).2 ⟨u.2,by rw[<- h2];exact qb hj⟩;rw[hh]at h3;cases h3
  unfold Ju;rw[jg];refine⟨hp.1,jd.2 ⟨hhigh,hp.2.1⟩,λa ha b hb=>?_⟩;rcases List.mem_cons.1 hb with rfl | hb
  ·exact hlow a ha
  ·exact hp.2.2 a ha b hb
 ·simpa using h
def Q5n (l:List Use) (e:P2):List Use:=let w:=Zo l e;w.set (pl w e) (e,K3 w e+1)
theorem set_asc {l:List Use} (h:Ju l) {j:Nat} {e:P2} {n n':Int} (hj:l[j]?=some (e,n)):Ju (l.set j (e,n')):=by
 unfold Ju at h ⊢;have h1:((l.set j (e,n')).map Prod.fst)=l.map Prod.fst:=by
  rw[List.map_set];apply qy;intro i;by_cases hi:j=i
  ·subst hi;have:=(q8.1 hj).1;rw[qm (by simpa using this)];simp[hj]
  ·rw[qt hi]
 have h2:(l.map Prod.fst).Pairwise P2.lt:=by rw[ji];exact h
 rw[<- h1,ji]at h2
 exact h2
def Cnt (L:List Use) (E:List P2):Prop:=Ju L/\∀e n,(e,n)∈L↔e∈E/\n=E.count e
theorem Cnt.nil:Cnt [] []:=⟨by simp[Ju],by simp⟩
theorem Cnt.has {L:List Use} {E:List P2} (h:Cnt L E) (e:P2):Q4j L e=true↔e∈E:=by
 rw[Q2l h.1];constructor
 ·rintro⟨n,hn⟩;exact((h.2 e n).1 hn).1
 ·intro he;exact⟨_,(h.2 e _).2 ⟨he,rfl⟩⟩
theorem Cnt.num {L:List Use} {E:List P2} (h:Cnt L E) (e:P2):K3 L e=E.count e:=by
 by_cases he:e∈E
 ·exact Q2d h.1 ((h.2 e _).2 ⟨he,rfl⟩)
 ·rw[Qrc λn hn=>he ((h.2 e n).1 hn).1,List.count_eq_zero.2 he];rfl
theorem Qdl {L:List Use} (h:Ju L) (e:P2):(Zo L e)[pl (Zo L e) e]?=some (e,K3 (Zo L e) e):=by
 have ha:=Wr h e;have hm:∃n,(e,n)∈Zo L e:=by
  cases hh:Q4j L e
  ·exact⟨0,(Ko h).2 (.inr ⟨rfl,hh⟩)⟩
  ·obtain⟨n,hn⟩:=(Q2l h).1 hh;exact⟨n,(Ko h).2 (.inl hn)⟩
 obtain⟨n,hn⟩:=hm;obtain⟨j,hj⟩:=qq hn;rw[Q2d ha hn,Q1z ha hj,hj]
theorem Qdk {L:List Use} {E:List P2} (h:Cnt L E) (e:P2):K3 (Zo L e) e=E.count e:=by
 have ha:=Wr h.1 e;by_cases he:e∈E
 ·exact Q2d ha ((Ko h.1).2 (.inl ((h.2 e _).2 ⟨he,rfl⟩)))
 ·have hh:Q4j L e=false:=by rw[Bool.eq_false_iff];exact λh1=>he ((h.has e).1 h1)
  rw[Q2d ha ((Ko h.1).2 (.inr ⟨rfl,hh⟩)),List.count_eq_zero.2 he];rfl
theorem Cnt.bump {L:List Use} {E:List P2} (h:Cnt L E) (e:P2):Cnt (Q5n L e) (E++[e]):=by
 have hg:=Qdl h.1 e;have ha:=Wr h.1 e;have hn:=Qdk h e;refine⟨set_asc ha hg,λe' n=>?_⟩;unfold Q5n;simp only;generalize hW:Zo L e=W at *
 generalize hj:pl W e=j at *
 have hjl:=(q8.1 hg).1;have hmem:(e',n)∈W.set j (e,K3 W e+1)↔(e'=e/\n=K3 W e+1)∨(e'≠e/\(e',n)∈W):=by
  constructor
  ·intro hm;obtain⟨i,hi⟩:=qq hm;by_cases hij:j=i
   ·subst hij;rw[qm hjl]at hi
    simp only[Option.some.injEq,Prod.mk.injEq]at hi;exact .inl ⟨hi.1.symm,hi.2.symm⟩
   ·rw[qt hij]at hi
    refine .inr ⟨?_,qb hi⟩;rintro rfl;exact hij (Qzo ha hg hi)
  ·rintro (⟨rfl,rfl⟩ | ⟨h1,h2⟩)
   ·exact qb (i:=j) (by rw[qm hjl])
   ·obtain⟨i,hi⟩:=qq h2;have hij:¬ j=i:=by
     rintro rfl;rw[hg]at hi
     simp at hi;exact h1 hi.1.symm
    exact qb (i:=i) (by rw[qt hij];exact hi)
 rw[hmem,hn,List.count_append,qg,qn];by_cases he:e'=e
 ·subst he;simp
 ·have h1:(e',n)∈W↔e'∈E/\n=E.count e':=by
   rw[<- hW,Ko h.1,h.2];constructor
   ·rintro (h2 | h2)
    ·exact h2
    ·simp at h2;exact absurd h2.1.1 he
   ·exact .inl
  have h2:¬ e=e':=λh=>he h.symm
  simp[he,h1,h2,List.count_singleton]
theorem Q0s:∀{l k:List P2},l.Nodup->(∀a∈l,a∈k)->l.length<=k.length
 | [],k,_,_=>by simp
 | x::l,k,hn,hs=>by
   have hc:=List.nodup_cons.1 hn;have hx:=hs x (by simp);have:=Q0s (l:=l) (k:=k.erase x) hc.2 (λa ha=>by
    have hne:a≠x:=by rintro rfl;exact hc.1 ha
    exact(List.mem_erase_of_ne hne).2 (hs a (by simp[ha])))
   rw[List.length_erase_of_mem hx]at this
   have:=List.length_pos_of_mem hx;simp only[List.length_cons];omega
theorem Cnt.nodup {L:List Use} {E:List P2} (h:Cnt L E):(L.map Prod.fst).Nodup:=by
 show List.Pairwise _ _;rw[ji];exact h.1.imp λh1 h2=>by rw[h2]at h1;exact P2.lt_irrefl _ h1
theorem Cnt.len {L:List Use} {E:List P2} (h:Cnt L E):L.length<=E.length:=by
 have:=Q0s h.nodup (k:=E) λe he=>by
  obtain⟨u,hu,rfl⟩:=qo.1 he;exact((h.2 u.1 u.2).1 hu).1
 simpa using this
end Go.Abs
