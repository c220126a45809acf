/- Part of the library on which the proof stands: an abstract machine, its values and its soundness against the model; or what functions of the program do to such values. -/
import Derived.Test.YtjggbpiapinceaaGreatGoTpE
import Derived.Test.YtjggbpiapinceaaGreatGoRsD
import Derived.Test.YtjggbpiapinceaaGreatGoRw
import Derived.Test.YtjggbpiapinceaaGreatGoSecE
import Derived.Test.YtjggbpiapinceaaGreatAbsSP
import Derived.Test.YtjggbpiapinceaaGreatGoOriB
import Derived.Test.YtjggbpiapinceaaGreatGoRevC
set_option linter.unusedVariables false
set_option linter.unusedSimpArgs false
set_option maxHeartbeats 1000000
namespace Go.Abs
theorem P2.rev2 (e:P2):e.rev.rev=e:=rfl
theorem Q99 (E:List P2) (e:P2):(E.map P2.rev).count e=E.count e.rev:=by
 induction E with
 | nil=>rfl
 | cons a E ih =>
   rw[List.map_cons,List.count_cons,List.count_cons,ih]
   have:(a.rev == e)=(a == e.rev):=by
    rw[Bool.eq_iff_iff,beq_iff_eq,beq_iff_eq]
    constructor
    ·rintro rfl;rfl
    ·rintro rfl;rfl
   rw[this]
theorem Qen (t:T3) (v:Int):(Q6 t).countP (λe=>decide (e.x=v))=(Q6 t).countP (λe=>decide (e.y=v)):=by
 have e3:Q6 t=(Yq t).filter λe=>decide (e.x≠e.y):=rfl
 rw[e3,List.countP_filter,List.countP_filter]
 unfold Yq
 simp only[List.countP_cons,List.countP_nil,Bool.and_eq_true,decide_eq_true_eq,Nat.zero_add,ne_eq]
 by_cases q1:t.a=v<;>by_cases q2:t.b=v<;>by_cases q3:t.c=v<;>simp[q1,q2,q3]<;>(repeat' split)<;>omega
theorem Qf2 (l:List T3) (v:Int):(Qc l).countP (λe=>decide (e.x=v))=(Qc l).countP (λe=>decide (e.y=v)):=by
 induction l with
 | nil=>rfl
 | cons t l ih =>
   have:Qc (t::l)=Q6 t++Qc l:=by simp[Qc]
   rw[this,List.countP_append,List.countP_append,ih,Qen]
def Uo (m:Mesh) (l:List P2) (i:Nat):Bool:=match l[i]? with
 | some e=>decide (m.use e=1) && (decide (m.use e.rev=0) && !(decide (0<i) && decide (((l[i-1]?).getD ⟨0,0⟩).x=e.x)))
 | none=>true
def Mesh.simple (m:Mesh) (l:List P2):Bool:=(List.range l.length).all (Uo m l)
theorem Q4r {m:Mesh} {l:List P2} (h:m.simple l=true) {i:Nat} {e:P2} (he:l[i]?=some e):m.use e=1/\m.use e.rev=0/\(0<i->((l[i-1]?).getD ⟨0,0⟩).x≠e.x):=by
 have hlt:=(q8.1 he).1
 have:=qj.1 h i (qz.2 hlt)
 unfold Uo at this
 rw[he]at this
 simp at this
 refine⟨this.1,this.2.1,λhi=>?_⟩
 rcases this.2.2 with h0 | h0
 ·omega
 ·exact h0
theorem Q4q {m:Mesh} {l:List P2} (h:m.simple l=true) (ha:asc l):∀(j i:Nat) (a b:P2),i<j->l[i]?=some a->l[j]?=some b->a.x<b.x
 | 0,i,a,b,hij,_,_=>by omega
 | j+1,i,a,b,hij,h1,h2=>by
   have hlt:=(q8.1 h2).1
   have hj:l[j]?=some l[j]:=q9 (by omega)
   obtain⟨hi',h1'⟩:=q8.1 h1
   obtain⟨hj',h2'⟩:=q8.1 h2
   have hs:=(Q4r h h2).2.2 (by omega)
   rw[Nat.add_sub_cancel,hj]at hs
   simp only[Option.getD_some]at hs
   have hp:=j5.1 ha j (j+1) (by omega) hj' (by omega)
   rw[h2']at hp
   have hlt2:l[j].x<b.x:=by unfold P2.lt at hp;omega
   by_cases hij2:i=j
   ·subst hij2
    rw[hj]at h1
    obtain rfl:=Option.some.inj h1
    exact hlt2
   ·have:=Q4q h ha j i a l[j] (by omega) h1 hj
    omega
theorem Iu {m:Mesh} {l:List P2} (h:m.simple l=true) (ha:asc l):(l.map P2.x).Nodup:=by
 rw[List.nodup_iff_pairwise_ne,je,j5]
 intro i j hi hj hij he
 have:=Q4q h ha j i _ _ hij (q9 hi) (q9 hj)
 omega
theorem Q3p {α:Type} {l:List α} {f:α->Int} (h:(l.map f).Nodup) (v:Int):l.countP (λe=>decide (f e=v))<=1:=by
 induction l with
 | nil=>simp
 | cons a l ih =>
   simp only[List.map_cons,List.nodup_cons]at h
   rw[List.countP_cons]
   have:=ih h.2
   by_cases hv:f a=v
   ·have h0:l.countP (λe=>decide (f e=v))=0:=by
     rw[List.countP_eq_zero]
     intro b hb
     simp only[decide_eq_true_eq]
     intro hbv
     exact h.1 (qp.2 ⟨b,hb,by rw[hbv,hv]⟩)
    rw[h0];simp[hv]
   ·simp[hv];omega
theorem U5 {α:Type} {f:α->Int}:∀{l:List α},(∀v,l.countP (λe=>decide (f e=v))<=1)->(l.map f).Nodup
 | [],_=>by simp
 | a::l,h=>by
   rw[List.map_cons,List.nodup_cons]
   refine⟨λhm=>?_,U5 λv=>?_⟩
   ·obtain⟨b,hb,hba⟩:=qp.1 hm
    have h1:=h (f a)
    rw[List.countP_cons]at h1
    have:0<l.countP (λe=>decide (f e=f a)):=List.countP_pos_iff.2 ⟨b,hb,by simp[hba]⟩
    simp only[decide_true,if_true]at h1;omega
   ·have h1:=h v
    rw[List.countP_cons]at h1
    split at h1<;>omega
theorem Q6p {m:Mesh} (hz:m.check=0) (h:m.simple m.border=true) (v:Int):m.border.countP (λe=>decide (e.x=v))=m.border.countP (λe=>decide (e.y=v)):=by
 have hn:m.border.Nodup:=(J3 m).imp λh1 h2=>by subst h2;exact P2.lt_irrefl _ h1
 have hu:∀e,m.use e=(Qc m.tris).count e:=λe=>by simp[Mesh.use,hz]
 have hcnt:∀e,m.border.count e=if e∈m.border then 1 else 0:=λe=>by
  by_cases he:e∈m.border
  ·rw[if_pos he]
   have h1:=List.count_pos_iff.2 he
   have h2:=List.nodup_iff_count.1 hn e
   omega
  ·rw[if_neg he];exact List.count_eq_zero.2 he
 have hone:∀e,e∈m.border->(Qc m.tris).count e=1/\(Qc m.tris).count e.rev=0:=λe he=>by
  obtain⟨i,hi⟩:=qr he
  have:=Q4r h hi
  rw[hu,hu]at this
  omega
 have hperm:(Qc m.tris++m.border.map P2.rev).Perm ((Qc m.tris).map P2.rev++m.border):=by
  rw[List.perm_iff_count]
  intro e
  rw[List.count_append,List.count_append,Q99,Q99,hcnt,hcnt]
  by_cases h1:e∈m.border
  ·have g1:=hone e h1
   have h2:e.rev∉m.border:=λh2=>by have:=hone _ h2;rw[P2.rev2]at this;omega
   rw[if_pos h1,if_neg h2];omega
  ·by_cases h2:e.rev∈m.border
   ·have g2:=hone _ h2
    rw[P2.rev2]at g2
    rw[if_neg h1,if_pos h2];omega
   ·rw[if_neg h1,if_neg h2]
    have p1:0<=m.use e:=by rw[hu];omega
    have p2:0<=m.use e.rev:=by rw[hu];omega
    have k1:¬ (m.use e.rev<m.use e):=λhlt=>h1 (mem_border.2 ⟨hz,(Qij hz).2 (by omega),hlt⟩)
    have k2:¬ (m.use e<m.use e.rev):=λhlt=>h2 (mem_border.2 ⟨hz,(Qij hz).2 (by omega),by rw[P2.rev2];exact hlt⟩)
    rw[hu,hu]at k1 k2
    omega
 have hc:=hperm.countP_eq (λe=>decide (e.x=v))
 rw[List.countP_append,List.countP_append,List.countP_map,List.countP_map]at hc
 have e1:((λe=>decide (e.x=v)) ∘ P2.rev)=λe:P2=>decide (e.y=v):=rfl
 rw[e1]at hc
 have:=Qf2 m.tris v
 omega
theorem Bp {m:Mesh} (hz:m.check=0) (h:m.simple m.border=true):(m.border.map P2.y).Nodup:=by
 refine U5 λv=>?_
 rw[<- Q6p hz h]
 exact Q3p (Iu h (J3 m)) v
theorem Q2h {m:Mesh} (hz:m.check=0) (h:m.simple m.border=true) (v:Int):v∈m.border.map P2.x↔v∈m.border.map P2.y:=by
 have hb:=Q6p hz h v
 have k:∀f:P2->Int,v∈m.border.map f↔0<m.border.countP (λe=>decide (f e=v)):=λf=>by
  rw[qp,List.countP_pos_iff];simp
 rw[k,k,hb]
def nxt (l:List P2) (v:Int):Int:=match l.find? (λe=>decide (e.y=v)) with | some e=>e.x | none=>v
theorem Qam {l:List P2} (hy:(l.map P2.y).Nodup) {e:P2} (he:e∈l):nxt l e.y=e.x:=by
 unfold nxt
 cases hf:l.find? (λa=>decide (a.y=e.y)) with
 | none =>
   have:=List.find?_eq_none.1 hf e he
   simp at this
 | some a =>
   have h1:=List.find?_some hf
   have h2:=List.mem_of_find?_eq_some hf
   simp only[decide_eq_true_eq]at h1
   have:a=e:=by
    obtain⟨i,hi,rfl⟩:=List.mem_iff_getElem.1 h2
    obtain⟨j,hj,rfl⟩:=List.mem_iff_getElem.1 he
    have e1:(l.map P2.y).idxOf l[i].y=i:=by
     have:=hy.idxOf_getElem i (by simpa using hi)
     simpa using this
    have e2:(l.map P2.y).idxOf l[j].y=j:=by
     have:=hy.idxOf_getElem j (by simpa using hj)
     simpa using this
    rw[h1]at e1
    have:i=j:=by omega
    subst this;rfl
   subst this;rfl
def U0 (nx:Int->Int) (done:List Int):Nat->List Int->Int->List Int
 | 0,w,_=>w
 | n+1,w,v=>if v∈done++w then w else U0 nx done n (w++[v]) (nx v)
def K4 (nx:Int->Int) (N:Nat) (s:List Int × List (List Int)) (e:P2):List Int × List (List Int) :=
 if e.x∈s.1 then s else (s.1++U0 nx s.1 (N+1) [] e.x,s.2++[U0 nx s.1 (N+1) [] e.x])
def Zr (nx:Int->Int) (l:List P2) (k:Nat):List Int × List (List Int):=(l.take k).foldl (K4 nx l.length) ([],[])
theorem Q2w (nx:Int->Int) {l:List P2} {k:Nat} {e:P2} (h:l[k]?=some e):Zr nx l (k+1)=K4 nx l.length (Zr nx l k) e:=by
 unfold Zr;rw[Qd h,List.foldl_append];rfl
def Kh (l:List P2):List (List Int):=(Zr (nxt l) l l.length).2
def Mesh.loops (m:Mesh):List (List Int) × Int:=if m.check=0 then (if m.simple m.border then (Kh m.border,0) else ([],13)) else ([],m.check)
def Qk3 (A done:List Int):Nat:=(A.filter λv=>!done.contains v).length
theorem Qim {A done:List Int} {v:Int} (hv:v∈A) (hd:v∉done):Qk3 A (done++[v])<Qk3 A done:=by
 unfold Qk3
 induction A with
 | nil=>simp at hv
 | cons a A ih =>
   have hle:(A.filter λu=>!(done++[v]).contains u).length<=(A.filter λu=>!done.contains u).length:=by
    clear ih hv
    induction A with
    | nil=>simp
    | cons b A ih2 =>
      simp only[List.filter_cons]
      by_cases hb:done.contains b=true
      ·have:(done++[v]).contains b=true:=by simp at hb ⊢;exact .inl hb
       rw[hb,this];exact ih2
      ·rw[Bool.not_eq_true]at hb
       simp only[hb,Bool.not_false,if_true]
       split<;>(try simp only[List.length_cons])<;>omega
   by_cases hav:a=v
   ·subst hav
    have h1:(done++[a]).contains a=true:=by simp
    have h2:done.contains a=false:=by simpa using hd
    simp only[List.filter_cons,h1,h2,Bool.not_true,Bool.not_false,if_true,Bool.false_eq_true,if_false,List.length_cons]
    omega
   ·have hvA:v∈A:=by
     rcases List.mem_cons.1 hv with h | h
     ·exact absurd h.symm hav
     ·exact h
    have:=ih hvA
    have hc:(done++[v]).contains a=done.contains a:=by
     rw[Bool.eq_iff_iff];simp[hav]
    simp only[List.filter_cons,hc]
    split<;>(try simp only[List.length_cons])<;>omega
theorem Qin (A done:List Int):Qk3 A done<=A.length:=j9 _ _
def isV (l:List Int):V:=.l 1 (l.map λx=>[.i .i64 x])
def Q6f (l:List Int) (k:Nat):List T3:=(List.range k).map λi=>⟨(l[0]?).getD 0,(l[i+1]?).getD 0,(l[i+2]?).getD 0⟩
def Kj (l:List Int):List T3:=Q6f l (l.length-2)
theorem Qej (l:List Int) (k:Nat):(Q6f l k).length=k:=by simp[Q6f]
theorem Qme (l:List Int) (k:Nat):Q6f l (k+1)=Q6f l k++[⟨(l[0]?).getD 0,(l[k+1]?).getD 0,(l[k+2]?).getD 0⟩]:=by simp[Q6f,List.range_succ]
def FanC (P:Program) (f:FuncId):Prop:=∀l:List Int,l.length<=1000000->CallIs P f [isV l] (tsV (Kj l))
theorem t3_isD (t:T3):(∀y∈t.cs,y.isD=true)=True:=by simp[T3.cs,V.isD]
section
variable {P:Program} (hm:P.follows .mixedOrders=true)
include hm
theorem Qax {f:FuncId} (hf:Qa P f L0c.c L0c.r L0c.n):FanC P f:=by
 intro l hl
 refine PureC.is (Q8 hm hf (qh rfl) ?_) rfl
 unfold L0c.c
 simp[go_sem,isV]
 refine Z5 [.t 3 3] (α:=Nat) (λk=>k<=l.length-2)
  (λk=>⟨[(0,isV l),(3,.own 0 (k+1) 0 k),(4,.i .i64 (k+1:Nat))],[.arr (k+1) 3 ((Q6f l k).map T3.cs)]⟩)
  (λk=>l.length-2-k) 0 (Nat.zero_le _) ?_ ?_
 ·simp[go_sem,isV,Q6f]
 ·intro k hk
  have hkl:=Qej l k
  have hs:=Qme l k
  by_cases hlt:k+2<l.length
  ·have h1:k+1<l.length:=by omega
   have h0:0<l.length:=by omega
   have g0:l[0]?=some l[0]:=q9 h0
   have g1:l[k+1]?=some l[k+1]:=q9 h1
   have g2:l[k+2]?=some l[k+2]:=q9 hlt
   generalize l[0]=x0 at g0
   generalize l[k+1]=x1 at g1
   generalize l[k+2]=x2 at g2
   obtain⟨_,q0⟩:=q8.1 g0
   obtain⟨_,q1⟩:=q8.1 g1
   obtain⟨_,q2⟩:=q8.1 g2
   rw[g0,g1,g2]at hs
   have e1:((k:Int)+1+1)=((k+2:Nat):Int):=by omega
   have e2:((k:Int)+1+1).toNat=k+2:=by omega
   have e3:((k:Int)+1).toNat=k+1:=by omega
   simp (disch:=omega) [go_sem,isV,Q3,show (k:Int)+1+1<l.length by omega,h0,h1,hlt,q0,q1,q2,g0,g1,g2,e2,e3]
   refine⟨by omega,by omega,⟨by omega,by omega,by omega⟩,k+1,by omega,by omega,⟨rfl,by omega⟩,rfl,?_⟩
   rw[hs,qe (by simp[hkl]),qx];rfl
  ·have hkk:k=l.length-2:=by omega
   have hfo:Kj l=Q6f l k:=by rw[hkk];rfl
   have ht:List.take k ((Q6f l k).map T3.cs)=(Q6f l k).map T3.cs:=qe (by simp[hkl])
   simp (disch:=omega) [go_sem,isV,Q3,show ¬ (k:Int)+1+1<l.length by omega,L0c.r,hfo,tsV,t3_isD,hkl,ht]
end
def bl (n:Nat) (g:Nat->Bool):List (List V):=(List.range n).map λj=>[.b (g j)]
theorem Qbp (n:Nat) (g:Nat->Bool):(bl n g).length=n:=by simp[bl]
theorem Qbq {n:Nat} {g:Nat->Bool} {i:Nat} (h:i<n):(bl n g)[i]?=some [.b (g i)]:=by simp[bl,h]
theorem bl_rep (n:Nat):List.replicate n [V.b false]=bl n (λ_=>false):=by
 apply qy
 intro i
 by_cases h:i<n
 ·rw[Qbq h];simp[h]
 ·rw[qk (by simp;omega),qk (by rw[Qbp];omega)]
theorem bl_set (n:Nat) (g:Nat->Bool) (i:Nat) (b:Bool):(bl n g).set i [.b b]=bl n (λj=>if j=i then b else g j):=by
 apply qy
 intro j
 by_cases h:j<n
 ·rw[Qbq h]
  by_cases hj:i=j
  ·subst hj
   rw[qn (by rw[Qbp];exact h),if_pos rfl]
  ·rw[qu hj,Qbq h,if_neg (λhh=>hj hh.symm)]
 ·rw[qk (by simp[Qbp];omega),qk (by rw[Qbp];omega)]
theorem bl_cl (n:Nat) (g:Nat->Bool) (k:Nat):∀el∈bl n g,∀x∈el,x.cl k=true:=by
 intro el hel x hx
 obtain⟨j,_,rfl⟩:=qp.1 hel
 simp at hx;subst hx;rfl
def ics (l:List Int):List (List V):=l.map λx=>[.i .i64 x]
def lsV (ls:List (List Int)):V:=.l 1 (ls.map λl=>[isV l])
def Qi7 (P:Program) (f:FuncId):Prop:=∀m:Mesh,CallIs P f [m.enc] (.t [lsV m.loops.1,.i .i64 m.loops.2])
def Held (b:Nat) (hx:List O) (ls:List (List Int)) (cells:List (List V)):Prop :=
 cells.length=ls.length/\∀(i:Nat) (c:List V) (l:List Int),cells[i]?=some c->ls[i]?=some l->∃j g,c=[.own (b+j) g 0 l.length]/\hx[j]?=some (.arr g 1 (ics l))
def Flt (hx:List O):Prop:=∀o∈hx,∀n,o.cl n
theorem Held.nil (b:Nat):Held b [] [] []:=⟨rfl,by simp⟩
theorem Held.app {b:Nat} {hx:List O} {ls:List (List Int)} {cells:List (List V)} (h:Held b hx ls cells) (l:List O):Held b (hx++l) ls cells :=
 ⟨h.1,λi c x h1 h2=>by obtain⟨j,g,h3,h4⟩:=h.2 i c x h1 h2;exact⟨j,g,h3,by rw[qd (q8.1 h4).1];exact h4⟩⟩
theorem Held.snoc {b:Nat} {hx:List O} {ls:List (List Int)} {cells:List (List V)} (h:Held b hx ls cells) {j g:Nat} {l:List Int} (hj:hx[j]?=some (.arr g 1 (ics l))):Held b hx (ls++[l]) (cells++[[.own (b+j) g 0 l.length]]):=by
 refine⟨by simp[h.1],λi c x h1 h2=>?_⟩
 by_cases hi:i<ls.length
 ·rw[qd (by rw[h.1];exact hi)]at h1
  rw[qd hi]at h2
  exact h.2 i c x h1 h2
 ·rw[qf (by rw[h.1];omega)]at h1
  rw[qf (by omega)]at h2
  have hi0:i-ls.length=0:=by
   have:=(q8.1 h2).1
   simp at this;omega
  rw[h.1,hi0]at h1
  rw[hi0]at h2
  simp at h1 h2
  subst h1;subst h2
  exact⟨j,g,rfl,hj⟩
theorem Held.cl {b:Nat} {hx:List O} {ls:List (List Int)} {cells:List (List V)} (h:Held b hx ls cells) {n:Nat} (hn:b+hx.length<=n):∀el∈cells,∀x∈el,x.cl n=true:=by
 intro el hel x hx'
 obtain⟨i,hi⟩:=qr hel
 have hlt:=(q8.1 hi).1
 obtain⟨j,g,rfl,h4⟩:=h.2 i el _ hi (q9 (by rw[<- h.1];exact hlt))
 have:=(q8.1 h4).1
 simp at hx';subst hx'
 simp[V.cl,V.cl1,V.cl0];omega
theorem Qjd (l:List Int):∀el∈ics l,∀x∈el,x.isD=true:=by
 intro el hel x hx
 obtain⟨a,_,rfl⟩:=qp.1 hel
 simp at hx;subst hx;rfl
theorem K5 (l:List Int) (n:Nat):∀el∈ics l,∀x∈el,x.cl n=true:=λel hel x hx=>Wt n (Qjd l el hel x hx)
theorem Held.frz {b:Nat} {base hx:List O} {ls:List (List Int)} {cells:List (List V)} (h:Held b hx ls cells) (hb:base.length=b):cells.mapM (λel=>el.mapM (Ia (base++hx)))=some (ls.map λl=>[isV l]):=by
 induction cells generalizing ls with
 | nil =>
   have:=h.1
   simp at this
   obtain rfl:=List.length_eq_zero_iff.1 this.symm
   rfl
 | cons c cells ih =>
   have hl:=h.1
   cases ls with
   | nil=>simp at hl
   | cons l ls =>
     have h0:=h.2 0 c l rfl rfl
     obtain⟨j,g,rfl,hj⟩:=h0
     have ht:Held b hx ls cells:=⟨by simpa using hl,λi c x h1 h2=>h.2 (i+1) c x (by simpa using h1) (by simpa using h2)⟩
     have hg:(base++hx)[b+j]?=some (.arr g 1 (ics l)):=by rw[<- hb,Q9];exact hj
     have ha:(ics l).all (λx=>x.all V.isD)=true:=by
      rw[qj]
      exact λel hel=>qj.2 (Qjd l el hel)
     have hlen:(ics l).length=l.length:=by simp[ics]
     have hfr:Ia (base++hx) (.own (b+j) g 0 l.length)=some (isV l):=by
      have ht2:List.take l.length (ics l)=ics l:=qe (by omega)
      show _=some (V.l 1 (ics l))
      simp only[Ia,Ji,hg]
      rw[List.drop_zero,ht2,if_pos ⟨trivial,by omega,ha⟩]
     simp[List.mapM_cons,hfr,ih ht]
theorem Qje {b:Nat} {base hx:List O} {ls:List (List Int)} {cells:List (List V)} (h:Held b hx ls cells) (hb:base.length=b) :
  (if ls.length<=cells.length then Option.map (V.l 1) (List.mapM (λel=>List.mapM (Ia (base++hx)) el) (List.take ls.length cells)) else none)=some (lsV ls):=by
 have h1:=h.frz hb
 have ht:List.take ls.length cells=cells:=qe (by rw[h.1];exact Nat.le_refl _)
 simp only[ht,h1,h.1,Nat.le_refl,if_true,Option.map_some,lsV]
theorem Q9z {m:Mesh} {l:List P2} {k:Nat} (hk:k<l.length) (h:Uo m l k=false):m.simple l=false:=by
 unfold Mesh.simple
 rw[List.all_eq_false]
 exact⟨k,qz.2 hk,by simp[h]⟩
theorem Qem {t:T3} {e:P2} (h:e∈Q6 t):(e.x=t.a∨e.x=t.b∨e.x=t.c)/\(e.y=t.a∨e.y=t.b∨e.y=t.c):=by
 unfold Q6 Zs at h
 have h1:e∈Yq t:=jk (qv.1 h).1
 simp only[Yq,List.mem_cons,List.not_mem_nil,or_false]at h1
 rcases h1 with rfl | rfl | rfl<;>simp
theorem Q84 {m:Mesh} (hz:m.check=0) {e:P2} (h:e∈Qc m.tris):0<=e.x/\e.x<m.verts.length/\0<=e.y/\e.y<m.verts.length:=by
 obtain⟨t,ht,he⟩:=jm.1 h
 obtain⟨h1,h2,h3,h4,h5,h6⟩:=T3.ok_iff.1 (qj.1 (Mesh.check_zero.1 hz).2.2.2 t ht)
 have:=Qem he
 omega
theorem Q0x {m:Mesh} {e:P2} (h:e∈m.border):0<=e.x/\e.x<m.verts.length/\0<=e.y/\e.y<m.verts.length:=by
 obtain⟨h1,h2,_⟩:=mem_border.1 h
 exact Q84 h1 h2
theorem Bq (m:Mesh):m.border.length<=12288:=by
 by_cases hz:m.check=0
 ·have hn:m.border.Nodup:=(J3 m).imp λh1 h2=>by subst h2;exact P2.lt_irrefl _ h1
  have h1:=Q5u hn (λa ha=>(mem_border.1 ha).2.1)
  have hE:=E7 m.tris m.tris.length
  rw[qi]at hE
  have:=(Mesh.check_zero.1 hz).2.1
  omega
 ·simp[Mesh.border,hz]
theorem Qj3 {m:Mesh} (hz:m.check=0) (h:m.simple m.border=true) {v:Int} (hv:v∈m.border.map P2.x):nxt m.border v∈m.border.map P2.x:=by
 rw[Q2h hz h]at hv
 obtain⟨e,he,rfl⟩:=qp.1 hv
 rw[Qam (Bp hz h) he]
 exact qp.2 ⟨e,he,rfl⟩
theorem Qq1 (e:Int):Le (.t [.nil,.i .i64 e]) (.t [lsV [],.i .i64 e]):=.inr ⟨_,_,rfl,rfl,.inl (Le0.nil 1),Le1.refl _,trivial⟩
theorem Qex {n:Nat} {g g':Nat->Bool} (h:∀j,j<n->g j=g' j):bl n g=bl n g':=by
 unfold bl
 exact jo λj hj=>by rw[h j (qz.1 hj)]
def mk (n:Nat) (done:List Int):List (List V):=bl n λj=>decide ((j:Int)∈done)
theorem Qpy (n:Nat):List.replicate n [V.b false]=mk n []:=by rw[bl_rep];exact Qex λj _=>by simp
theorem Qgm {n:Nat} {d:List Int} {v:Int} (h0:0<=v):(mk n d).set v.toNat [.b true]=mk n (d++[v]):=by
 unfold mk
 rw[bl_set]
 refine Qex λj _=>?_
 by_cases hj:j=v.toNat
 ·have:(j:Int)=v:=by omega
  simp[hj,show ((v.toNat:Nat):Int)=v by omega]
 ·have:(j:Int)≠v:=by omega
  simp[hj,this]
theorem Qgn {n:Nat} {d:List Int} {v:Int} (h0:0<=v) (h1:v<n):(mk n d)[v.toNat]?=some [.b (decide (v∈d))]:=by
 unfold mk
 rw[Qbq (by omega),show ((v.toNat:Nat):Int)=v by omega]
theorem Qj5 (n:Nat) (d:List Int) (k:Nat):∀el∈mk n d,∀x∈el,x.cl k=true:=bl_cl _ _ _
theorem Flt.app {a b:List O} (h:Flt a) (k:Flt b):Flt (a++b):=λo ho n=>by
 rcases qg.1 ho with h1 | h1
 ·exact h o h1 n
 ·exact k o h1 n
theorem Flt.WeakH {hx l:List O} (h:Flt hx) (n:Nat):WeakH n (hx++l) hx:=Q6r λo ho=>h o ho n
theorem Flt.WeakH' {hx:List O} (h:Flt hx) (n:Nat):Go.Abs.WeakH n hx hx:=by
 have:=h.WeakH (l:=[]) n
 rwa [List.append_nil]at this
section
variable {K β:Type} [DecidableEq K]
def Z2 (e:K):List (K × β)->Option (Nat × β)
 | []=>none
 | (k,n)::r=>if e=k then some (0,n) else (Z2 e r).map λp=>(p.1+1,p.2)
structure KeyOk (ls:List Nat) (en:K->V):Prop where
 shape:∀a,Zi ls (en a)=true
 len:∀a,(en a).cells.length=ls.length
 eq:∀a b,Ze ls (en a).cells (en b).cells=some (decide (a=b))
def asG (en:K->V) (ev:β->V) (p:K × β):V × V:=(en p.1,ev p.2)
theorem Zw {ls:List Nat} {en:K->V} (O:KeyOk ls en) (ev:β->V) (e:K):∀L:List (K × β),Qj ls (en e) (L.map (asG en ev))=some ((Z2 e L).map λp=>(p.1,ev p.2))
 | []=>by simp[Qj,O.shape,O.len,Z2]
 | (k,n)::r=>by
   simp only[List.map_cons,asG,Qj,Z2,O.shape,O.eq,Bool.and_self,if_true]
   by_cases h:e=k
   ·simp[h]
   ·simp only[h,decide_false,if_false]
    have:=Zw O ev e r
    rw[this]
    cases Z2 e r<;>rfl
theorem fndG_none {e:K}:∀{L:List (K × β)},Z2 e L=none↔e∉L.map Prod.fst
 | []=>by simp[Z2]
 | (k,n)::r=>by
   simp only[Z2]
   by_cases h:e=k
   ·simp[h]
   ·rw[if_neg h,Option.map_eq_none_iff,fndG_none (L:=r)]
    simp[h]
theorem Zm {e:K}:∀{L:List (K × β)} {i:Nat} {n:β},Z2 e L=some (i,n)->L[i]?=some (e,n)
 | [],i,n,h=>by simp[Z2]at h
 | (k,m)::r,i,n,h=>by
   simp only[Z2]at h
   by_cases hk:e=k
   ·simp[hk]at h;obtain⟨rfl,rfl⟩:=h;simp[hk]
   ·simp only[hk,if_false,qa,Prod.mk.injEq]at h
    obtain⟨⟨j,n1⟩,hj,rfl,rfl⟩:=h
    simpa using Zm hj
theorem Yo:∀{L:List (K × β)} {i:Nat} {e:K} {n:β},(L.map Prod.fst).Nodup->L[i]?=some (e,n)->Z2 e L=some (i,n)
 | [],i,e,n,_,h=>by simp at h
 | (k,m)::r,0,e,n,_,h=>by simp at h;obtain⟨rfl,rfl⟩:=h;simp[Z2]
 | (k,m)::r,i+1,e,n,hn,h=>by
   simp only[List.map_cons,List.nodup_cons]at hn
   simp only[List.getElem?_cons_succ]at h
   have hk:¬ e=k:=by
    rintro rfl
    exact hn.1 (qp.2 ⟨(e,n),qb h,rfl⟩)
   simp[Z2,hk,Yo hn.2 h]
theorem Ux {e e':K} {n:β}:∀{L:List (K × β)},Z2 e L=none->Z2 e' (L++[(e,n)])=if e'=e then some (L.length,n) else Z2 e' L
 | [],_=>by simp[Z2]
 | (k,m)::r,h=>by
   simp only[Z2]at h
   by_cases hk:e=k
   ·simp[hk]at h
   ·simp only[hk,if_false,Option.map_eq_none_iff]at h
    by_cases he:e'=e
    ·subst he;simp[Z2,hk,Ux h]
    ·simp only[List.cons_append,Z2,Ux h,he,if_false]
theorem Q0q {e e':K} {n':β}:∀{L:List (K × β)} {i:Nat} {n:β},Z2 e L=some (i,n)->Z2 e' (L.set i (e,n'))=if e'=e then some (i,n') else Z2 e' L
 | [],i,n,h=>by simp[Z2]at h
 | (k,m)::r,i,n,h=>by
   simp only[Z2]at h
   by_cases hk:e=k
   ·simp[hk]at h;obtain⟨rfl,rfl⟩:=h
    subst hk
    by_cases he:e'=e<;>simp[Z2,he]
   ·simp only[hk,if_false,qa,Prod.mk.injEq]at h
    obtain⟨⟨j,n1⟩,hj,rfl,rfl⟩:=h
    have:=Q0q (e':=e') (n':=n') hj
    by_cases he:e'=e
    ·subst he;simp[Z2,hk,this]
    ·simp only[List.set_cons_succ,Z2,this,he,if_false]
def U9 (e:K) (n:β) (L:List (K × β)):List (K × β):=match Z2 e L with | some (i,_)=>L.set i (e,n) | none=>L++[(e,n)]
theorem Qe5 (e e':K) (n:β) (L:List (K × β)):(Z2 e' (U9 e n L)).map Prod.snd=if e'=e then some n else (Z2 e' L).map Prod.snd:=by
 unfold U9
 cases h:Z2 e L with
 | none=>simp only[Ux h];split<;>simp
 | some p=>obtain⟨i,m⟩:=p;simp only[Q0q h];split<;>simp
theorem Qla (e:K) (n:β) (L:List (K × β)):(U9 e n L).map Prod.fst=if e∈L.map Prod.fst then L.map Prod.fst else L.map Prod.fst++[e]:=by
 unfold U9
 cases h:Z2 e L with
 | none=>rw[if_neg (fndG_none.1 h)];simp
 | some p =>
   obtain⟨i,m⟩:=p
   have h1:=Zm h
   rw[if_pos (qp.2 ⟨(e,m),qb h1,rfl⟩)]
   simp only[List.map_set]
   apply qy
   intro j
   by_cases hj:i=j
   ·subst hj
    have:=(q8.1 h1).1
    rw[qn (by simpa using this)]
    simp[h1]
   ·rw[qu hj]
end
theorem Kq:KeyOk [1,1] P2.enc:=⟨λ_=>rfl,λ_=>rfl,veq2⟩
theorem Q60:KeyOk [1,1,1] V3.enc:=⟨λ_=>rfl,λ_=>rfl,λa b=>by
 cases a;cases b
 simp[Ze,V3.enc,V3.cs,V.cells,Q03,V3.mk.injEq]
 rw[Bool.eq_iff_iff];simp⟩
theorem key_T3:KeyOk [1,1,1] T3.enc:=⟨λ_=>rfl,λ_=>rfl,λa b=>by
 cases a;cases b
 simp[Ze,T3.enc,T3.cs,V.cells,Q03,T3.mk.injEq]
 rw[Bool.eq_iff_iff];simp⟩
theorem Q43:KeyOk [1] (V.i .i64):=⟨λ_=>rfl,λ_=>rfl,λa b=>by
 simp[Ze,V.cells,Q03]
 rw[Bool.eq_iff_iff];simp⟩
def kt {K:Type} (en:K->V) (v:K):V × V:=(en v,.b true)
theorem Es {K:Type} [DecidableEq K] {ls:List Nat} {en:K->V} (O:KeyOk ls en) (e:K) (U:List K):Qj ls (en e) (U.map (kt en))=some (if e∈U then some (U.idxOf e,.b true) else none):=by
 induction U with
 | nil=>simp[Qj,O.shape,O.len]
 | cons x r ih =>
   simp only[List.map_cons,kt,Qj,O.shape,O.eq,Bool.and_self,if_true]
   by_cases h:e=x
   ·simp[h]
   ·simp only[h,decide_false]
    have ih':Qj ls (en e) (r.map λv=>(en v,V.b true))=_:=ih
    have hm:(e∈x::r)=(e∈r):=by simp[h]
    have h':¬ x=e:=λhh=>h hh.symm
    show Option.map _ (Qj ls (en e) (r.map (kt en)))=_
    rw[ih]
    have hb:(x == e)=false:=by simp[h']
    by_cases hr:e∈r<;>simp[hr,h,List.idxOf_cons,h',hb]
theorem U1 (t:V3) (n:Nat):(∀y∈t.cs,y.cl n=true)=True:=by simp[V3.cs,V.cl,V.cl1,V.cl0]
theorem Xi (v:V3) (n:Nat):v.enc.cl n=true:=by simp[V3.enc,V3.cs,V.cl,V.cl1,V.cl0]
theorem Zy (t:T3) (n:Nat):(∀y∈t.cs,y.cl n=true)=True:=by simp[T3.cs,V.cl,V.cl1,V.cl0]
end Go.Abs
