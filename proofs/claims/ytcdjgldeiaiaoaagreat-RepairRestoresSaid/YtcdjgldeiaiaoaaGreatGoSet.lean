/- Part of the library on which the proof stands: an abstract machine, its values and its soundness against the model; or what functions of the program do to such values. -/
import Derived.Test.YtcdjgldeiaiaoaaGreatGoTpE
import Derived.Test.YtcdjgldeiaiaoaaGreatGoSch
import Derived.Test.YtcdjgldeiaiaoaaGreatGoHeap
import Derived.Test.YtcdjgldeiaiaoaaGreatAbsSN
import Derived.Test.YtcdjgldeiaiaoaaGreatGoOriB
import Derived.Test.YtcdjgldeiaiaoaaGreatGoRevC
set_option linter.unusedVariables false
set_option linter.unusedSimpArgs false
set_option maxHeartbeats 1000000
namespace Go.Abs
theorem P2.rev2 (e:P2):e.rev.rev=e:=rfl
theorem Q53 (E:List P2) (e:P2):(E.map P2.rev).count e=E.count e.rev:=by
 induction E with
 | nil=>rfl
 | cons a E ih =>
   rw[List.map_cons,List.count_cons,List.count_cons,ih]
   have:(a.rev == e)=(a == e.rev):=by
    rw[Bool.eq_iff_iff,beq_iff_eq,beq_iff_eq]
    constructor
    ·rintro rfl;rfl
    ·rintro rfl;rfl
   rw[this]
theorem Q9b (t:T3) (v:Int):(Q5 t).countP (λe=>decide (e.x=v))=(Q5 t).countP (λe=>decide (e.y=v)):=by
 have e3:Q5 t=(Jh t).filter λe=>decide (e.x≠e.y):=rfl
 rw[e3,List.countP_filter,List.countP_filter]
 unfold Jh
 simp only[List.countP_cons,List.countP_nil,Bool.and_eq_true,decide_eq_true_eq,Nat.zero_add,ne_eq]
 by_cases q1:t.a=v<;>by_cases q2:t.b=v<;>by_cases q3:t.c=v<;>simp[q1,q2,q3]<;>(repeat' split)<;>omega
theorem Q9n (l:List T3) (v:Int):(Qa l).countP (λe=>decide (e.x=v))=(Qa l).countP (λe=>decide (e.y=v)):=by
 induction l with
 | nil=>rfl
 | cons t l ih =>
   have:Qa (t::l)=Q5 t++Qa l:=by simp[Qa]
   rw[this,List.countP_append,List.countP_append,ih,Q9b]
def Kz (m:Mesh) (l:List P2) (i:Nat):Bool:=match l[i]? with
 | some e=>decide (m.use e=1) && (decide (m.use e.rev=0) && !(decide (0<i) && decide (((l[i-1]?).getD ⟨0,0⟩).x=e.x)))
 | none=>true
def Mesh.simple (m:Mesh) (l:List P2):Bool:=(List.range l.length).all (Kz m l)
theorem Q1n {m:Mesh} {l:List P2} (h:m.simple l=true) {i:Nat} {e:P2} (he:l[i]?=some e):m.use e=1/\m.use e.rev=0/\(0<i->((l[i-1]?).getD ⟨0,0⟩).x≠e.x):=by
 have hlt:=(q8.1 he).1
 have:=qj.1 h i (qz.2 hlt)
 unfold Kz at this
 rw[he]at this
 simp at this
 refine⟨this.1,this.2.1,λhi=>?_⟩
 rcases this.2.2 with h0 | h0
 ·omega
 ·exact h0
theorem Q1m {m:Mesh} {l:List P2} (h:m.simple l=true) (ha:asc l):∀(j i:Nat) (a b:P2),i<j->l[i]?=some a->l[j]?=some b->a.x<b.x
 | 0,i,a,b,hij,_,_=>by omega
 | j+1,i,a,b,hij,h1,h2=>by
   have hlt:=(q8.1 h2).1
   have hj:l[j]?=some l[j]:=q9 (by omega)
   obtain⟨hi',h1'⟩:=q8.1 h1
   obtain⟨hj',h2'⟩:=q8.1 h2
   have hs:=(Q1n h h2).2.2 (by omega)
   rw[Nat.add_sub_cancel,hj]at hs
   simp only[Option.getD_some]at hs
   have hp:=j4.1 ha j (j+1) (by omega) hj' (by omega)
   rw[h2']at hp
   have hlt2:l[j].x<b.x:=by unfold P2.lt at hp;omega
   by_cases hij2:i=j
   ·subst hij2
    rw[hj]at h1
    obtain rfl:=Option.some.inj h1
    exact hlt2
   ·have:=Q1m h ha j i a l[j] (by omega) h1 hj
    omega
theorem Ul {m:Mesh} {l:List P2} (h:m.simple l=true) (ha:asc l):(l.map P2.x).Nodup:=by
 rw[List.nodup_iff_pairwise_ne,jd,j4]
 intro i j hi hj hij he
 have:=Q1m h ha j i _ _ hij (q9 hi) (q9 hj)
 omega
theorem Q0p {α:Type} {l:List α} {f:α->Int} (h:(l.map f).Nodup) (v:Int):l.countP (λe=>decide (f e=v))<=1:=by
 induction l with
 | nil=>simp
 | cons a l ih =>
   simp only[List.map_cons,List.nodup_cons]at h
   rw[List.countP_cons]
   have:=ih h.2
   by_cases hv:f a=v
   ·have h0:l.countP (λe=>decide (f e=v))=0:=by
     rw[List.countP_eq_zero]
     intro b hb
     simp only[decide_eq_true_eq]
     intro hbv
     exact h.1 (qp.2 ⟨b,hb,by rw[hbv,hv]⟩)
    rw[h0];simp[hv]
   ·simp[hv];omega
theorem Ks {α:Type} {f:α->Int}:∀{l:List α},(∀v,l.countP (λe=>decide (f e=v))<=1)->(l.map f).Nodup
 | [],_=>by simp
 | a::l,h=>by
   rw[List.map_cons,List.nodup_cons]
   refine⟨λhm=>?_,Ks λv=>?_⟩
   ·obtain⟨b,hb,hba⟩:=qp.1 hm
    have h1:=h (f a)
    rw[List.countP_cons]at h1
    have:0<l.countP (λe=>decide (f e=f a)):=List.countP_pos_iff.2 ⟨b,hb,by simp[hba]⟩
    simp only[decide_true,if_true]at h1;omega
   ·have h1:=h v
    rw[List.countP_cons]at h1
    split at h1<;>omega
theorem Q3c {m:Mesh} (hz:m.check=0) (h:m.simple m.border=true) (v:Int):m.border.countP (λe=>decide (e.x=v))=m.border.countP (λe=>decide (e.y=v)):=by
 have hn:m.border.Nodup:=(Xj m).imp λh1 h2=>by subst h2;exact P2.lt_irrefl _ h1
 have hu:∀e,m.use e=(Qa m.tris).count e:=λe=>by simp[Mesh.use,hz]
 have hcnt:∀e,m.border.count e=if e∈m.border then 1 else 0:=λe=>by
  by_cases he:e∈m.border
  ·rw[if_pos he]
   have h1:=List.count_pos_iff.2 he
   have h2:=List.nodup_iff_count.1 hn e
   omega
  ·rw[if_neg he];exact List.count_eq_zero.2 he
 have hone:∀e,e∈m.border->(Qa m.tris).count e=1/\(Qa m.tris).count e.rev=0:=λe he=>by
  obtain⟨i,hi⟩:=qr he
  have:=Q1n h hi
  rw[hu,hu]at this
  omega
 have hperm:(Qa m.tris++m.border.map P2.rev).Perm ((Qa m.tris).map P2.rev++m.border):=by
  rw[List.perm_iff_count]
  intro e
  rw[List.count_append,List.count_append,Q53,Q53,hcnt,hcnt]
  by_cases h1:e∈m.border
  ·have g1:=hone e h1
   have h2:e.rev∉m.border:=λh2=>by have:=hone _ h2;rw[P2.rev2]at this;omega
   rw[if_pos h1,if_neg h2];omega
  ·by_cases h2:e.rev∈m.border
   ·have g2:=hone _ h2
    rw[P2.rev2]at g2
    rw[if_neg h1,if_pos h2];omega
   ·rw[if_neg h1,if_neg h2]
    have p1:0<=m.use e:=by rw[hu];omega
    have p2:0<=m.use e.rev:=by rw[hu];omega
    have k1:¬ (m.use e.rev<m.use e):=λhlt=>h1 (mem_border.2 ⟨hz,(Q5e hz).2 (by omega),hlt⟩)
    have k2:¬ (m.use e<m.use e.rev):=λhlt=>h2 (mem_border.2 ⟨hz,(Q5e hz).2 (by omega),by rw[P2.rev2];exact hlt⟩)
    rw[hu,hu]at k1 k2
    omega
 have hc:=hperm.countP_eq (λe=>decide (e.x=v))
 rw[List.countP_append,List.countP_append,List.countP_map,List.countP_map]at hc
 have e1:((λe=>decide (e.x=v)) ∘ P2.rev)=λe:P2=>decide (e.y=v):=rfl
 rw[e1]at hc
 have:=Q9n m.tris v
 omega
theorem Ef {m:Mesh} (hz:m.check=0) (h:m.simple m.border=true):(m.border.map P2.y).Nodup:=by
 refine Ks λv=>?_
 rw[<- Q3c hz h]
 exact Q0p (Ul h (Xj m)) v
theorem Bq {m:Mesh} (hz:m.check=0) (h:m.simple m.border=true) (v:Int):v∈m.border.map P2.x↔v∈m.border.map P2.y:=by
 have hb:=Q3c hz h v
 have k:∀f:P2->Int,v∈m.border.map f↔0<m.border.countP (λe=>decide (f e=v)):=λf=>by
  rw[qp,List.countP_pos_iff];simp
 rw[k,k,hb]
def nxt (l:List P2) (v:Int):Int:=match l.find? (λe=>decide (e.y=v)) with | some e=>e.x | none=>v
theorem Q64 {l:List P2} (hy:(l.map P2.y).Nodup) {e:P2} (he:e∈l):nxt l e.y=e.x:=by
 unfold nxt
 cases hf:l.find? (λa=>decide (a.y=e.y)) with
 | none =>
   have:=List.find?_eq_none.1 hf e he
   simp at this
 | some a =>
   have h1:=List.find?_some hf
   have h2:=List.mem_of_find?_eq_some hf
   simp only[decide_eq_true_eq]at h1
   have:a=e:=by
    obtain⟨i,hi,rfl⟩:=List.mem_iff_getElem.1 h2
    obtain⟨j,hj,rfl⟩:=List.mem_iff_getElem.1 he
    have e1:(l.map P2.y).idxOf l[i].y=i:=by
     have:=hy.idxOf_getElem i (by simpa using hi)
     simpa using this
    have e2:(l.map P2.y).idxOf l[j].y=j:=by
     have:=hy.idxOf_getElem j (by simpa using hj)
     simpa using this
    rw[h1]at e1
    have:i=j:=by omega
    subst this;rfl
   subst this;rfl
def Ko (nx:Int->Int) (done:List Int):Nat->List Int->Int->List Int
 | 0,w,_=>w
 | n+1,w,v=>if v∈done++w then w else Ko nx done n (w++[v]) (nx v)
def Jb (nx:Int->Int) (N:Nat) (s:List Int × List (List Int)) (e:P2):List Int × List (List Int) :=
 if e.x∈s.1 then s else (s.1++Ko nx s.1 (N+1) [] e.x,s.2++[Ko nx s.1 (N+1) [] e.x])
def Zh (nx:Int->Int) (l:List P2) (k:Nat):List Int × List (List Int):=(l.take k).foldl (Jb nx l.length) ([],[])
theorem Q06 (nx:Int->Int) {l:List P2} {k:Nat} {e:P2} (h:l[k]?=some e):Zh nx l (k+1)=Jb nx l.length (Zh nx l k) e:=by
 unfold Zh;rw[Qj h,List.foldl_append];rfl
def Xu (l:List P2):List (List Int):=(Zh (nxt l) l l.length).2
def Mesh.loops (m:Mesh):List (List Int) × Int:=if m.check=0 then (if m.simple m.border then (Xu m.border,0) else ([],13)) else ([],m.check)
def Qdu (A done:List Int):Nat:=(A.filter λv=>!done.contains v).length
theorem Qcj {A done:List Int} {v:Int} (hv:v∈A) (hd:v∉done):Qdu A (done++[v])<Qdu A done:=by
 unfold Qdu
 induction A with
 | nil=>simp at hv
 | cons a A ih =>
   have hle:(A.filter λu=>!(done++[v]).contains u).length<=(A.filter λu=>!done.contains u).length:=by
    clear ih hv
    induction A with
    | nil=>simp
    | cons b A ih2 =>
      simp only[List.filter_cons]
      by_cases hb:done.contains b=true
      ·have:(done++[v]).contains b=true:=by simp at hb ⊢;exact .inl hb
       rw[hb,this];exact ih2
      ·rw[Bool.not_eq_true]at hb
       simp only[hb,Bool.not_false,if_true]
       split<;>(try simp only[List.length_cons])<;>omega
   by_cases hav:a=v
   ·subst hav
    have h1:(done++[a]).contains a=true:=by simp
    have h2:done.contains a=false:=by simpa using hd
    simp only[List.filter_cons,h1,h2,Bool.not_true,Bool.not_false,if_true,Bool.false_eq_true,if_false,List.length_cons]
    omega
   ·have hvA:v∈A:=by
     rcases List.mem_cons.1 hv with h | h
     ·exact absurd h.symm hav
     ·exact h
    have:=ih hvA
    have hc:(done++[v]).contains a=done.contains a:=by
     rw[Bool.eq_iff_iff];simp[hav]
    simp only[List.filter_cons,hc]
    split<;>(try simp only[List.length_cons])<;>omega
theorem Qck (A done:List Int):Qdu A done<=A.length:=j8 _ _
def isV (l:List Int):V:=.l 1 (l.map λx=>[.i .i64 x])
def Q35 (l:List Int) (k:Nat):List T3:=(List.range k).map λi=>⟨(l[0]?).getD 0,(l[i+1]?).getD 0,(l[i+2]?).getD 0⟩
def Jg (l:List Int):List T3:=Q35 l (l.length-2)
theorem Q98 (l:List Int) (k:Nat):(Q35 l k).length=k:=by simp[Q35]
theorem Qfm (l:List Int) (k:Nat):Q35 l (k+1)=Q35 l k++[⟨(l[0]?).getD 0,(l[k+1]?).getD 0,(l[k+2]?).getD 0⟩]:=by simp[Q35,List.range_succ]
def FanC (P:Program) (f:FuncId):Prop:=∀l:List Int,l.length<=1000000->CallIs P f [isV l] (tsV (Jg l))
theorem t3_isD (t:T3):(∀y∈t.cs,y.isD=true)=True:=by simp[T3.cs,V.isD]
section
variable {P:Program} (hm:P.follows .mixedOrders=true)
include hm
theorem Q6e {f:FuncId} (hf:Qb P f L03.c L03.r L03.n):FanC P f:=by
 intro l hl
 refine PureC.is (Q9 hm hf (qh rfl) ?_) rfl
 unfold L03.c
 simp[go_sem,isV]
 refine Zv [.t 3 3] (α:=Nat) (λk=>k<=l.length-2)
  (λk=>⟨[(0,isV l),(3,.own 0 (k+1) 0 k),(4,.i .i64 (k+1:Nat))],[.arr (k+1) 3 ((Q35 l k).map T3.cs)]⟩)
  (λk=>l.length-2-k) 0 (Nat.zero_le _) ?_ ?_
 ·simp[go_sem,isV,Q35]
 ·intro k hk
  have hkl:=Q98 l k
  have hs:=Qfm l k
  by_cases hlt:k+2<l.length
  ·have h1:k+1<l.length:=by omega
   have h0:0<l.length:=by omega
   have g0:l[0]?=some l[0]:=q9 h0
   have g1:l[k+1]?=some l[k+1]:=q9 h1
   have g2:l[k+2]?=some l[k+2]:=q9 hlt
   generalize l[0]=x0 at g0
   generalize l[k+1]=x1 at g1
   generalize l[k+2]=x2 at g2
   obtain⟨_,q0⟩:=q8.1 g0
   obtain⟨_,q1⟩:=q8.1 g1
   obtain⟨_,q2⟩:=q8.1 g2
   rw[g0,g1,g2]at hs
   have e1:((k:Int)+1+1)=((k+2:Nat):Int):=by omega
   have e2:((k:Int)+1+1).toNat=k+2:=by omega
   have e3:((k:Int)+1).toNat=k+1:=by omega
   simp (disch:=omega) [go_sem,isV,Q3,show (k:Int)+1+1<l.length by omega,h0,h1,hlt,q0,q1,q2,g0,g1,g2,e2,e3]
   refine⟨by omega,by omega,⟨by omega,by omega,by omega⟩,k+1,by omega,by omega,⟨rfl,by omega⟩,rfl,?_⟩
   rw[hs,qe (by simp[hkl]),qx];rfl
  ·have hkk:k=l.length-2:=by omega
   have hfo:Jg l=Q35 l k:=by rw[hkk];rfl
   have ht:List.take k ((Q35 l k).map T3.cs)=(Q35 l k).map T3.cs:=qe (by simp[hkl])
   simp (disch:=omega) [go_sem,isV,Q3,show ¬ (k:Int)+1+1<l.length by omega,L03.r,hfo,tsV,t3_isD,hkl,ht]
end
def bl (n:Nat) (g:Nat->Bool):List (List V):=(List.range n).map λj=>[.b (g j)]
theorem Q77 (n:Nat) (g:Nat->Bool):(bl n g).length=n:=by simp[bl]
theorem Q78 {n:Nat} {g:Nat->Bool} {i:Nat} (h:i<n):(bl n g)[i]?=some [.b (g i)]:=by simp[bl,h]
theorem bl_rep (n:Nat):List.replicate n [V.b false]=bl n (λ_=>false):=by
 apply qy
 intro i
 by_cases h:i<n
 ·rw[Q78 h];simp[h]
 ·rw[qk (by simp;omega),qk (by rw[Q77];omega)]
theorem bl_set (n:Nat) (g:Nat->Bool) (i:Nat) (b:Bool):(bl n g).set i [.b b]=bl n (λj=>if j=i then b else g j):=by
 apply qy
 intro j
 by_cases h:j<n
 ·rw[Q78 h]
  by_cases hj:i=j
  ·subst hj
   rw[qn (by rw[Q77];exact h),if_pos rfl]
  ·rw[qu hj,Q78 h,if_neg (λhh=>hj hh.symm)]
 ·rw[qk (by simp[Q77];omega),qk (by rw[Q77];omega)]
theorem bl_cl (n:Nat) (g:Nat->Bool) (k:Nat):∀el∈bl n g,∀x∈el,x.cl k=true:=by
 intro el hel x hx
 obtain⟨j,_,rfl⟩:=qp.1 hel
 simp at hx;subst hx;rfl
def ics (l:List Int):List (List V):=l.map λx=>[.i .i64 x]
def lsV (ls:List (List Int)):V:=.l 1 (ls.map λl=>[isV l])
def Qc9 (P:Program) (f:FuncId):Prop:=∀m:Mesh,CallIs P f [m.enc] (.t [lsV m.loops.1,.i .i64 m.loops.2])
def Held (b:Nat) (hx:List O) (ls:List (List Int)) (cells:List (List V)):Prop :=
 cells.length=ls.length/\∀(i:Nat) (c:List V) (l:List Int),cells[i]?=some c->ls[i]?=some l->∃j g,c=[.own (b+j) g 0 l.length]/\hx[j]?=some (.arr g 1 (ics l))
def Flt (hx:List O):Prop:=∀o∈hx,∀n,o.cl n
theorem Held.nil (b:Nat):Held b [] [] []:=⟨rfl,by simp⟩
theorem Held.app {b:Nat} {hx:List O} {ls:List (List Int)} {cells:List (List V)} (h:Held b hx ls cells) (l:List O):Held b (hx++l) ls cells :=
 ⟨h.1,λi c x h1 h2=>by obtain⟨j,g,h3,h4⟩:=h.2 i c x h1 h2;exact⟨j,g,h3,by rw[qd (q8.1 h4).1];exact h4⟩⟩
theorem Held.snoc {b:Nat} {hx:List O} {ls:List (List Int)} {cells:List (List V)} (h:Held b hx ls cells) {j g:Nat} {l:List Int} (hj:hx[j]?=some (.arr g 1 (ics l))):Held b hx (ls++[l]) (cells++[[.own (b+j) g 0 l.length]]):=by
 refine⟨by simp[h.1],λi c x h1 h2=>?_⟩
 by_cases hi:i<ls.length
 ·rw[qd (by rw[h.1];exact hi)]at h1
  rw[qd hi]at h2
  exact h.2 i c x h1 h2
 ·rw[qf (by rw[h.1];omega)]at h1
  rw[qf (by omega)]at h2
  have hi0:i-ls.length=0:=by
   have:=(q8.1 h2).1
   simp at this;omega
  rw[h.1,hi0]at h1
  rw[hi0]at h2
  simp at h1 h2
  subst h1;subst h2
  exact⟨j,g,rfl,hj⟩
theorem Held.cl {b:Nat} {hx:List O} {ls:List (List Int)} {cells:List (List V)} (h:Held b hx ls cells) {n:Nat} (hn:b+hx.length<=n):∀el∈cells,∀x∈el,x.cl n=true:=by
 intro el hel x hx'
 obtain⟨i,hi⟩:=qr hel
 have hlt:=(q8.1 hi).1
 obtain⟨j,g,rfl,h4⟩:=h.2 i el _ hi (q9 (by rw[<- h.1];exact hlt))
 have:=(q8.1 h4).1
 simp at hx';subst hx'
 simp[V.cl,V.cl1,V.cl0];omega
theorem Qd8 (l:List Int):∀el∈ics l,∀x∈el,x.isD=true:=by
 intro el hel x hx
 obtain⟨a,_,rfl⟩:=qp.1 hel
 simp at hx;subst hx;rfl
theorem Jc (l:List Int) (n:Nat):∀el∈ics l,∀x∈el,x.cl n=true:=λel hel x hx=>Qb5 n (Qd8 l el hel x hx)
theorem Held.frz {b:Nat} {base hx:List O} {ls:List (List Int)} {cells:List (List V)} (h:Held b hx ls cells) (hb:base.length=b):cells.mapM (λel=>el.mapM (Q6g (base++hx)))=some (ls.map λl=>[isV l]):=by
 induction cells generalizing ls with
 | nil =>
   have:=h.1
   simp at this
   obtain rfl:=List.length_eq_zero_iff.1 this.symm
   rfl
 | cons c cells ih =>
   have hl:=h.1
   cases ls with
   | nil=>simp at hl
   | cons l ls =>
     have h0:=h.2 0 c l rfl rfl
     obtain⟨j,g,rfl,hj⟩:=h0
     have ht:Held b hx ls cells:=⟨by simpa using hl,λi c x h1 h2=>h.2 (i+1) c x (by simpa using h1) (by simpa using h2)⟩
     have hg:(base++hx)[b+j]?=some (.arr g 1 (ics l)):=by rw[<- hb,Qd];exact hj
     have ha:(ics l).all (λx=>x.all V.isD)=true:=by
      rw[qj]
      exact λel hel=>qj.2 (Qd8 l el hel)
     have hlen:(ics l).length=l.length:=by simp[ics]
     have hfr:Q6g (base++hx) (.own (b+j) g 0 l.length)=some (isV l):=by
      have ht2:List.take l.length (ics l)=ics l:=qe (by omega)
      show _=some (V.l 1 (ics l))
      simp only[Q6g,Jd,hg]
      rw[List.drop_zero,ht2,if_pos ⟨trivial,by omega,ha⟩]
     simp[List.mapM_cons,hfr,ih ht]
theorem Qd9 {b:Nat} {base hx:List O} {ls:List (List Int)} {cells:List (List V)} (h:Held b hx ls cells) (hb:base.length=b) :
  (if ls.length<=cells.length then Option.map (V.l 1) (List.mapM (λel=>List.mapM (Q6g (base++hx)) el) (List.take ls.length cells)) else none)=some (lsV ls):=by
 have h1:=h.frz hb
 have ht:List.take ls.length cells=cells:=qe (by rw[h.1];exact Nat.le_refl _)
 simp only[ht,h1,h.1,Nat.le_refl,if_true,Option.map_some,lsV]
theorem Q5j {m:Mesh} {l:List P2} {k:Nat} (hk:k<l.length) (h:Kz m l k=false):m.simple l=false:=by
 unfold Mesh.simple
 rw[List.all_eq_false]
 exact⟨k,qz.2 hk,by simp[h]⟩
theorem Q9a {t:T3} {e:P2} (h:e∈Q5 t):(e.x=t.a∨e.x=t.b∨e.x=t.c)/\(e.y=t.a∨e.y=t.b∨e.y=t.c):=by
 unfold Q5 Zs at h
 have h1:e∈Jh t:=jg (qv.1 h).1
 simp only[Jh,List.mem_cons,List.not_mem_nil,or_false]at h1
 rcases h1 with rfl | rfl | rfl<;>simp
theorem Q4c {m:Mesh} (hz:m.check=0) {e:P2} (h:e∈Qa m.tris):0<=e.x/\e.x<m.verts.length/\0<=e.y/\e.y<m.verts.length:=by
 obtain⟨t,ht,he⟩:=jh.1 h
 obtain⟨h1,h2,h3,h4,h5,h6⟩:=T3.ok_iff.1 (qj.1 (Mesh.check_zero.1 hz).2.2.2 t ht)
 have:=Q9a he
 omega
theorem Ik {m:Mesh} {e:P2} (h:e∈m.border):0<=e.x/\e.x<m.verts.length/\0<=e.y/\e.y<m.verts.length:=by
 obtain⟨h1,h2,_⟩:=mem_border.1 h
 exact Q4c h1 h2
theorem Eg (m:Mesh):m.border.length<=12288:=by
 by_cases hz:m.check=0
 ·have hn:m.border.Nodup:=(Xj m).imp λh1 h2=>by subst h2;exact P2.lt_irrefl _ h1
  have h1:=Q2j hn (λa ha=>(mem_border.1 ha).2.1)
  have hE:=Wo m.tris m.tris.length
  rw[qi]at hE
  have:=(Mesh.check_zero.1 hz).2.1
  omega
 ·simp[Mesh.border,hz]
theorem Qcz {m:Mesh} (hz:m.check=0) (h:m.simple m.border=true) {v:Int} (hv:v∈m.border.map P2.x):nxt m.border v∈m.border.map P2.x:=by
 rw[Bq hz h]at hv
 obtain⟨e,he,rfl⟩:=qp.1 hv
 rw[Q64 (Ef hz h) he]
 exact qp.2 ⟨e,he,rfl⟩
theorem Qic (e:Int):Le (.t [.nil,.i .i64 e]) (.t [lsV [],.i .i64 e]):=.inr ⟨_,_,rfl,rfl,.inl (Le0.nil 1),Le1.refl _,trivial⟩
theorem Q9k {n:Nat} {g g':Nat->Bool} (h:∀j,j<n->g j=g' j):bl n g=bl n g':=by
 unfold bl
 exact ji λj hj=>by rw[h j (qz.1 hj)]
def mk (n:Nat) (done:List Int):List (List V):=bl n λj=>decide ((j:Int)∈done)
theorem Qia (n:Nat):List.replicate n [V.b false]=mk n []:=by rw[bl_rep];exact Q9k λj _=>by simp
theorem Qay {n:Nat} {d:List Int} {v:Int} (h0:0<=v):(mk n d).set v.toNat [.b true]=mk n (d++[v]):=by
 unfold mk
 rw[bl_set]
 refine Q9k λj _=>?_
 by_cases hj:j=v.toNat
 ·have:(j:Int)=v:=by omega
  simp[hj,show ((v.toNat:Nat):Int)=v by omega]
 ·have:(j:Int)≠v:=by omega
  simp[hj,this]
theorem Qaz {n:Nat} {d:List Int} {v:Int} (h0:0<=v) (h1:v<n):(mk n d)[v.toNat]?=some [.b (decide (v∈d))]:=by
 unfold mk
 rw[Q78 (by omega),show ((v.toNat:Nat):Int)=v by omega]
theorem Qd1 (n:Nat) (d:List Int) (k:Nat):∀el∈mk n d,∀x∈el,x.cl k=true:=bl_cl _ _ _
theorem Flt.app {a b:List O} (h:Flt a) (k:Flt b):Flt (a++b):=λo ho n=>by
 rcases qg.1 ho with h1 | h1
 ·exact h o h1 n
 ·exact k o h1 n
theorem Flt.WeakH {hx l:List O} (h:Flt hx) (n:Nat):WeakH n (hx++l) hx:=Q3f λo ho=>h o ho n
theorem Flt.WeakH' {hx:List O} (h:Flt hx) (n:Nat):Go.Abs.WeakH n hx hx:=by
 have:=h.WeakH (l:=[]) n
 rwa [List.append_nil]at this
section
variable {K β:Type} [DecidableEq K]
def Zb (e:K):List (K × β)->Option (Nat × β)
 | []=>none
 | (k,n)::r=>if e=k then some (0,n) else (Zb e r).map λp=>(p.1+1,p.2)
structure KeyOk (ls:List Nat) (en:K->V):Prop where
 shape:∀a,Za ls (en a)=true
 len:∀a,(en a).cells.length=ls.length
 eq:∀a b,Z3 ls (en a).cells (en b).cells=some (decide (a=b))
def asG (en:K->V) (ev:β->V) (p:K × β):V × V:=(en p.1,ev p.2)
theorem X3 {ls:List Nat} {en:K->V} (O:KeyOk ls en) (ev:β->V) (e:K):∀L:List (K × β),Qh ls (en e) (L.map (asG en ev))=some ((Zb e L).map λp=>(p.1,ev p.2))
 | []=>by simp[Qh,O.shape,O.len,Zb]
 | (k,n)::r=>by
   simp only[List.map_cons,asG,Qh,Zb,O.shape,O.eq,Bool.and_self,if_true]
   by_cases h:e=k
   ·simp[h]
   ·simp only[h,decide_false,if_false]
    have:=X3 O ev e r
    rw[this]
    cases Zb e r<;>rfl
theorem fndG_none {e:K}:∀{L:List (K × β)},Zb e L=none↔e∉L.map Prod.fst
 | []=>by simp[Zb]
 | (k,n)::r=>by
   simp only[Zb]
   by_cases h:e=k
   ·simp[h]
   ·rw[if_neg h,Option.map_eq_none_iff,fndG_none (L:=r)]
    simp[h]
theorem J0 {e:K}:∀{L:List (K × β)} {i:Nat} {n:β},Zb e L=some (i,n)->L[i]?=some (e,n)
 | [],i,n,h=>by simp[Zb]at h
 | (k,m)::r,i,n,h=>by
   simp only[Zb]at h
   by_cases hk:e=k
   ·simp[hk]at h;obtain⟨rfl,rfl⟩:=h;simp[hk]
   ·simp only[hk,if_false,qa,Prod.mk.injEq]at h
    obtain⟨⟨j,n1⟩,hj,rfl,rfl⟩:=h
    simpa using J0 hj
theorem We:∀{L:List (K × β)} {i:Nat} {e:K} {n:β},(L.map Prod.fst).Nodup->L[i]?=some (e,n)->Zb e L=some (i,n)
 | [],i,e,n,_,h=>by simp at h
 | (k,m)::r,0,e,n,_,h=>by simp at h;obtain⟨rfl,rfl⟩:=h;simp[Zb]
 | (k,m)::r,i+1,e,n,hn,h=>by
   simp only[List.map_cons,List.nodup_cons]at hn
   simp only[List.getElem?_cons_succ]at h
   have hk:¬ e=k:=by
    rintro rfl
    exact hn.1 (qp.2 ⟨(e,n),qb h,rfl⟩)
   simp[Zb,hk,We hn.2 h]
theorem Wf {e e':K} {n:β}:∀{L:List (K × β)},Zb e L=none->Zb e' (L++[(e,n)])=if e'=e then some (L.length,n) else Zb e' L
 | [],_=>by simp[Zb]
 | (k,m)::r,h=>by
   simp only[Zb]at h
   by_cases hk:e=k
   ·simp[hk]at h
   ·simp only[hk,if_false,Option.map_eq_none_iff]at h
    by_cases he:e'=e
    ·subst he;simp[Zb,hk,Wf h]
    ·simp only[List.cons_append,Zb,Wf h,he,if_false]
theorem Q33 {e e':K} {n':β}:∀{L:List (K × β)} {i:Nat} {n:β},Zb e L=some (i,n)->Zb e' (L.set i (e,n'))=if e'=e then some (i,n') else Zb e' L
 | [],i,n,h=>by simp[Zb]at h
 | (k,m)::r,i,n,h=>by
   simp only[Zb]at h
   by_cases hk:e=k
   ·simp[hk]at h;obtain⟨rfl,rfl⟩:=h
    subst hk
    by_cases he:e'=e<;>simp[Zb,he]
   ·simp only[hk,if_false,qa,Prod.mk.injEq]at h
    obtain⟨⟨j,n1⟩,hj,rfl,rfl⟩:=h
    have:=Q33 (e':=e') (n':=n') hj
    by_cases he:e'=e
    ·subst he;simp[Zb,hk,this]
    ·simp only[List.set_cons_succ,Zb,this,he,if_false]
def Q0f (e:K) (n:β) (L:List (K × β)):List (K × β):=match Zb e L with | some (i,_)=>L.set i (e,n) | none=>L++[(e,n)]
theorem Qjc (e e':K) (n:β) (L:List (K × β)):(Zb e' (Q0f e n L)).map Prod.snd=if e'=e then some n else (Zb e' L).map Prod.snd:=by
 unfold Q0f
 cases h:Zb e L with
 | none=>simp only[Wf h];split<;>simp
 | some p=>obtain⟨i,m⟩:=p;simp only[Q33 h];split<;>simp
end
theorem Q68:KeyOk [1,1] P2.enc:=⟨λ_=>rfl,λ_=>rfl,veq2⟩
theorem Q2r:KeyOk [1,1,1] V3.enc:=⟨λ_=>rfl,λ_=>rfl,λa b=>by
 cases a;cases b
 simp[Z3,V3.enc,V3.cs,V.cells,Er,V3.mk.injEq]
 rw[Bool.eq_iff_iff];simp⟩
theorem key_T3:KeyOk [1,1,1] T3.enc:=⟨λ_=>rfl,λ_=>rfl,λa b=>by
 cases a;cases b
 simp[Z3,T3.enc,T3.cs,V.cells,Er,T3.mk.injEq]
 rw[Bool.eq_iff_iff];simp⟩
theorem Q0y:KeyOk [1] (V.i .i64):=⟨λ_=>rfl,λ_=>rfl,λa b=>by
 simp[Z3,V.cells,Er]
 rw[Bool.eq_iff_iff];simp⟩
def kt {K:Type} (en:K->V) (v:K):V × V:=(en v,.b true)
theorem U2 {K:Type} [DecidableEq K] {ls:List Nat} {en:K->V} (O:KeyOk ls en) (e:K) (U:List K):Qh ls (en e) (U.map (kt en))=some (if e∈U then some (U.idxOf e,.b true) else none):=by
 induction U with
 | nil=>simp[Qh,O.shape,O.len]
 | cons x r ih =>
   simp only[List.map_cons,kt,Qh,O.shape,O.eq,Bool.and_self,if_true]
   by_cases h:e=x
   ·simp[h]
   ·simp only[h,decide_false]
    have ih':Qh ls (en e) (r.map λv=>(en v,V.b true))=_:=ih
    have hm:(e∈x::r)=(e∈r):=by simp[h]
    have h':¬ x=e:=λhh=>h hh.symm
    show Option.map _ (Qh ls (en e) (r.map (kt en)))=_
    rw[ih]
    have hb:(x == e)=false:=by simp[h']
    by_cases hr:e∈r<;>simp[hr,h,List.idxOf_cons,h',hb]
theorem Kp (t:V3) (n:Nat):(∀y∈t.cs,y.cl n=true)=True:=by simp[V3.cs,V.cl,V.cl1,V.cl0]
theorem Yz (v:V3) (n:Nat):v.enc.cl n=true:=by simp[V3.enc,V3.cs,V.cl,V.cl1,V.cl0]
theorem Zp (t:T3) (n:Nat):(∀y∈t.cs,y.cl n=true)=True:=by simp[T3.cs,V.cl,V.cl1,V.cl0]
end Go.Abs
