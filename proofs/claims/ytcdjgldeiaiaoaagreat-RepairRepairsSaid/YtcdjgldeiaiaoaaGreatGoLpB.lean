/- Part of the library on which the proof stands: an abstract machine, its values and its soundness against the model; or what functions of the program do to such values. -/
import Derived.Test.YtcdjgldeiaiaoaaGreatGoTpE
import Derived.Test.YtcdjgldeiaiaoaaGreatGoTk
import Derived.Test.YtcdjgldeiaiaoaaGreatGoClone
import Derived.Test.YtcdjgldeiaiaoaaGreatGoToB
import Derived.Test.YtcdjgldeiaiaoaaGreatAbsSN
set_option linter.unusedVariables false
set_option linter.unusedSimpArgs false
namespace Go.Abs
theorem P2.rev2 (e:P2):e.rev.rev=e:=rfl
theorem count_rev (E:List P2) (e:P2):(E.map P2.rev).count e=E.count e.rev:=by
 induction E with
 | nil=>rfl
 | cons a E ih =>
   rw[List.map_cons,List.count_cons,List.count_cons,ih]
   have:(a.rev == e)=(a == e.rev):=by
    rw[Bool.eq_iff_iff,beq_iff_eq,beq_iff_eq]
    constructor
    ·rintro rfl;rfl
    ·rintro rfl;rfl
   rw[this]
theorem edgesOf_bal (t:T3) (v:Int):(Q2 t).countP (λe=>decide (e.x=v))=(Q2 t).countP (λe=>decide (e.y=v)):=by
 have e3:Q2 t=(Kp t).filter λe=>decide (e.x≠e.y):=rfl
 rw[e3,List.countP_filter,List.countP_filter]
 unfold Kp
 simp only[List.countP_cons,List.countP_nil,Bool.and_eq_true,decide_eq_true_eq,Nat.zero_add,ne_eq]
 by_cases q1:t.a=v<;>by_cases q2:t.b=v<;>by_cases q3:t.c=v<;>simp[q1,q2,q3]<;>(repeat' split)<;>omega
theorem alluses_bal (l:List T3) (v:Int):(Q8 l).countP (λe=>decide (e.x=v))=(Q8 l).countP (λe=>decide (e.y=v)):=by
 induction l with
 | nil=>rfl
 | cons t l ih =>
   have:Q8 (t::l)=Q2 t++Q8 l:=by simp[Q8]
   rw[this,List.countP_append,List.countP_append,ih,edgesOf_bal]
def Xw (m:Mesh) (l:List P2) (i:Nat):Bool:=match l[i]? with
 | some e=>decide (m.use e=1) && (decide (m.use e.rev=0) && !(decide (0<i) && decide (((l[i-1]?).getD ⟨0,0⟩).x=e.x)))
 | none=>true
def Mesh.simple (m:Mesh) (l:List P2):Bool:=(List.range l.length).all (Xw m l)
theorem simple_get {m:Mesh} {l:List P2} (h:m.simple l=true) {i:Nat} {e:P2} (he:l[i]?=some e):m.use e=1/\m.use e.rev=0/\(0<i->((l[i-1]?).getD ⟨0,0⟩).x≠e.x):=by
 have hlt:=(List.getElem?_eq_some_iff.1 he).1
 have:=List.all_eq_true.1 h i (List.mem_range.2 hlt)
 unfold Xw at this
 rw[he]at this
 simp at this
 refine⟨this.1,this.2.1,λhi=>?_⟩
 rcases this.2.2 with h0 | h0
 ·omega
 ·exact h0
theorem simple_xlt {m:Mesh} {l:List P2} (h:m.simple l=true) (ha:asc l):∀(j i:Nat) (a b:P2),i<j->l[i]?=some a->l[j]?=some b->a.x<b.x
 | 0,i,a,b,hij,_,_=>by omega
 | j+1,i,a,b,hij,h1,h2=>by
   have hlt:=(List.getElem?_eq_some_iff.1 h2).1
   have hj:l[j]?=some l[j]:=List.getElem?_eq_getElem (by omega)
   obtain⟨hi',h1'⟩:=List.getElem?_eq_some_iff.1 h1
   obtain⟨hj',h2'⟩:=List.getElem?_eq_some_iff.1 h2
   have hs:=(simple_get h h2).2.2 (by omega)
   rw[Nat.add_sub_cancel,hj]at hs
   simp only[Option.getD_some]at hs
   have hp:=List.pairwise_iff_getElem.1 ha j (j+1) (by omega) hj' (by omega)
   rw[h2']at hp
   have hlt2:l[j].x<b.x:=by unfold P2.lt at hp;omega
   by_cases hij2:i=j
   ·subst hij2
    rw[hj]at h1
    obtain rfl:=Option.some.inj h1
    exact hlt2
   ·have:=simple_xlt h ha j i a l[j] (by omega) h1 hj
    omega
theorem Ij {m:Mesh} {l:List P2} (h:m.simple l=true) (ha:asc l):(l.map P2.x).Nodup:=by
 rw[List.nodup_iff_pairwise_ne,List.pairwise_map,List.pairwise_iff_getElem]
 intro i j hi hj hij he
 have:=simple_xlt h ha j i _ _ hij (List.getElem?_eq_getElem hi) (List.getElem?_eq_getElem hj)
 omega
theorem nodup_countP_le {α:Type} {l:List α} {f:α->Int} (h:(l.map f).Nodup) (v:Int):l.countP (λe=>decide (f e=v))<=1:=by
 induction l with
 | nil=>simp
 | cons a l ih =>
   simp only[List.map_cons,List.nodup_cons]at h
   rw[List.countP_cons]
   have:=ih h.2
   by_cases hv:f a=v
   ·have h0:l.countP (λe=>decide (f e=v))=0:=by
     rw[List.countP_eq_zero]
     intro b hb
     simp only[decide_eq_true_eq]
     intro hbv
     exact h.1 (List.mem_map.2 ⟨b,hb,by rw[hbv,hv]⟩)
    rw[h0];simp[hv]
   ·simp[hv];omega
theorem Uc {α:Type} {f:α->Int}:∀{l:List α},(∀v,l.countP (λe=>decide (f e=v))<=1)->(l.map f).Nodup
 | [],_=>by simp
 | a::l,h=>by
   rw[List.map_cons,List.nodup_cons]
   refine⟨λhm=>?_,Uc λv=>?_⟩
   ·obtain⟨b,hb,hba⟩:=List.mem_map.1 hm
    have h1:=h (f a)
    rw[List.countP_cons]at h1
    have:0<l.countP (λe=>decide (f e=f a)):=List.countP_pos_iff.2 ⟨b,hb,by simp[hba]⟩
    simp only[decide_true,if_true]at h1;omega
   ·have h1:=h v
    rw[List.countP_cons]at h1
    split at h1<;>omega
theorem border_bal {m:Mesh} (hz:m.check=0) (h:m.simple m.border=true) (v:Int):m.border.countP (λe=>decide (e.x=v))=m.border.countP (λe=>decide (e.y=v)):=by
 have hn:m.border.Nodup:=(X7 m).imp λh1 h2=>by subst h2;exact P2.lt_irrefl _ h1
 have hu:∀e,m.use e=(Q8 m.tris).count e:=λe=>by simp[Mesh.use,hz]
 have hcnt:∀e,m.border.count e=if e∈m.border then 1 else 0:=λe=>by
  by_cases he:e∈m.border
  ·rw[if_pos he]
   have h1:=List.count_pos_iff.2 he
   have h2:=List.nodup_iff_count.1 hn e
   omega
  ·rw[if_neg he];exact List.count_eq_zero.2 he
 have hone:∀e,e∈m.border->(Q8 m.tris).count e=1/\(Q8 m.tris).count e.rev=0:=λe he=>by
  obtain⟨i,hi⟩:=List.getElem?_of_mem he
  have:=simple_get h hi
  rw[hu,hu]at this
  omega
 have hperm:(Q8 m.tris++m.border.map P2.rev).Perm ((Q8 m.tris).map P2.rev++m.border):=by
  rw[List.perm_iff_count]
  intro e
  rw[List.count_append,List.count_append,count_rev,count_rev,hcnt,hcnt]
  by_cases h1:e∈m.border
  ·have g1:=hone e h1
   have h2:e.rev∉m.border:=λh2=>by have:=hone _ h2;rw[P2.rev2]at this;omega
   rw[if_pos h1,if_neg h2];omega
  ·by_cases h2:e.rev∈m.border
   ·have g2:=hone _ h2
    rw[P2.rev2]at g2
    rw[if_neg h1,if_pos h2];omega
   ·rw[if_neg h1,if_neg h2]
    have p1:0<=m.use e:=by rw[hu];omega
    have p2:0<=m.use e.rev:=by rw[hu];omega
    have k1:¬ (m.use e.rev<m.use e):=λhlt=>h1 (mem_border.2 ⟨hz,(use_pos hz).2 (by omega),hlt⟩)
    have k2:¬ (m.use e<m.use e.rev):=λhlt=>h2 (mem_border.2 ⟨hz,(use_pos hz).2 (by omega),by rw[P2.rev2];exact hlt⟩)
    rw[hu,hu]at k1 k2
    omega
 have hc:=hperm.countP_eq (λe=>decide (e.x=v))
 rw[List.countP_append,List.countP_append,List.countP_map,List.countP_map]at hc
 have e1:((λe=>decide (e.x=v)) ∘ P2.rev)=λe:P2=>decide (e.y=v):=rfl
 rw[e1]at hc
 have:=alluses_bal m.tris v
 omega
theorem Bf {m:Mesh} (hz:m.check=0) (h:m.simple m.border=true):(m.border.map P2.y).Nodup:=by
 refine Uc λv=>?_
 rw[<- border_bal hz h]
 exact nodup_countP_le (Ij h (X7 m)) v
theorem border_xy {m:Mesh} (hz:m.check=0) (h:m.simple m.border=true) (v:Int):v∈m.border.map P2.x↔v∈m.border.map P2.y:=by
 have hb:=border_bal hz h v
 have k:∀f:P2->Int,v∈m.border.map f↔0<m.border.countP (λe=>decide (f e=v)):=λf=>by
  rw[List.mem_map,List.countP_pos_iff];simp
 rw[k,k,hb]
def nxt (l:List P2) (v:Int):Int:=match l.find? (λe=>decide (e.y=v)) with | some e=>e.x | none=>v
theorem nxt_of {l:List P2} (hy:(l.map P2.y).Nodup) {e:P2} (he:e∈l):nxt l e.y=e.x:=by
 unfold nxt
 cases hf:l.find? (λa=>decide (a.y=e.y)) with
 | none =>
   have:=List.find?_eq_none.1 hf e he
   simp at this
 | some a =>
   have h1:=List.find?_some hf
   have h2:=List.mem_of_find?_eq_some hf
   simp only[decide_eq_true_eq]at h1
   have:a=e:=by
    obtain⟨i,hi,rfl⟩:=List.mem_iff_getElem.1 h2
    obtain⟨j,hj,rfl⟩:=List.mem_iff_getElem.1 he
    have e1:(l.map P2.y).idxOf l[i].y=i:=by
     have:=hy.idxOf_getElem i (by simpa using hi)
     simpa using this
    have e2:(l.map P2.y).idxOf l[j].y=j:=by
     have:=hy.idxOf_getElem j (by simpa using hj)
     simpa using this
    rw[h1]at e1
    have:i=j:=by omega
    subst this;rfl
   subst this;rfl
def Kd (nx:Int->Int) (done:List Int):Nat->List Int->Int->List Int
 | 0,w,_=>w
 | n+1,w,v=>if v∈done++w then w else Kd nx done n (w++[v]) (nx v)
def Jj (nx:Int->Int) (N:Nat) (s:List Int × List (List Int)) (e:P2):List Int × List (List Int) :=
 if e.x∈s.1 then s else (s.1++Kd nx s.1 (N+1) [] e.x,s.2++[Kd nx s.1 (N+1) [] e.x])
def Qt (nx:Int->Int) (l:List P2) (k:Nat):List Int × List (List Int):=(l.take k).foldl (Jj nx l.length) ([],[])
theorem Uv (nx:Int->Int) {l:List P2} {k:Nat} {e:P2} (h:l[k]?=some e):Qt nx l (k+1)=Jj nx l.length (Qt nx l k) e:=by
 unfold Qt;rw[Qd h,List.foldl_append];rfl
def Jz (l:List P2):List (List Int):=(Qt (nxt l) l l.length).2
def Mesh.loops (m:Mesh):List (List Int) × Int:=if m.check=0 then (if m.simple m.border then (Jz m.border,0) else ([],13)) else ([],m.check)
def todo (A done:List Int):Nat:=(A.filter λv=>!done.contains v).length
theorem todo_lt {A done:List Int} {v:Int} (hv:v∈A) (hd:v∉done):todo A (done++[v])<todo A done:=by
 unfold todo
 induction A with
 | nil=>simp at hv
 | cons a A ih =>
   have hle:(A.filter λu=>!(done++[v]).contains u).length<=(A.filter λu=>!done.contains u).length:=by
    clear ih hv
    induction A with
    | nil=>simp
    | cons b A ih2 =>
      simp only[List.filter_cons]
      by_cases hb:done.contains b=true
      ·have:(done++[v]).contains b=true:=by simp at hb ⊢;exact .inl hb
       rw[hb,this];exact ih2
      ·rw[Bool.not_eq_true]at hb
       simp only[hb,Bool.not_false,if_true]
       split<;>(try simp only[List.length_cons])<;>omega
   by_cases hav:a=v
   ·subst hav
    have h1:(done++[a]).contains a=true:=by simp
    have h2:done.contains a=false:=by simpa using hd
    simp only[List.filter_cons,h1,h2,Bool.not_true,Bool.not_false,if_true,Bool.false_eq_true,if_false,List.length_cons]
    omega
   ·have hvA:v∈A:=by
     rcases List.mem_cons.1 hv with h | h
     ·exact absurd h.symm hav
     ·exact h
    have:=ih hvA
    have hc:(done++[v]).contains a=done.contains a:=by
     rw[Bool.eq_iff_iff];simp[hav]
    simp only[List.filter_cons,hc]
    split<;>(try simp only[List.length_cons])<;>omega
theorem todo_le (A done:List Int):todo A done<=A.length:=List.length_filter_le _ _
end Go.Abs
set_option linter.unusedVariables false
set_option linter.unusedSimpArgs false
namespace Go.Abs
def isV (l:List Int):V:=.l 1 (l.map λx=>[.i .i64 x])
def fanK (l:List Int) (k:Nat):List T3:=(List.range k).map λi=>⟨(l[0]?).getD 0,(l[i+1]?).getD 0,(l[i+2]?).getD 0⟩
def Yg (l:List Int):List T3:=fanK l (l.length-2)
theorem fanK_len (l:List Int) (k:Nat):(fanK l k).length=k:=by simp[fanK]
theorem fanK_succ (l:List Int) (k:Nat):fanK l (k+1)=fanK l k++[⟨(l[0]?).getD 0,(l[k+1]?).getD 0,(l[k+2]?).getD 0⟩]:=by simp[fanK,List.range_succ]
def FanC (P:Program) (f:FuncId):Prop:=∀l:List Int,l.length<=1000000->CallIs P f [isV l] (tsV (Yg l))
theorem t3_isD (t:T3):(∀y∈t.cs,y.isD=true)=True:=by simp[T3.cs,V.isD]
section
variable {P:Program} (hm:P.follows .mixedOrders=true)
include hm
set_option maxHeartbeats 1000000 in
theorem holes_Fan_ok {f:FuncId} (hf:Q9 P f holes_Fan.c holes_Fan.r holes_Fan.n):FanC P f:=by
 intro l hl
 refine PureC.is (Q7 hm hf (Nat.le_of_ble_eq_true rfl) ?_) rfl
 unfold holes_Fan.c
 simp[go_sem,isV]
 refine Qq [.t 3 3] (α:=Nat) (λk=>k<=l.length-2)
  (λk=>⟨[(0,isV l),(3,.own 0 (k+1) 0 k),(4,.i .i64 (k+1:Nat))],[.arr (k+1) 3 ((fanK l k).map T3.cs)]⟩)
  (λk=>l.length-2-k) 0 (Nat.zero_le _) ?_ ?_
 ·simp[go_sem,isV,fanK]
 ·intro k hk
  have hkl:=fanK_len l k
  have hs:=fanK_succ l k
  by_cases hlt:k+2<l.length
  ·have h1:k+1<l.length:=by omega
   have h0:0<l.length:=by omega
   have g0:l[0]?=some l[0]:=List.getElem?_eq_getElem h0
   have g1:l[k+1]?=some l[k+1]:=List.getElem?_eq_getElem h1
   have g2:l[k+2]?=some l[k+2]:=List.getElem?_eq_getElem hlt
   generalize l[0]=x0 at g0
   generalize l[k+1]=x1 at g1
   generalize l[k+2]=x2 at g2
   obtain⟨_,q0⟩:=List.getElem?_eq_some_iff.1 g0
   obtain⟨_,q1⟩:=List.getElem?_eq_some_iff.1 g1
   obtain⟨_,q2⟩:=List.getElem?_eq_some_iff.1 g2
   rw[g0,g1,g2]at hs
   have e1:((k:Int)+1+1)=((k+2:Nat):Int):=by omega
   have e2:((k:Int)+1+1).toNat=k+2:=by omega
   have e3:((k:Int)+1).toNat=k+1:=by omega
   simp (disch:=omega) [go_sem,isV,Q0,show (k:Int)+1+1<l.length by omega,h0,h1,hlt,q0,q1,q2,g0,g1,g2,e2,e3]
   refine⟨by omega,by omega,⟨by omega,by omega,by omega⟩,k+1,by omega,by omega,⟨rfl,by omega⟩,rfl,?_⟩
   rw[hs,List.take_of_length_le (by simp[hkl]),List.map_append];rfl
  ·have hkk:k=l.length-2:=by omega
   have hfo:Yg l=fanK l k:=by rw[hkk];rfl
   have ht:List.take k ((fanK l k).map T3.cs)=(fanK l k).map T3.cs:=List.take_of_length_le (by simp[hkl])
   simp (disch:=omega) [go_sem,isV,Q0,show ¬ (k:Int)+1+1<l.length by omega,holes_Fan.r,hfo,tsV,t3_isD,hkl,ht]
theorem ref12_Fan_ok {f:FuncId} (hf:Q9 P f ref12_Fan.c ref12_Fan.r ref12_Fan.n):FanC P f:=holes_Fan_ok hm hf
end
end Go.Abs
set_option linter.unusedVariables false
set_option linter.unusedSimpArgs false
namespace Go.Abs
def bl (n:Nat) (g:Nat->Bool):List (List V):=(List.range n).map λj=>[.b (g j)]
theorem bl_len (n:Nat) (g:Nat->Bool):(bl n g).length=n:=by simp[bl]
theorem bl_get {n:Nat} {g:Nat->Bool} {i:Nat} (h:i<n):(bl n g)[i]?=some [.b (g i)]:=by simp[bl,h]
theorem bl_rep (n:Nat):List.replicate n [V.b false]=bl n (λ_=>false):=by
 apply List.ext_getElem?
 intro i
 by_cases h:i<n
 ·rw[bl_get h];simp[h]
 ·rw[List.getElem?_eq_none (by simp;omega),List.getElem?_eq_none (by rw[bl_len];omega)]
theorem bl_set (n:Nat) (g:Nat->Bool) (i:Nat) (b:Bool):(bl n g).set i [.b b]=bl n (λj=>if j=i then b else g j):=by
 apply List.ext_getElem?
 intro j
 by_cases h:j<n
 ·rw[bl_get h]
  by_cases hj:i=j
  ·subst hj
   rw[List.getElem?_set_self (by rw[bl_len];exact h),if_pos rfl]
  ·rw[List.getElem?_set_ne hj,bl_get h,if_neg (λhh=>hj hh.symm)]
 ·rw[List.getElem?_eq_none (by simp[bl_len];omega),List.getElem?_eq_none (by rw[bl_len];omega)]
theorem bl_cl (n:Nat) (g:Nat->Bool) (k:Nat):∀el∈bl n g,∀x∈el,x.cl k=true:=by
 intro el hel x hx
 obtain⟨j,_,rfl⟩:=List.mem_map.1 hel
 simp at hx;subst hx;rfl
end Go.Abs
set_option linter.unusedVariables false
set_option linter.unusedSimpArgs false
namespace Go.Abs
def ics (l:List Int):List (List V):=l.map λx=>[.i .i64 x]
def lsV (ls:List (List Int)):V:=.l 1 (ls.map λl=>[isV l])
def LoopsC (P:Program) (f:FuncId):Prop:=∀m:Mesh,CallIs P f [m.enc] (.t [lsV m.loops.1,.i .i64 m.loops.2])
def SimpleC (P:Program) (f:FuncId):Prop:=∀(m:Mesh) (l:List P2),m.check=0->l.length<=1000000->CallIs P f [m.enc,psV l] (.b (m.simple l))
def SourceC (P:Program) (f:FuncId):Prop:=∀(l:List P2) (v:Int),l.length<=1000000->CallIs P f [psV l,.i .i64 v] (.i .i64 (nxt l v))
def Held (b:Nat) (hx:List O) (ls:List (List Int)) (cells:List (List V)):Prop :=
 cells.length=ls.length/\∀(i:Nat) (c:List V) (l:List Int),cells[i]?=some c->ls[i]?=some l->∃j g,c=[.own (b+j) g 0 l.length]/\hx[j]?=some (.arr g 1 (ics l))
def Flt (hx:List O):Prop:=∀o∈hx,∀n,o.cl n
theorem Held.nil (b:Nat):Held b [] [] []:=⟨rfl,by simp⟩
theorem Held.app {b:Nat} {hx:List O} {ls:List (List Int)} {cells:List (List V)} (h:Held b hx ls cells) (l:List O):Held b (hx++l) ls cells :=
 ⟨h.1,λi c x h1 h2=>by obtain⟨j,g,h3,h4⟩:=h.2 i c x h1 h2;exact⟨j,g,h3,by rw[List.getElem?_append_left (List.getElem?_eq_some_iff.1 h4).1];exact h4⟩⟩
theorem Held.snoc {b:Nat} {hx:List O} {ls:List (List Int)} {cells:List (List V)} (h:Held b hx ls cells) {j g:Nat} {l:List Int} (hj:hx[j]?=some (.arr g 1 (ics l))):Held b hx (ls++[l]) (cells++[[.own (b+j) g 0 l.length]]):=by
 refine⟨by simp[h.1],λi c x h1 h2=>?_⟩
 by_cases hi:i<ls.length
 ·rw[List.getElem?_append_left (by rw[h.1];exact hi)]at h1
  rw[List.getElem?_append_left hi]at h2
  exact h.2 i c x h1 h2
 ·rw[List.getElem?_append_right (by rw[h.1];omega)]at h1
  rw[List.getElem?_append_right (by omega)]at h2
  have hi0:i-ls.length=0:=by
   have:=(List.getElem?_eq_some_iff.1 h2).1
   simp at this;omega
  rw[h.1,hi0]at h1
  rw[hi0]at h2
  simp at h1 h2
  subst h1;subst h2
  exact⟨j,g,rfl,hj⟩
theorem Held.cl {b:Nat} {hx:List O} {ls:List (List Int)} {cells:List (List V)} (h:Held b hx ls cells) {n:Nat} (hn:b+hx.length<=n):∀el∈cells,∀x∈el,x.cl n=true:=by
 intro el hel x hx'
 obtain⟨i,hi⟩:=List.getElem?_of_mem hel
 have hlt:=(List.getElem?_eq_some_iff.1 hi).1
 obtain⟨j,g,rfl,h4⟩:=h.2 i el _ hi (List.getElem?_eq_getElem (by rw[<- h.1];exact hlt))
 have:=(List.getElem?_eq_some_iff.1 h4).1
 simp at hx';subst hx'
 simp[V.cl,V.cl1,V.cl0];omega
theorem ics_isD (l:List Int):∀el∈ics l,∀x∈el,x.isD=true:=by
 intro el hel x hx
 obtain⟨a,_,rfl⟩:=List.mem_map.1 hel
 simp at hx;subst hx;rfl
theorem Zt (l:List Int) (n:Nat):∀el∈ics l,∀x∈el,x.cl n=true:=λel hel x hx=>isD_cl n (ics_isD l el hel x hx)
theorem Held.frz {b:Nat} {base hx:List O} {ls:List (List Int)} {cells:List (List V)} (h:Held b hx ls cells) (hb:base.length=b):cells.mapM (λel=>el.mapM (frzD (base++hx)))=some (ls.map λl=>[isV l]):=by
 induction cells generalizing ls with
 | nil =>
   have:=h.1
   simp at this
   obtain rfl:=List.length_eq_zero_iff.1 this.symm
   rfl
 | cons c cells ih =>
   have hl:=h.1
   cases ls with
   | nil=>simp at hl
   | cons l ls =>
     have h0:=h.2 0 c l rfl rfl
     obtain⟨j,g,rfl,hj⟩:=h0
     have ht:Held b hx ls cells:=⟨by simpa using hl,λi c x h1 h2=>h.2 (i+1) c x (by simpa using h1) (by simpa using h2)⟩
     have hg:(base++hx)[b+j]?=some (.arr g 1 (ics l)):=by rw[<- hb,Qa];exact hj
     have ha:(ics l).all (λx=>x.all V.isD)=true:=by
      rw[List.all_eq_true]
      exact λel hel=>List.all_eq_true.2 (ics_isD l el hel)
     have hlen:(ics l).length=l.length:=by simp[ics]
     have hfr:frzD (base++hx) (.own (b+j) g 0 l.length)=some (isV l):=by
      have ht2:List.take l.length (ics l)=ics l:=List.take_of_length_le (by omega)
      show _=some (V.l 1 (ics l))
      simp only[frzD,Xm,hg]
      rw[List.drop_zero,ht2,if_pos ⟨trivial,by omega,ha⟩]
     simp[List.mapM_cons,hfr,ih ht]
theorem held_if {b:Nat} {base hx:List O} {ls:List (List Int)} {cells:List (List V)} (h:Held b hx ls cells) (hb:base.length=b) :
  (if ls.length<=cells.length then Option.map (V.l 1) (List.mapM (λel=>List.mapM (frzD (base++hx)) el) (List.take ls.length cells)) else none)=some (lsV ls):=by
 have h1:=h.frz hb
 have ht:List.take ls.length cells=cells:=List.take_of_length_le (by rw[h.1];exact Nat.le_refl _)
 simp only[ht,h1,h.1,Nat.le_refl,if_true,Option.map_some,lsV]
theorem Br {m:Mesh} {l:List P2} {k:Nat} (hk:k<l.length) (h:Xw m l k=false):m.simple l=false:=by
 unfold Mesh.simple
 rw[List.all_eq_false]
 exact⟨k,List.mem_range.2 hk,by simp[h]⟩
theorem nxt_first {l:List P2} {k:Nat} {e:P2} (he:l[k]?=some e) (hn:∀a∈l.take k,a.y≠e.y):nxt l e.y=e.x:=by
 have hlt:=(List.getElem?_eq_some_iff.1 he).1
 have hs:l=l.take k++e::l.drop (k+1):=by
  have h1:=List.take_append_drop k l
  rw[List.drop_eq_getElem_cons hlt,(List.getElem?_eq_some_iff.1 he).2]at h1
  exact h1.symm
 unfold nxt
 have:l.find? (λa=>decide (a.y=e.y))=some e:=by
  rw[hs,List.find?_append]
  have h0:(l.take k).find? (λa=>decide (a.y=e.y))=none:=by
   rw[List.find?_eq_none]
   intro a ha
   simpa using hn a ha
  rw[h0];simp
 rw[this]
theorem nxt_none {l:List P2} {v:Int} (hn:∀a∈l,a.y≠v):nxt l v=v:=by
 unfold nxt
 have:l.find? (λa=>decide (a.y=v))=none:=by
  rw[List.find?_eq_none]
  intro a ha
  simpa using hn a ha
 rw[this]
section
variable {P:Program} (hm:P.follows .mixedOrders=true)
include hm
theorem ref10_source_ok {f:FuncId} (hf:Q9 P f ref10_source.c ref10_source.r ref10_source.n):SourceC P f:=by
 intro l v hl
 refine PureC.is (Q7 hm hf (Nat.le_of_ble_eq_true rfl) ?_) rfl
 unfold ref10_source.c
 simp[go_sem,psV]
 refine Qe (α:=Nat) (λk=>k<=l.length/\∀a∈l.take k,a.y≠v) (λk=>⟨[(1,.i .i64 v),(7,psV l),(8,.i .i64 l.length),(9,.i .i64 k)],[]⟩) (λk=>l.length-k) 0 ⟨Nat.zero_le _,by simp⟩ ?_ ?_
 ·simp[go_sem,psV]
 ·rintro k ⟨hk,hn⟩
  by_cases hkl:k=l.length
  ·subst hkl
   rw[List.take_length]at hn
   simp[go_sem,psV,ref10_source.r,nxt_none hn]
  ·have hlt:k<l.length:=by omega
   have hp:l[k]?=some l[k]:=List.getElem?_eq_getElem hlt
   have hts:=Qd hp
   generalize l[k]=e at hp hts
   obtain⟨_,hp'⟩:=List.getElem?_eq_some_iff.1 hp
   by_cases hy:e.y=v
   ·subst hy
    rw[nxt_first hp hn]
    simp (disch:=omega) [go_sem,psV,hlt,hp,hp',pcs,ref10_source.r]
   ·simp (disch:=omega) [go_sem,psV,hlt,hp,hp',pcs,hy,Q0]
    refine⟨k+1,⟨by omega,?_⟩,by omega,by simp⟩
    rw[hts]
    intro a ha
    rcases List.mem_append.1 ha with h | h
    ·exact hn a h
    ·simp at h;subst h;exact hy
set_option maxHeartbeats 1000000 in
theorem ref10_simple_ok {f fc fn fr:FuncId} (hf:Q9 P f (ref10_simple.c fc fn fr) ref10_simple.r ref10_simple.n) (hc:CountsC P fc) (hn:NumberC P fn) (hr:RevC P fr):SimpleC P f:=by
 intro m l hz hll
 have hl:=(Mesh.check_zero.1 hz).2.1
 have hE:=Y1 m.tris m.tris.length
 rw[List.take_length]at hE
 have hC:=cntL_ok (Q8 m.tris)
 have hCl:=hC.len
 have hnum:∀e,Ji (Kr (Q8 m.tris)) e=m.use e:=λe=>by rw[hC.num];simp[Mesh.use,hz]
 have hn1:∀e,CallIs P fn [Yd (Kr (Q8 m.tris)),e.enc] (.i .i64 (m.use e)):=λe=>by
  have:=hn (Kr (Q8 m.tris)) e hC.1 (by omega)
  rwa [hnum]at this
 refine PureC.is (Q7 hm hf (Nat.le_of_ble_eq_true rfl) ?_) rfl
 unfold ref10_simple.c
 simp[go_sem,Mesh.enc,Mesh.cs]
 refine Q3 (hc m hz) ?_
 generalize Kr (Q8 m.tris)=L at *
 simp[go_sem,psV,Yd]
 refine Qe (α:=Nat) (λk=>k<=l.length/\∀i,i<k->Xw m l i=true) (λk=>⟨[(1,psV l),(5,Yd L),(10,psV l),(11,.i .i64 l.length),(12,.i .i64 k)],[]⟩) (λk=>l.length-k) 0 ⟨Nat.zero_le _,by simp⟩ ?_ ?_
 ·simp[go_sem,psV,Yd]
 ·rintro k ⟨hk,hok⟩
  by_cases hkl:k=l.length
  ·subst hkl
   have:m.simple l=true:=List.all_eq_true.2 λi hi=>hok i (List.mem_range.1 hi)
   simp[go_sem,psV,ref10_simple.r,this]
  ·have hlt:k<l.length:=by omega
   have hp:l[k]?=some l[k]:=List.getElem?_eq_getElem hlt
   generalize l[k]=e at hp
   obtain⟨_,hp'⟩:=List.getElem?_eq_some_iff.1 hp
   have hoe:Xw m l k=(decide (m.use e=1) && (decide (m.use e.rev=0) && !(decide (0<k) && decide (((l[k-1]?).getD ⟨0,0⟩).x=e.x)))):=by unfold Xw;rw[hp]
   have h1:=hn1 e
   have h2:=hn1 e.rev
   simp only[Yd,P2.enc,pcs]at h1 h2
   have hfalse:Xw m l k=false->m.simple l=false:=Br hlt
   have hnext:Xw m l k=true->∃x',(x'<=l.length/\∀i,i<x'->Xw m l i=true)/\l.length-x'<l.length-k/\(k:Int)+1=x':=λh=>by
    refine⟨k+1,⟨by omega,λi hi=>?_⟩,by omega,by simp⟩
    by_cases hik:i=k
    ·subst hik;exact h
    ·exact hok i (by omega)
   simp (disch:=omega) [go_sem,psV,Yd,hlt,hp,hp',pcs]
   refine Qf h1 ?_
   by_cases c1:m.use e=1
   ·simp (disch:=omega) [go_sem,c1,psV,Yd]
    refine Qf (hr e) ?_
    simp (disch:=omega) [go_sem,P2.enc,pcs]
    refine Qf h2 ?_
    by_cases c2:m.use e.rev=0
    ·cases k with
     | zero =>
       have hT:Xw m l 0=true:=by rw[hoe,c1,c2];simp
       simp (disch:=omega) [go_sem,c2,psV,Yd,Q0]
       simpa using hnext hT
     | succ j =>
       have hq:l[j]?=some l[j]:=List.getElem?_eq_getElem (by omega)
       rw[Nat.add_sub_cancel,hq]at hoe
       simp only[Option.getD_some]at hoe
       generalize l[j]=d at hq hoe
       obtain⟨_,hq'⟩:=List.getElem?_eq_some_iff.1 hq
       by_cases c3:d.x=e.x
       ·have hF:Xw m l (j+1)=false:=by rw[hoe];simp[c1,c2,c3]
        simp (disch:=omega) [go_sem,c2,c3,psV,Yd,Q0,hq,hq',pcs,show j<l.length by omega,hfalse hF,ref10_simple.r,show (0:Int)<(j:Int)+1 by omega]
        done
       ·have hT:Xw m l (j+1)=true:=by rw[hoe,c1,c2];simp[c3]
        simp (disch:=omega) [go_sem,c2,c3,psV,Yd,Q0,hq,hq',pcs,show j<l.length by omega,show (0:Int)<(j:Int)+1 by omega]
        simpa using hnext hT
    ·have hF:Xw m l k=false:=by rw[hoe];simp[c2]
     have c2':(m.use e.rev != 0)=true:=by simpa using c2
     simp (disch:=omega) [go_sem,c2,c2',psV,Yd,hfalse hF,ref10_simple.r]
     done
   ·have hF:Xw m l k=false:=by rw[hoe];simp[c1]
    have c1':(m.use e != 1)=true:=by simpa using c1
    simp (disch:=omega) [go_sem,c1,c1',psV,Yd,hfalse hF,ref10_simple.r]
    done
end
end Go.Abs
set_option linter.unusedVariables false
set_option linter.unusedSimpArgs false
namespace Go.Abs
theorem edgesOf_mem {t:T3} {e:P2} (h:e∈Q2 t):(e.x=t.a∨e.x=t.b∨e.x=t.c)/\(e.y=t.a∨e.y=t.b∨e.y=t.c):=by
 unfold Q2 Qw at h
 have h1:e∈Kp t:=List.mem_of_mem_take (List.mem_filter.1 h).1
 simp only[Kp,List.mem_cons,List.not_mem_nil,or_false]at h1
 rcases h1 with rfl | rfl | rfl<;>simp
theorem alluses_range {m:Mesh} (hz:m.check=0) {e:P2} (h:e∈Q8 m.tris):0<=e.x/\e.x<m.verts.length/\0<=e.y/\e.y<m.verts.length:=by
 obtain⟨t,ht,he⟩:=List.mem_flatMap.1 h
 obtain⟨h1,h2,h3,h4,h5,h6⟩:=T3.ok_iff.1 (List.all_eq_true.1 (Mesh.check_zero.1 hz).2.2.2 t ht)
 have:=edgesOf_mem he
 omega
theorem K1 {m:Mesh} {e:P2} (h:e∈m.border):0<=e.x/\e.x<m.verts.length/\0<=e.y/\e.y<m.verts.length:=by
 obtain⟨h1,h2,_⟩:=mem_border.1 h
 exact alluses_range h1 h2
theorem Ks (m:Mesh):m.border.length<=12288:=by
 by_cases hz:m.check=0
 ·have hn:m.border.Nodup:=(X7 m).imp λh1 h2=>by subst h2;exact P2.lt_irrefl _ h1
  have h1:=U1 hn (λa ha=>(mem_border.1 ha).2.1)
  have hE:=Y1 m.tris m.tris.length
  rw[List.take_length]at hE
  have:=(Mesh.check_zero.1 hz).2.1
  omega
 ·simp[Mesh.border,hz]
theorem nxt_mem {m:Mesh} (hz:m.check=0) (h:m.simple m.border=true) {v:Int} (hv:v∈m.border.map P2.x):nxt m.border v∈m.border.map P2.x:=by
 rw[border_xy hz h]at hv
 obtain⟨e,he,rfl⟩:=List.mem_map.1 hv
 rw[nxt_of (Bf hz h) he]
 exact List.mem_map.2 ⟨e,he,rfl⟩
theorem lsV_no (e:Int):Le (.t [.nil,.i .i64 e]) (.t [lsV [],.i .i64 e]):=.inr ⟨_,_,rfl,rfl,.inl (Le0.nil 1),Le1.refl _,trivial⟩
theorem bl_congr {n:Nat} {g g':Nat->Bool} (h:∀j,j<n->g j=g' j):bl n g=bl n g':=by
 unfold bl
 exact List.map_congr_left λj hj=>by rw[h j (List.mem_range.1 hj)]
def mk (n:Nat) (done:List Int):List (List V):=bl n λj=>decide ((j:Int)∈done)
theorem mk_nil (n:Nat):List.replicate n [V.b false]=mk n []:=by rw[bl_rep];exact bl_congr λj _=>by simp
theorem mk_set {n:Nat} {d:List Int} {v:Int} (h0:0<=v):(mk n d).set v.toNat [.b true]=mk n (d++[v]):=by
 unfold mk
 rw[bl_set]
 refine bl_congr λj _=>?_
 by_cases hj:j=v.toNat
 ·have:(j:Int)=v:=by omega
  simp[hj,show ((v.toNat:Nat):Int)=v by omega]
 ·have:(j:Int)≠v:=by omega
  simp[hj,this]
theorem mk_get {n:Nat} {d:List Int} {v:Int} (h0:0<=v) (h1:v<n):(mk n d)[v.toNat]?=some [.b (decide (v∈d))]:=by
 unfold mk
 rw[bl_get (by omega),show ((v.toNat:Nat):Int)=v by omega]
theorem mk_cl (n:Nat) (d:List Int) (k:Nat):∀el∈mk n d,∀x∈el,x.cl k=true:=bl_cl _ _ _
theorem Flt.app {a b:List O} (h:Flt a) (k:Flt b):Flt (a++b):=λo ho n=>by
 rcases List.mem_append.1 ho with h1 | h1
 ·exact h o h1 n
 ·exact k o h1 n
theorem Flt.WeakH {hx l:List O} (h:Flt hx) (n:Nat):WeakH n (hx++l) hx:=U7 λo ho=>h o ho n
theorem Flt.WeakH' {hx:List O} (h:Flt hx) (n:Nat):Go.Abs.WeakH n hx hx:=by
 have:=h.WeakH (l:=[]) n
 rwa [List.append_nil]at this
section
variable {P:Program} (hm:P.follows .mixedOrders=true)
include hm
set_option maxRecDepth 20000 in
set_option maxHeartbeats 4000000 in
theorem ref10_Loops_ok {f fc fb fs fo:FuncId} (hf:Q9 P f (ref10_Loops.c fc fb fs fo) ref10_Loops.r ref10_Loops.n) (hc:Z8 P fc) (hb:Xd P fb) (hs:SimpleC P fs) (ho:SourceC P fo):LoopsC P f:=by
 intro m
 by_cases hz:m.check=0
 case neg =>
  have he:m.loops=([],m.check):=by simp[Mesh.loops,hz]
  rw[he]
  refine CallIs.res (r:=.t [.nil,.i .i64 m.check]) ?_ (lsV_no _)
  refine PureC.is (Q7 hm hf (Nat.le_of_ble_eq_true rfl) ?_) rfl
  unfold ref10_Loops.c
  simp[go_sem,Mesh.enc,Mesh.cs]
  refine Q3 (hc m) ?_
  simp[go_sem,hz,ref10_Loops.r]
 have hbl:=Ks m
 have hs1:=hs m m.border hz (by omega)
 cases hsi:m.simple m.border
 case false =>
  have he:m.loops=([],13):=by simp[Mesh.loops,hz,hsi]
  rw[he]
  rw[hsi]at hs1
  refine CallIs.res (r:=.t [.nil,.i .i64 13]) ?_ (lsV_no _)
  refine PureC.is (Q7 hm hf (Nat.le_of_ble_eq_true rfl) ?_) rfl
  unfold ref10_Loops.c
  simp[go_sem,Mesh.enc,Mesh.cs]
  refine Q3 (hc m) ?_
  simp[go_sem,hz]
  refine Q3 (hb m) ?_
  simp[go_sem,psV]
  refine Q3 hs1 ?_
  simp[go_sem,ref10_Loops.r]
 have he:m.loops=((Qt (nxt m.border) m.border m.border.length).2,0):=by simp[Mesh.loops,hz,hsi,Jz]
 rw[he]
 rw[hsi]at hs1
 have z1:=(Mesh.check_zero.1 hz).1
 have hrange:∀e∈m.border,0<=e.x/\e.x<m.verts.length:=λe he=>⟨(K1 he).1,(K1 he).2.1⟩
 have hnm:∀v,v∈m.border.map P2.x->nxt m.border v∈m.border.map P2.x:=λv=>nxt_mem hz hsi
 have ho1:=λv=>ho m.border v (by omega)
 refine PureC.is (pure_ofF hm hf (Nat.le_of_ble_eq_true rfl) ?_) rfl
 unfold ref10_Loops.c
 simp[go_sem,Mesh.enc,Mesh.cs]
 refine Q3 (hc m) ?_
 simp[go_sem,hz]
 refine Q3 (hb m) ?_
 simp[go_sem,psV]
 refine Q3 hs1 ?_
 clear hs1 he
 generalize m.border=l at *
 generalize hN:m.verts.length=N at *
 simp (disch:=omega) [go_sem,vsV,hN,mk_nil]
 refine⟨⟨by omega,by omega⟩,?_⟩
 have hNC:∀v∈l.map P2.x,0<=v/\v<N:=λv hv=>by obtain⟨e,he,rfl⟩:=List.mem_map.1 hv;exact hrange e he
 refine Qq [.t 7 1] (α:=Nat × List O × List (List V)) (λp=>p.1<=l.length/\Held 3 p.2.1 (Qt (nxt l) l p.1).2 p.2.2/\Flt p.2.1/\(Qt (nxt l) l p.1).2.length<=p.1)
  (λp=>⟨[(5,psV l),(6,.own 1 1 0 N),(7,.own 2 ((Qt (nxt l) l p.1).2.length+1) 0 (Qt (nxt l) l p.1).2.length),(27,psV l),(28,.i .i64 l.length),(29,.i .i64 p.1)],
   .dead::.arr 1 1 (mk N (Qt (nxt l) l p.1).1)::.arr ((Qt (nxt l) l p.1).2.length+1) 1 p.2.2::p.2.1⟩)
  (λp=>l.length-p.1) (0,[],[]) ⟨Nat.zero_le _,Held.nil 3,by simp[Flt],by simp[Qt]⟩ ?_ ?_
 ·simp[go_sem,psV,Qt]
  exact mk_cl _ _ _
 ·rintro⟨k,hx,cells⟩ ⟨hk,hH,hF,hkl⟩
  simp only at hk hH hF hkl ⊢
  by_cases hkl:k=l.length
  ·subst hkl
   have hfz:=held_if (base:=[.dead,.arr 1 1 (mk N (Qt (nxt l) l l.length).1),.arr ((Qt (nxt l) l l.length).2.length+1) 1 cells]) hH rfl
   simp only[List.cons_append,List.nil_append]at hfz
   generalize Qt (nxt l) l l.length=D at *
   simp[go_sem,psV,ref10_Loops.r,K2]
   rw[hfz];rfl
  ·have hlt:k<l.length:=by omega
   have hp:l[k]?=some l[k]:=List.getElem?_eq_getElem hlt
   have hmem:l[k]∈l:=List.getElem_mem _
   have hst:=Uv (nxt l) hp
   generalize l[k]=e at hp hst hmem
   obtain⟨_,hp'⟩:=List.getElem?_eq_some_iff.1 hp
   obtain⟨r1,r2⟩:=hrange e hmem
   have hmg:=mk_get (n:=N) (d:=(Qt (nxt l) l k).1) r1 r2
   obtain⟨hml,hmg'⟩:=List.getElem?_eq_some_iff.1 hmg
   generalize Qt (nxt l) l k=D at *
   obtain⟨done,ls⟩:=D
   simp only at *
   unfold Jj at hst
   simp only at hst
   by_cases hd:e.x∈done
   ·rw[if_pos hd]at hst
    rw[decide_eq_true hd]at hmg
    rw[decide_eq_true hd]at hmg'
    simp (disch:=omega) [go_sem,psV,hlt,hp,hp',pcs,r1,r2,hmg,hmg',Q0,Qa,Qc]
    exact⟨k+1,hx,cells,⟨by omega,by rw[hst];exact hH,hF,by rw[hst];simp only;omega⟩,by omega,by omega,⟨by rw[hst],by simp⟩,⟨by rw[hst],mk_cl _ _ _⟩,⟨⟨by rw[hst],rfl⟩,hH.cl (by omega)⟩,hF.WeakH _⟩
   ·rw[if_neg hd]at hst
    rw[decide_eq_false hd]at hmg hmg'
    simp (disch:=omega) [go_sem,psV,hlt,hp,hp',pcs,r1,r2,hmg,hmg',Q0,Qa,Qc]
    have hxA:e.x∈l.map P2.x:=List.mem_map.2 ⟨e,hmem,rfl⟩
    have htd:=todo_le (l.map P2.x) done
    rw[List.length_map]at htd
    generalize hR:Kd (nxt l) done (l.length+1) [] e.x=R at hst
    refine Qq [.t 10 1] (α:=Nat × List Int × Int) (λq=>q.2.2∈l.map P2.x/\todo (l.map P2.x) (done++q.2.1)<q.1/\Kd (nxt l) done q.1 q.2.1 q.2.2=R/\q.2.1.length+q.1<=l.length+1)
     (λq=>⟨[(5,psV l),(6,.own 1 1 0 N),(7,.own 2 (ls.length+1) 0 ls.length),(10,.own (hx.length+4) (q.2.1.length+1) 0 q.2.1.length),(11,.i .i64 q.2.2),(27,psV l),(28,.i .i64 l.length),(29,.i .i64 k)],
      .dead::.arr 1 1 (mk N (done++q.2.1))::.arr (ls.length+1) 1 cells::(hx++[.dead,.arr (q.2.1.length+1) 1 (ics q.2.1)])⟩)
     (λq=>q.1) (l.length+1,[],e.x) ⟨hxA,by simp only[List.append_nil];omega,hR,by simp⟩ ?_ ?_
    ·simp[go_sem,psV,ics]
     exact⟨mk_cl _ _ _,hH.cl (by omega),Z5 (λo ho=>hF o ho _) (by simp[go_sem])⟩
    ·rintro⟨fu,w,v⟩ ⟨q1,q2,q3,q4⟩
     simp only at q1 q2 q3 q4 ⊢
     obtain⟨v1,v2⟩:=hNC v q1
     have hmv:=mk_get (n:=N) (d:=done++w) v1 v2
     obtain⟨hml2,hmv'⟩:=List.getElem?_eq_some_iff.1 hmv
     cases fu with
     | zero=>omega
     | succ fu =>
       unfold Kd at q3
       by_cases hvd:v∈done++w
       ·rw[if_pos hvd]at q3
        subst q3
        rw[decide_eq_true hvd]at hmv hmv'
        have htc:List.take ls.length cells=cells:=List.take_of_length_le (by rw[hH.1];exact Nat.le_refl _)
        have e4:hx.length+4=3+(hx.length+1):=by omega
        have hHs:Held 3 (hx++[.dead,.arr (w.length+1) 1 (ics w)]) (ls++[w]) (cells++[[.own (hx.length+4) (w.length+1) 0 w.length]]):=by
         rw[e4]
         exact(hH.app _).snoc (by rw[Qa];rfl)
        have hFs:Flt (hx++[.dead,.arr (w.length+1) 1 (ics w)]):=hF.app λo ho n=>by
         simp at ho
         rcases ho with rfl | rfl
         ·trivial
         ·exact Zt w n
        simp (disch:=omega) [go_sem,psV,v1,v2,hmv,hmv',Q0,Qa,Qc,htc]
        refine⟨⟨by have:=hH.1;omega,by omega,by omega⟩,k+1,hx++[.dead,.arr (w.length+1) 1 (ics w)],_,⟨by omega,by rw[hst];exact hHs,hFs,by rw[hst];simp only[List.length_append,List.length_cons,List.length_nil];omega⟩,by omega,by simp,⟨by rw[hst];simp,by simp⟩,⟨by rw[hst],mk_cl _ _ _⟩,⟨⟨by rw[hst];simp,rfl⟩,hHs.cl (by simp;omega)⟩,?_⟩
        have:=hFs.WeakH (l:=[O.arr 1 1 [[V.own (hx.length+4) (w.length+1) 0 w.length]]]) ((hx++[O.dead,O.arr (w.length+1) 1 (ics w)]).length+1+1+1)
        rwa [List.append_assoc]at this
       ·rw[if_neg hvd]at q3
        rw[decide_eq_false hvd]at hmv hmv'
        have hms:=mk_set (n:=N) (d:=done++w) v1
        have htl:=todo_lt q1 hvd
        have htw:List.take w.length (ics w)=ics w:=List.take_of_length_le (by simp[ics])
        simp (disch:=omega) [go_sem,psV,v1,v2,hmv,hmv',hms,Q0,Qa,Qc,htw]
        refine⟨⟨by simp[ics],by omega,by omega⟩,?_⟩
        refine Q3 (ho1 v) ?_
        simp (disch:=omega) [go_sem,psV]
        have hnv:=hnm v q1
        rw[List.mem_map]at hnv
        refine⟨fu,w++[v],nxt l v,⟨hnv,by rw[<- List.append_assoc];omega,q3,by simp;omega⟩,by omega,?_⟩
        have hics:ics (w++[v])=ics w++[[.i .i64 v]]:=by simp[ics]
        have hwl:(w++[v]).length=w.length+1:=by simp
        rw[hics,hwl]
        exact⟨⟨rfl,rfl⟩,⟨rfl,mk_cl _ _ _⟩,hH.cl (by omega),Z5 (λo ho=>hF o ho _) ⟨.inl rfl,.inr ⟨rfl,by rw[<- hics];exact Zt _ _⟩,trivial⟩⟩
end
end Go.Abs
