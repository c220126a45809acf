/- Part of the library on which the proof stands: an abstract machine, its values and its soundness against the model; or what functions of the program do to such values. -/
import Derived.Test.YtcdjgldeiaiaoaaGreatGoTp
set_option linter.unusedVariables false
set_option linter.unusedSimpArgs false
namespace Go.Abs
def BeforeEC (P:Program) (f:FuncId):Prop:=∀a b:P2,CallIs P f [a.enc,b.enc] (.b (decide (P2.lt a b)))
def PlaceC (P:Program) (f:FuncId):Prop:=∀(l:List Use) (e:P2),Jm l->l.length<=1000000->CallIs P f [Yd l,e.enc] (.i .i64 (pl l e))
def NumberC (P:Program) (f:FuncId):Prop:=∀(l:List Use) (e:P2),Jm l->l.length<=1000000->CallIs P f [Yd l,e.enc] (.i .i64 (Ji l e))
theorem Ia (u:Use):uCs u=[.i .i64 u.1.x,.i .i64 u.1.y,.i .i64 u.2]:=Rfl rfl
theorem Wu (l:List Use):∀el∈l.map uCs,∀x∈el,x.isD=true:=by
 intro el hel x hx
 obtain⟨u,_,rfl⟩:=List.mem_map.1 hel
 simp[uCs]at hx
 rcases hx with rfl | rfl | rfl<;>rfl
theorem p2_eq (a b:P2):decide (a=b)=(a.x == b.x && a.y == b.y):=by cases a;cases b;rw[Bool.eq_iff_iff];simp[P2.mk.injEq]
theorem quo2 (a:Nat):((a:Int)).tdiv 2=((a / 2:Nat):Int):=by
 rw[Int.tdiv_eq_ediv_of_nonneg (by omega)];omega
section
variable {P:Program} (hm:P.follows .mixedOrders=true)
include hm
theorem ref10_before_ok {f:FuncId} (hf:Q9 P f ref10_before.c ref10_before.r ref10_before.n):BeforeEC P f:=by
 intro a b
 refine PureC.is (Q7 hm hf (Nat.le_of_ble_eq_true rfl) ?_) rfl
 unfold ref10_before.c
 by_cases h1:a.x<b.x
 ·simp[go_sem,P2.enc,pcs,h1,ref10_before.r,P2.lt]
 ·by_cases h2:a.x=b.x
  ·simp[go_sem,P2.enc,pcs,h1,h2,ref10_before.r,P2.lt]
  ·simp[go_sem,P2.enc,pcs,h1,h2,show (a.x == b.x)=false by simp[h2],ref10_before.r,P2.lt]
theorem I1 {f:FuncId} (hf:Q9 P f ref10_Undirected.c ref10_Undirected.r ref10_Undirected.n):UndC P f:=X1 hm hf
theorem ref10_reverse_ok {f:FuncId} (hf:Q9 P f ref10_reverse.c ref10_reverse.r ref10_reverse.n):RevC P f:=U9 hm hf
theorem ref10_Directed_ok {f:FuncId} (hf:Q9 P f ref10_Directed.c ref10_Directed.r ref10_Directed.n):Ye P f:=by
 intro t
 refine PureC.is (Q7 hm hf (Nat.le_of_ble_eq_true rfl) ?_) rfl
 unfold ref10_Directed.c
 simp[go_sem,T3.enc,T3.cs]
 have w1:IntKind.i64.wrap 1=1:=rfl
 have w2:IntKind.i64.wrap 2=2:=rfl
 have w3:IntKind.i64.wrap 3=3:=rfl
 refine Qq [.t 3 2] (α:=Nat) (λk=>k<=3)
  (λk=>⟨[(3,.own 2 ((Qw t k).length+1) 0 (Qw t k).length),(23,.own 1 1 0 3),(24,.i .i64 3),(25,.i .i64 k)],
   [.dead,.arr 1 2 [[.i .i64 t.a,.i .i64 t.b],[.i .i64 t.b,.i .i64 t.c],[.i .i64 t.c,.i .i64 t.a]],.arr ((Qw t k).length+1) 2 ((Qw t k).map P2.cs)]⟩)
  (λk=>3-k) 0 (by omega) ?_ ?_
 ·simp[go_sem,edgesK_0,V.cl,V.cl1,V.cl0]
 ·intro k hk
  have hl:=Qz t k
  by_cases h3:k=3
  ·subst h3
   simp[go_sem,ref10_Directed.r,psV,Q2,p2_isD]
  ·have:k=0∨k=1∨k=2:=by omega
   rcases this with rfl | rfl | rfl
   ·have hs:=edgesK_1 t
    generalize hE:Qw t 0=E0 at hs hl
    by_cases h:t.a=t.b
    ·rw[if_pos h]at hs
     simp[go_sem,h,w1,w2,w3]
     exact⟨1,by omega,by omega,by simp[hs],by simp[hs],by simp[Wd]⟩
    ·rw[if_neg h]at hs
     simp[go_sem,h,w1,w2,w3]
     exact⟨by omega,1,by omega,by omega,by simp[hs],by simp[hs,pcs,or_imp,forall_and,V.cl,V.cl1,V.cl0]⟩
   ·have hs:=edgesK_2 t
    generalize hE:Qw t 1=E0 at hs hl
    by_cases h:t.b=t.c
    ·rw[if_pos h]at hs
     simp[go_sem,h,w1,w2,w3]
     exact⟨2,by omega,by omega,by simp[hs],by simp[hs],by simp[Wd]⟩
    ·rw[if_neg h]at hs
     simp[go_sem,h,w1,w2,w3]
     exact⟨by omega,2,by omega,by omega,by simp[hs],by simp[hs,pcs,or_imp,forall_and,V.cl,V.cl1,V.cl0]⟩
   ·have hs:=edgesK_3 t
    generalize hE:Qw t 2=E0 at hs hl
    by_cases h:t.c=t.a
    ·rw[if_pos h]at hs
     simp[go_sem,h,w1,w2,w3]
     exact⟨3,by omega,by omega,by simp[hs],by simp[hs],by simp[Wd]⟩
    ·rw[if_neg h]at hs
     simp[go_sem,h,w1,w2,w3]
     exact⟨by omega,3,by omega,by omega,by simp[hs],by simp[hs,pcs,or_imp,forall_and,V.cl,V.cl1,V.cl0]⟩
set_option maxHeartbeats 1000000 in
theorem ref10_place_ok {f fb:FuncId} (hf:Q9 P f (ref10_place.c fb) ref10_place.r ref10_place.n) (hb:BeforeEC P fb):PlaceC P f:=by
 intro l e hasc hl
 have hpl:=pl_le l e
 refine PureC.is (Q7 hm hf (Nat.le_of_ble_eq_true rfl) ?_) rfl
 unfold ref10_place.c
 simp[go_sem,P2.enc,pcs,Yd]
 refine Qe (α:=Nat × Nat) (λp=>p.1<=pl l e/\pl l e<=p.2/\p.2<=l.length) (λp=>⟨[(0,Yd l),(3,.p 0 1 0 0),(5,.i .i64 p.1),(6,.i .i64 p.2)],[.arr 1 2 [e.cs]]⟩) (λp=>p.2-p.1) (0,l.length) ⟨by omega,by omega,by omega⟩ ?_ ?_
 ·simp[go_sem,Yd,pcs]
 ·rintro⟨lo,hi⟩ ⟨h1,h2,h3⟩
  simp only at h1 h2 h3 ⊢
  by_cases hlh:lo<hi
  ·obtain⟨mid,hmd⟩:∃mid,mid=(lo+hi) / 2:=⟨_,rfl⟩
   have hq:IntKind.i64.wrap (((lo:Int)+(hi:Int)).tdiv 2)=(mid:Int):=by
    rw[<- Int.natCast_add,quo2,hmd];exact Q0 (by omega) (by omega)
   have hm1:lo<=mid:=by omega
   have hm2:mid<hi:=by omega
   clear hmd
   have hmid:mid<l.length:=by omega
   have hp:l[mid]?=some l[mid]:=List.getElem?_eq_getElem hmid
   have hsp:=Jx (e:=e) hasc hp
   generalize l[mid]=u at hp hsp
   obtain⟨_,hp'⟩:=List.getElem?_eq_some_iff.1 hp
   have hb1:=hb u.1 e
   simp only[P2.enc,pcs]at hb1
   simp (disch:=omega) [go_sem,Yd,pcs,hlh,Q0,hq,hp,hp',Ia,hmid]
   refine Qf hb1 ?_
   by_cases hue:P2.lt u.1 e
   ·have:=hsp.1 hue
    simp (disch:=omega) [go_sem,Yd,pcs,hue,Q0]
    exact⟨mid+1,hi,⟨by omega,by omega,by omega⟩,by omega,by simp,rfl⟩
   ·have:¬ mid<pl l e:=λh=>hue (hsp.2 h)
    simp (disch:=omega) [go_sem,Yd,pcs,hue,Q0]
    exact⟨lo,mid,⟨by omega,by omega,by omega⟩,by omega,rfl,rfl⟩
  ·obtain rfl:lo=hi:=by omega
   obtain rfl:lo=pl l e:=by omega
   simp[go_sem,Yd,pcs,ref10_place.r]
theorem ref10_number_ok {f fp:FuncId} (hf:Q9 P f (ref10_number.c fp) ref10_number.r ref10_number.n) (hp:PlaceC P fp):NumberC P f:=by
 intro l e hasc hl
 have hpl:=pl_le l e
 refine PureC.is (Q7 hm hf (Nat.le_of_ble_eq_true rfl) ?_) rfl
 unfold ref10_number.c
 have hp1:=hp l e hasc hl
 simp only[P2.enc,pcs,Yd]at hp1
 simp[go_sem,P2.enc,pcs,Yd]
 refine Q3 hp1 ?_
 by_cases hlt:pl l e<l.length
 ·have hq:l[pl l e]?=some l[pl l e]:=List.getElem?_eq_getElem hlt
  have hn:Ji l e=if l[pl l e].1=e then l[pl l e].2 else 0:=by
   unfold Ji;simp[hq]
  generalize l[pl l e]=u at hq hn
  obtain⟨_,hq'⟩:=List.getElem?_eq_some_iff.1 hq
  by_cases hue:u.1=e
  ·rw[if_pos hue]at hn
   rw[hn]
   have he:=p2_eq u.1 e
   rw[decide_eq_true hue]at he
   simp (disch:=omega) [go_sem,hlt,hq,hq',Ia,<- he,ref10_number.r]
  ·rw[if_neg hue]at hn
   rw[hn]
   have he:=p2_eq u.1 e
   rw[decide_eq_false hue]at he
   simp (disch:=omega) [go_sem,hlt,hq,hq',Ia,<- he,ref10_number.r]
 ·have hn:Ji l e=0:=by
   unfold Ji;rw[List.getElem?_eq_none (by omega)]
  rw[hn]
  simp (disch:=omega) [go_sem,hlt,ref10_number.r]
end
end Go.Abs
set_option linter.unusedVariables false
set_option linter.unusedSimpArgs false
namespace Go.Abs
theorem set_closed {h:List O} {id n:Nat} {o:O} (hc:∀o∈h,o.cl n) (ho:o.cl n):∀o'∈h.set id o,o'.cl n:=by
 intro o' ho'
 rcases List.mem_or_eq_of_mem_set ho' with h1 | rfl
 ·exact hc o' h1
 ·exact ho
theorem U7 {n:Nat} {h l:List O} (hc:∀o∈h,o.cl n):WeakH n (h++l) h:=by
 have:=Z5 (n:=n) (a:=l) (b:=[]) hc (by cases l<;>trivial)
 rwa [List.append_nil]at this
theorem Ka {h l:List O} {id:Nat} {o:O} (ho:h[id]?=some o):(h++l)[id]?=some o:=by
 rw[List.getElem?_append_left (List.getElem?_eq_some_iff.1 ho).1,ho]
theorem Er {h:List O} (l:List O) {id:Nat} (hid:id<h.length) (o:O):(h++l).set id o=h.set id o++l:=List.set_append_left _ _ hid
theorem Km {h:List O} {id g sz n:Nat} {els:List (List V)} (ho:h[id]?=some (.arr g sz els)) (hn:els.length=n) (hd:∀el∈els,∀x∈el,x.isD=true) {vs us:List V} (hr:Zu h vs=some us) :
  Zu h (.own id g 0 n::vs)=some (.l sz els::us):=by
 subst hn
 have ha:(els.all λx=>x.all V.isD)=true:=by rw[List.all_eq_true];exact λel hel=>List.all_eq_true.2 (hd el hel)
 have h1:frz h (.own id g 0 els.length)=some (.l sz els):=by simp[frz,Xm,ho,ha]
 unfold Zu at hr ⊢
 simp[h1,hr]
theorem shift_list {α:Type} (l:List α) (z:α) {j:Nat} (h:j<=l.length):∃c,(c=z∨c∈l) /\
  List.take (j+1) (l++[z])++(List.take (l.length-j) (List.take (l.length+1-j) (List.drop j (l++[z])))++List.drop (j+1+(l.length-j)) (l++[z]))=l.take j++c::l.drop j:=by
 have e1:List.drop j (l++[z])=l.drop j++[z]:=List.drop_append_of_le_length h
 have e2:List.take (l.length-j) (List.take (l.length+1-j) (l.drop j++[z]))=l.drop j:=by
  rw[List.take_take,Nat.min_eq_left (by omega),List.take_append_of_le_length (by simp)]
  exact List.take_of_length_le (by simp)
 have e3:List.drop (j+1+(l.length-j)) (l++[z])=[]:=List.drop_eq_nil_of_le (by simp;omega)
 have hj:j<(l++[z]).length:=by simp;omega
 refine⟨(l++[z])[j],?_,?_⟩
 ·have:=List.getElem_mem hj
  rw[List.mem_append,List.mem_singleton]at this
  exact this.symm
 ·rw[e1,e2,e3,List.take_add_one,List.getElem?_eq_getElem hj,List.take_append_of_le_length h]
  simp
def WithC (P:Program) (f:FuncId):Prop:=∀(l:List Use) (e:P2),Jm l->l.length<=1000000->∀(h:List O) (id:Nat),h[id]?=some (.arr (l.length+1) 3 (l.map uCs)) ->
 ACall P f [.own id (l.length+1) 0 l.length,e.enc] h (λr h'=>r=.own id ((Zm l e).length+1) 0 (Zm l e).length/\h'=h.set id (.arr ((Zm l e).length+1) 3 ((Zm l e).map uCs)))
section
variable {P:Program} (hm:P.follows .mixedOrders=true)
include hm
set_option maxHeartbeats 1000000 in
theorem ref10_with_ok {f fp:FuncId} (hf:Q9 P f (ref10_with.c fp) ref10_with.r ref10_with.n) (hp:PlaceC P fp):WithC P f:=by
 intro l e hasc hl h id ho
 have hid:id<h.length:=(List.getElem?_eq_some_iff.1 ho).1
 have hpl:=pl_le l e
 refine Yr λhcl=>?_
 refine Ja hm hf (Nat.le_of_ble_eq_true rfl) ?_
 unfold ref10_with.c
 have hg:∀l2:List O,(h++l2)[id]?=_:=λl2=>Ka ho
 have hs:∀(l2:List O) (o:O),(h++l2).set id o=h.set id o++l2:=λl2 o=>Er l2 hid o
 have hg2:∀(o:O) (l2:List O),(h.set id o++l2)[id]?=some o:=λo l2=>Ka (by rw[List.getElem?_set_self hid])
 have hg3:∀(o:O) (l2:List O),(h.set id o++l2)[h.length]?=l2[0]?:=λo l2=>by rw[List.getElem?_append_right (by simp)];simp
 have hs2:∀(o o':O) (l2:List O),(h.set id o++l2).set id o'=h.set id o'++l2:=λo o' l2=>by rw[Er _ (by simpa using hid),List.set_set]
 simp[go_sem,P2.enc,pcs,Qa,Qc,Z1,Qv,hg]
 refine Jb (vs:=[Yd l,e.enc]) ?_ ((hp l e hasc hl) []) rfl ?_
 ·exact Km (hg _) (by simp) (Wu l) (by simp[Zu,frz,Xm,P2.enc,pcs])
 by_cases hhas:hasU l e=true
 ·have hw:Zm l e=l:=by simp[Zm,hhas]
  rw[hw]
  unfold hasU at hhas
  split at hhas
  case h_2=>simp at hhas
  rename_i u hq
  obtain⟨hlt,hq'⟩:=List.getElem?_eq_some_iff.1 hq
  have he:=p2_eq u.1 e
  rw[hhas]at he
  have hsame:h.set id (O.arr (l.length+1) 3 (List.map uCs l))=h:=by
   apply List.ext_getElem?
   intro j
   by_cases hj:id=j
   ·subst hj;rw[List.getElem?_set_self hid,ho]
   ·rw[List.getElem?_set_ne hj]
  simp (disch:=omega) [go_sem,Qa,Qc,Z1,Qv,hg,hlt,hq,hq',Ia,<- he,ref10_with.r]
  rw[hsame]
  exact⟨_,hid,Nat.le_refl _,by omega,U7 (hcl _ (Nat.le_refl _)),rfl⟩
 ·have hw:Zm l e=l.take (pl l e)++(e,0)::l.drop (pl l e):=by simp[Zm,hhas]
  obtain⟨c,hc,hX⟩:=shift_list (l.map uCs) [V.i .i64 0,V.i .i64 0,V.i .i64 0] (j:=pl l e) (by simpa using hpl)
  rw[List.length_map]at hX
  have hc3:∃c1 c2 c3:Int,c=[.i .i64 c1,.i .i64 c2,.i .i64 c3]:=by
   rcases hc with rfl | hc
   ·exact⟨0,0,0,rfl⟩
   ·obtain⟨u,_,rfl⟩:=List.mem_map.1 hc
    exact⟨u.1.x,u.1.y,u.2,rfl⟩
  obtain⟨c1,c2,c3,rfl⟩:=hc3
  have htl:(List.take (pl l e) (l.map uCs)).length=pl l e:=by simp;omega
  have hXg:∀c:List V,(List.take (pl l e) (l.map uCs)++c::List.drop (pl l e) (l.map uCs))[pl l e]?=some c:=λc=>by
   rw[List.getElem?_append_right (by omega),htl];simp
  have hXs:∀c d:List V,(List.take (pl l e) (l.map uCs)++c::List.drop (pl l e) (l.map uCs)).set (pl l e) d=List.take (pl l e) (l.map uCs)++d::List.drop (pl l e) (l.map uCs):=λc d=>by
   rw[List.set_append_right _ _ (by omega),htl];simp
  have hwm:(Zm l e).map uCs=List.take (pl l e) (l.map uCs)++uCs (e,0)::List.drop (pl l e) (l.map uCs):=by rw[hw];simp
  have hwl:(Zm l e).length=l.length+1:=by rw[hw];simp;omega
  rw[hwl,hwm]
  have hfin:∃x:List O,id<x.length/\h.length<=x.length/\x.length<=h.length+1 /\
    WeakH x.length (h.set id (.arr (l.length+1+1) 3 (List.take (pl l e) (l.map uCs)++[.i .i64 e.x,.i .i64 e.y,.i .i64 0]::List.drop (pl l e) (l.map uCs)))++[.arr 1 2 [[.i .i64 e.x,.i .i64 e.y]]]) x /\
    x=h.set id (.arr (l.length+1+1) 3 (List.take (pl l e) (l.map uCs)++[.i .i64 e.x,.i .i64 e.y,.i .i64 0]::List.drop (pl l e) (l.map uCs))):=by
   refine⟨_,by simpa using hid,by simp,by simp,U7 (set_closed (hcl _ (by simp)) ?_),rfl⟩
   intro el hel x hx
   rw[<- show uCs (e,0)=[.i .i64 e.x,.i .i64 e.y,.i .i64 0] from rfl,<- hwm]at hel
   exact isD_cl _ (Wu _ el hel x hx)
  have hnb:(decide (pl l e<l.length) && (match l[pl l e]? with | some u=>(u.1.x == e.x && u.1.y == e.y) | none=>false))=false:=by
   unfold hasU at hhas
   split at hhas
   ·rename_i u hq
    rw[hq]
    have he:=p2_eq u.1 e
    simp only
    rw[<- he]
    simpa using λ_=>hhas
   ·rename_i hq
    rw[hq];simp
  by_cases hlt:pl l e<l.length
  ·have hq:l[pl l e]?=some l[pl l e]:=List.getElem?_eq_getElem hlt
   rw[hq]at hnb
   generalize l[pl l e]=u at hq hnb
   obtain⟨_,hq'⟩:=List.getElem?_eq_some_iff.1 hq
   simp only[hlt,decide_true,Bool.true_and]at hnb
   generalize pl l e=j at *
   simp (disch:=omega) [go_sem,Qa,Qc,Z1,Qv,hg,hg2,hg3,hs,hs2,hlt,hq,hq',Ia,hnb,Q0,show (0<=(j:Int)+1) by omega,show j+1<=l.length+1 by omega,show j<=l.length+1 by omega,hX,hXg,hXs,ref10_with.r]
   exact⟨⟨by omega,by omega⟩,by omega,hfin⟩
  ·have hj:pl l e=l.length:=by omega
   rw[hj]at hfin
   have ht0:List.take l.length (l.map uCs)=l.map uCs:=List.take_of_length_le (by simp)
   have hd0:List.drop l.length (l.map uCs)=[]:=List.drop_eq_nil_of_le (by simp)
   have hg5:∀c:List V,(l.map uCs++[c])[l.length]?=some c:=λc=>by rw[List.getElem?_append_right (by simp)];simp
   have hs5:∀c d:List V,(l.map uCs++[c]).set l.length d=l.map uCs++[d]:=λc d=>by rw[List.set_append_right _ _ (by simp)];simp
   rw[ht0,hd0]at hfin
   simp (disch:=omega) [go_sem,Qa,Qc,Z1,Qv,hg,hg2,hg3,hs,hs2,hj,Ia,Q0,show (0<=(l.length:Int)+1) by omega,ht0,hd0,hg5,hs5,ref10_with.r]
   exact⟨⟨by omega,by omega⟩,hfin⟩
end
end Go.Abs
set_option linter.unusedVariables false
set_option linter.unusedSimpArgs false
namespace Go.Abs
def Kr (E:List P2):List Use:=E.foldl bumpU []
theorem cntL_snoc (E:List P2) (e:P2):Kr (E++[e])=bumpU (Kr E) e:=by simp[Kr]
theorem cntL_ok (E:List P2):Cnt (Kr E) E:=by
 refine Kz (p:=λE=>Cnt (Kr E) E) Cnt.nil ?_ E
 intro E x ih
 rw[cntL_snoc]
 exact ih.bump x
def CountsC (P:Program) (f:FuncId):Prop:=∀m:Mesh,m.check=0->CallIs P f [m.enc] (Yd (Kr (Q8 m.tris)))
theorem uCs_cl (l:List Use) (n:Nat):∀el∈l.map uCs,∀x∈el,x.cl n=true:=λel hel x hx=>isD_cl n (Wu l el hel x hx)
theorem uCs_cl' (n:Nat):(∀(u:Use),∀x∈uCs u,x.cl n=true):=λu x hx=>uCs_cl [u] n (uCs u) (by simp) x hx
theorem Zr (L:List Use) (n:Nat):∀(el:List V) (x:P2) (y:Int),(x,y)∈L->uCs (x,y)=el->∀z∈el,z.cl n=true:=by
 rintro _ x y _ rfl z hz;exact uCs_cl' n (x,y) z hz
theorem own_if {els:List (List V)} {g n sz:Nat} (hn:els.length=n) (hd:∀el∈els,∀x∈el,x.isD=true) :
  (if g=g/\0+n<=els.length/\((List.take n (List.drop 0 els)).all λx=>x.all V.isD)=true then some (V.l sz els) else none)=some (V.l sz els):=by
 subst hn
 have h3:((List.take els.length (List.drop 0 els)).all λx=>x.all V.isD)=true:=by
  rw[List.drop_zero,List.take_length,List.all_eq_true]
  exact λel hel=>List.all_eq_true.2 (hd el hel)
 rw[if_pos ⟨rfl,by omega,h3⟩]
section
variable {P:Program} (hm:P.follows .mixedOrders=true)
include hm
set_option maxHeartbeats 4000000 in
theorem ref10_counts_ok {f fd fw fp:FuncId} (hf:Q9 P f (ref10_counts.c fd fw fp) ref10_counts.r ref10_counts.n) (hd:Ye P fd) (hw:WithC P fw) (hpl:PlaceC P fp):CountsC P f:=by
 intro m hz
 refine PureC.is (Q7 hm hf (Nat.le_of_ble_eq_true rfl) ?_) rfl
 unfold ref10_counts.c
 have hl:=(Mesh.check_zero.1 hz).2.1
 simp[go_sem,Mesh.enc,Mesh.cs,tsV]
 refine Qq [.t 3 3] (α:=Nat) (λk=>k<=m.tris.length)
  (λk=>⟨[(3,.own 1 ((Kr (Q8 (m.tris.take k))).length+1) 0 (Kr (Q8 (m.tris.take k))).length),(9,tsV m.tris),(10,.i .i64 m.tris.length),(11,.i .i64 k)],
   [.dead,.arr ((Kr (Q8 (m.tris.take k))).length+1) 3 ((Kr (Q8 (m.tris.take k))).map uCs)]⟩)
  (λk=>m.tris.length-k) 0 (by omega) ?_ ?_
 ·simp[go_sem,tsV,Q8,Kr]
 ·intro k hk
  by_cases hkl:k=m.tris.length
  ·subst hkl
   rw[List.take_length]
   simp[go_sem,tsV,ref10_counts.r,Yd]
   rw[own_if (by simp) (Wu _)];rfl
  ·have hlt:k<m.tris.length:=by omega
   have hp:m.tris[k]?=some m.tris[k]:=List.getElem?_eq_getElem hlt
   generalize m.tris[k]=t at hp
   obtain⟨_,hp'⟩:=List.getElem?_eq_some_iff.1 hp
   simp[go_sem,tsV,hlt,hp',tcs]
   refine Q3 (hd t) ?_
   have hlen:(Q2 t).length<=3:=Qz t 3
   have hE:=Y1 m.tris k
   have hsuc:=Zz hp
   generalize hA:Q8 (m.tris.take k)=A0 at *
   simp[go_sem,psV]
   refine Qe (α:=Nat) (λj=>j<=(Q2 t).length)
    (λj=>⟨[(3,.own 1 ((Kr (A0++(Q2 t).take j)).length+1) 0 (Kr (A0++(Q2 t).take j)).length),(9,tsV m.tris),(10,.i .i64 m.tris.length),(11,.i .i64 k),(16,psV (Q2 t)),(17,.i .i64 (Q2 t).length),(18,.i .i64 j)],
     [.dead,.arr ((Kr (A0++(Q2 t).take j)).length+1) 3 ((Kr (A0++(Q2 t).take j)).map uCs)]⟩)
    (λj=>(Q2 t).length-j) 0 (by omega) ?_ ?_
   ·simp[go_sem,tsV,psV]
    exact Zr _ _
   ·intro j hj
    by_cases hjl:j=(Q2 t).length
    ·subst hjl
     rw[List.take_length,<- hsuc]
     simp (disch:=omega) [go_sem,tsV,psV,Q0]
     exact⟨k+1,by omega,by omega,by simp,⟨rfl,rfl⟩,Zr _ _⟩
    ·have hjlt:j<(Q2 t).length:=by omega
     have hq:(Q2 t)[j]?=some (Q2 t)[j]:=List.getElem?_eq_getElem hjlt
     have htk:(Q2 t).take (j+1)=(Q2 t).take j++[(Q2 t)[j]]:=by rw[List.take_add_one,hq];rfl
     generalize (Q2 t)[j]=e at hq htk
     obtain⟨_,hq'⟩:=List.getElem?_eq_some_iff.1 hq
     have hS1:A0++(Q2 t).take (j+1)=(A0++(Q2 t).take j)++[e]:=by rw[htk,<- List.append_assoc]
     have hSl:(A0++(Q2 t).take j).length<=3*4096+3:=by rw[List.length_append,List.length_take];omega
     generalize hS:A0++(Q2 t).take j=S at hS1 hSl
     have hT1:=cntL_snoc S e
     rw[<- hS1]at hT1
     have hC:=cntL_ok S
     have hCl:=hC.len
     generalize Kr S=L at hT1 hC hCl
     have hWl:(Zm L e).length<=L.length+1:=by
      unfold Zm;split
      ·omega
      ·have:=pl_le L e;simp;omega
     simp[go_sem,psV,hjlt,hq',pcs]
     refine Jp (hw L e hC.1 (by omega) _ 1 rfl) ?_
     simp[go_sem,psV]
     have hWa:=W7 hC.1 e
     have hWg:=withU_get hC.1 e
     have hWn:=withU_num hC e
     have hcl:S.count e<=S.length:=List.count_le_length
     have hbl:(bumpU L e).length=(Zm L e).length:=by simp[bumpU]
     have hbm:(bumpU L e).map uCs=((Zm L e).map uCs).set (pl (Zm L e) e) [.i .i64 e.x,.i .i64 e.y,.i .i64 (Ji (Zm L e) e+1)]:=by
      simp only[bumpU,List.map_set];rfl
     generalize Zm L e=W at *
     refine Jb (vs:=[Yd W,e.enc]) ?_ ((hpl W e hWa (by omega)) []) rfl ?_
     ·exact Km rfl (by simp) (Wu W) (by simp[Zu,frz,Xm,P2.enc,pcs])
     generalize Ji W e=n at *
     generalize pl W e=i at *
     obtain⟨hil,hWg'⟩:=List.getElem?_eq_some_iff.1 hWg
     simp (disch:=omega) [go_sem,psV,hWg,hWg',hil,Ia,Q0]
     exact⟨j+1,by omega,by omega,⟨by rw[hT1,hbl],.inr rfl,by simp⟩,⟨by rw[hT1,hbl],by rw[hT1,hbm]⟩,Zr _ _⟩
end
def Xe (E:List P2):List Use:=E.foldl Zm []
theorem undL_snoc (E:List P2) (e:P2):Xe (E++[e])=Zm (Xe E) e:=by simp[Xe]
theorem undL_ok (E:List P2):Jm (Xe E)/\(∀e n,(e,n)∈Xe E↔e∈E/\n=0)/\(Xe E).length<=E.length:=by
 refine Kz (p:=λE=>Jm (Xe E)/\(∀e n,(e,n)∈Xe E↔e∈E/\n=0)/\(Xe E).length<=E.length) ?_ ?_ E
 ·simp[Xe,Jm]
 ·rintro E x ⟨h1,h2,h3⟩
  rw[undL_snoc]
  refine⟨W7 h1 x,λe n=>?_,?_⟩
  ·rw[K7 h1,h2]
   constructor
   ·rintro (⟨h,rfl⟩ | ⟨h,hh⟩)
    ·exact⟨by simp[h],rfl⟩
    ·simp only[Prod.mk.injEq]at h
     obtain⟨rfl,rfl⟩:=h
     exact⟨by simp,rfl⟩
   ·rintro⟨h,rfl⟩
    rw[List.mem_append,List.mem_singleton]at h
    by_cases hE:e∈E
    ·exact .inl ⟨hE,rfl⟩
    ·obtain rfl:e=x:=h.resolve_left hE
     refine .inr ⟨rfl,?_⟩
     rw[Bool.eq_false_iff]
     intro hh
     obtain⟨n,hn⟩:=(hasU_iff h1).1 hh
     exact hE ((h2 e n).1 hn).1
  ·unfold Zm;split
   ·simp;omega
   ·have:=pl_le (Xe E) x
    simp;omega
def UndirC (P:Program) (f:FuncId):Prop:=∀m:Mesh,m.check=0->NewC P f [m.enc] (λr h=>r=.own 1 ((Xe ((Q8 m.tris).map P2.und)).length+1) 0 (Xe ((Q8 m.tris).map P2.und)).length /\
 h=[.dead,.arr ((Xe ((Q8 m.tris).map P2.und)).length+1) 3 ((Xe ((Q8 m.tris).map P2.und)).map uCs)])
section
variable {P:Program} (hm:P.follows .mixedOrders=true)
include hm
set_option maxHeartbeats 4000000 in
theorem I0 {f fd fu fw:FuncId} (hf:Q9 P f (ref10_undirected.c fd fu fw) ref10_undirected.r ref10_undirected.n) (hd:Ye P fd) (hu:UndC P fu) (hw:WithC P fw):UndirC P f:=by
 intro m hz
 refine new_of hm hf (Nat.le_of_ble_eq_true rfl) ?_
 unfold ref10_undirected.c
 have hl:=(Mesh.check_zero.1 hz).2.1
 simp[go_sem,Mesh.enc,Mesh.cs,tsV]
 refine Qq [.t 3 3] (α:=Nat) (λk=>k<=m.tris.length)
  (λk=>⟨[(3,.own 1 ((Xe ((Q8 (m.tris.take k)).map P2.und)).length+1) 0 (Xe ((Q8 (m.tris.take k)).map P2.und)).length),(9,tsV m.tris),(10,.i .i64 m.tris.length),(11,.i .i64 k)],
   [.dead,.arr ((Xe ((Q8 (m.tris.take k)).map P2.und)).length+1) 3 ((Xe ((Q8 (m.tris.take k)).map P2.und)).map uCs)]⟩)
  (λk=>m.tris.length-k) 0 (by omega) ?_ ?_
 ·simp[go_sem,tsV,Q8,Xe]
 ·intro k hk
  by_cases hkl:k=m.tris.length
  ·subst hkl
   rw[List.take_length]
   simp[go_sem,tsV,ref10_undirected.r]
   exact Zr _ _
  ·have hlt:k<m.tris.length:=by omega
   have hp:m.tris[k]?=some m.tris[k]:=List.getElem?_eq_getElem hlt
   generalize m.tris[k]=t at hp
   obtain⟨_,hp'⟩:=List.getElem?_eq_some_iff.1 hp
   simp[go_sem,tsV,hlt,hp',tcs]
   refine Q3 (hd t) ?_
   have hlen:(Q2 t).length<=3:=Qz t 3
   have hE:=Y1 m.tris k
   have hsuc:=Zz hp
   generalize hA:Q8 (m.tris.take k)=A0 at *
   simp[go_sem,psV]
   refine Qe (α:=Nat) (λj=>j<=(Q2 t).length)
    (λj=>⟨[(3,.own 1 ((Xe ((A0++(Q2 t).take j).map P2.und)).length+1) 0 (Xe ((A0++(Q2 t).take j).map P2.und)).length),(9,tsV m.tris),(10,.i .i64 m.tris.length),(11,.i .i64 k),(16,psV (Q2 t)),(17,.i .i64 (Q2 t).length),(18,.i .i64 j)],
     [.dead,.arr ((Xe ((A0++(Q2 t).take j).map P2.und)).length+1) 3 ((Xe ((A0++(Q2 t).take j).map P2.und)).map uCs)]⟩)
    (λj=>(Q2 t).length-j) 0 (by omega) ?_ ?_
   ·simp[go_sem,tsV,psV]
    exact Zr _ _
   ·intro j hj
    by_cases hjl:j=(Q2 t).length
    ·subst hjl
     rw[List.take_length,<- hsuc]
     simp (disch:=omega) [go_sem,tsV,psV,Q0]
     exact⟨k+1,by omega,by omega,by simp,⟨rfl,rfl⟩,Zr _ _⟩
    ·have hjlt:j<(Q2 t).length:=by omega
     have hq:(Q2 t)[j]?=some (Q2 t)[j]:=List.getElem?_eq_getElem hjlt
     have htk:(Q2 t).take (j+1)=(Q2 t).take j++[(Q2 t)[j]]:=by rw[List.take_add_one,hq];rfl
     generalize (Q2 t)[j]=e at hq htk
     obtain⟨_,hq'⟩:=List.getElem?_eq_some_iff.1 hq
     have hS1:(A0++(Q2 t).take (j+1)).map P2.und=(A0++(Q2 t).take j).map P2.und++[e.und]:=by rw[htk,<- List.append_assoc,List.map_append (l₂:=[e])];rfl
     have hSl:((A0++(Q2 t).take j).map P2.und).length<=3*4096+3:=by rw[List.length_map,List.length_append,List.length_take];omega
     generalize hS:(A0++(Q2 t).take j).map P2.und=S at hS1 hSl
     have hT1:=undL_snoc S e.und
     rw[<- hS1]at hT1
     have hC:=undL_ok S
     generalize Xe S=L at hT1 hC
     simp[go_sem,psV,hjlt,hq',pcs]
     refine Q3 (hu e) ?_
     simp[go_sem,psV]
     refine Jp (hw L e.und hC.1 (by omega) _ 1 rfl) ?_
     simp (disch:=omega) [go_sem,psV,Q0]
     rw[List.map_append,List.map_take]at hT1
     exact⟨j+1,by omega,by omega,⟨by rw[hT1],.inr rfl,by simp⟩,⟨by rw[hT1],by rw[hT1]⟩,Zr _ _⟩
end
end Go.Abs
set_option linter.unusedVariables false
set_option linter.unusedSimpArgs false
namespace Go.Abs
def Mesh.edgesL (m:Mesh):List P2:=if m.check=0 then W3 ((Q8 m.tris).map P2.und) else []
theorem sh_uCs (L:List Use) (g n:Nat):(O.arr g 3 (L.map uCs)).sh n=.arr g 3 (L.map uCs):=by
 have h:∀u:Use,(uCs u).map (V.sh1 n)=uCs u:=λu=>by simp[uCs,V.sh1,V.sh0]
 simp only[O.sh,List.map_map,Function.comp_def,h]
theorem psV_nil:Le .nil (psV []):=.inl (.inl (Le0.nil 2))
theorem und_asc (E:List P2):asc ((Xe E).map Prod.fst):=by
 have h:=(undL_ok E).1
 unfold Jm at h
 unfold asc
 rw[List.pairwise_map]
 exact h
theorem und_keys (E:List P2):(Xe E).map Prod.fst=W3 E:=by
 refine asc_ext (und_asc E) (K9 _) λa=>?_
 rw[mem_ascOf,List.mem_map]
 have h:=(undL_ok E).2.1
 constructor
 ·rintro⟨⟨x,n⟩,h1,rfl⟩;exact((h x n).1 h1).1
 ·intro h1;exact⟨(a,0),(h a 0).2 ⟨h1,rfl⟩,rfl⟩
theorem Qd {α:Type} {l:List α} {k:Nat} {x:α} (h:l[k]?=some x):l.take (k+1)=l.take k++[x]:=by rw[List.take_add_one,h];rfl
def W2 (L:List Use) (k:Nat):List P2:=((L.take k).filter λu=>decide (Ji L u.1.rev<u.2)).map Prod.fst
theorem bordU_len (L:List Use) (k:Nat):(W2 L k).length<=k:=by
 unfold W2
 rw[List.length_map]
 have:=List.length_filter_le (λu:Use=>decide (Ji L u.1.rev<u.2)) (L.take k)
 rw[List.length_take]at this;omega
theorem bordU_succ {L:List Use} {k:Nat} {u:Use} (h:L[k]?=some u):W2 L (k+1)=W2 L k++if Ji L u.1.rev<u.2 then [u.1] else []:=by
 unfold W2
 rw[Qd h,List.filter_append,List.map_append]
 by_cases h:Ji L u.1.rev<u.2<;>simp[h]
section
variable {P:Program} (hm:P.follows .mixedOrders=true)
include hm
set_option maxHeartbeats 1000000 in
theorem ref10_Boundary_ok {f fc fn fr fb:FuncId} (hf:Q9 P f (ref10_Boundary.c fc fn fr fb) ref10_Boundary.r ref10_Boundary.n) (hc:Z8 P fc) (hn:CountsC P fn) (hr:RevC P fr) (hb:NumberC P fb):Xd P f:=by
 intro m
 by_cases hz:m.check=0
 case neg =>
  have he:m.border=[]:=by simp[Mesh.border,hz]
  rw[he]
  refine CallIs.res (r:=.nil) ?_ psV_nil
  refine PureC.is (Q7 hm hf (Nat.le_of_ble_eq_true rfl) ?_) rfl
  unfold ref10_Boundary.c
  simp[go_sem,Mesh.enc,Mesh.cs]
  refine Q3 (hc m) ?_
  simp[go_sem,hz,ref10_Boundary.r]
 have hl:=(Mesh.check_zero.1 hz).2.1
 have hE:=Y1 m.tris m.tris.length
 rw[List.take_length]at hE
 have hC:=cntL_ok (Q8 m.tris)
 have hCl:=hC.len
 have hB:m.border=((Kr (Q8 m.tris)).filter λu=>decide (Ji (Kr (Q8 m.tris)) u.1.rev<u.2)).map Prod.fst:=by
  refine asc_ext (X7 m) ?_ λa=>?_
  ·have h:=hC.1
   unfold Jm at h
   unfold asc
   rw[List.pairwise_map]
   exact h.filter _
  ·rw[mem_border,List.mem_map]
   have u1:m.use a=(Q8 m.tris).count a:=by simp[Mesh.use,hz]
   have u2:m.use a.rev=(Q8 m.tris).count a.rev:=by simp[Mesh.use,hz]
   rw[u1,u2]
   constructor
   ·rintro⟨_,h1,h2⟩
    exact⟨(a,(Q8 m.tris).count a),by rw[List.mem_filter];exact⟨(hC.2 _ _).2 ⟨h1,rfl⟩,by simp only[hC.num];simpa using h2⟩,rfl⟩
   ·rintro⟨⟨x,n⟩,h1,rfl⟩
    rw[List.mem_filter]at h1
    obtain⟨h1,h2⟩:=h1
    obtain⟨h3,rfl⟩:=(hC.2 _ _).1 h1
    simp only[hC.num]at h2
    exact⟨hz,h3,by simpa using h2⟩
 rw[hB]
 refine PureC.is (Q7 hm hf (Nat.le_of_ble_eq_true rfl) ?_) rfl
 unfold ref10_Boundary.c
 simp[go_sem,Mesh.enc,Mesh.cs]
 refine Q3 (hc m) ?_
 simp[go_sem,hz]
 refine Q3 (hn m hz) ?_
 generalize Kr (Q8 m.tris)=L at *
 simp[go_sem,Yd]
 refine Qq [.t 4 2] (α:=Nat) (λk=>k<=L.length)
  (λk=>⟨[(3,Yd L),(4,.own 1 ((W2 L k).length+1) 0 (W2 L k).length),(12,Yd L),(13,.i .i64 L.length),(14,.i .i64 k)],
   [.dead,.arr ((W2 L k).length+1) 2 ((W2 L k).map P2.cs)]⟩)
  (λk=>L.length-k) 0 (Nat.zero_le _) ?_ ?_
 ·simp[go_sem,Yd,W2]
 ·intro k hk
  by_cases hkl:k=L.length
  ·subst hkl
   have hk:(L.filter λu=>decide (Ji L u.1.rev<u.2)).map Prod.fst=W2 L L.length:=by unfold W2;rw[List.take_length]
   rw[hk]
   generalize W2 L L.length=R
   simp[go_sem,ref10_Boundary.r,psV,p2_isD,Yd]
  ·have hlt:k<L.length:=by omega
   have hp:L[k]?=some L[k]:=List.getElem?_eq_getElem hlt
   generalize L[k]=u at hp
   obtain⟨_,hp'⟩:=List.getElem?_eq_some_iff.1 hp
   have hfs:=bordU_succ hp
   have hfl:=bordU_len L k
   have h2:=hb L u.1.rev hC.1 (by omega)
   simp only[Yd]at h2
   generalize W2 L k=R at *
   simp (disch:=omega) [go_sem,hlt,hp,hp',Ia,Q0,Yd]
   refine Qf (hr u.1) ?_
   simp[go_sem]
   refine Qf h2 ?_
   by_cases h:Ji L u.1.rev<u.2
   ·rw[if_pos h]at hfs
    simp (disch:=omega) [go_sem,h,Q0,P2.enc,P2.cs]
    refine⟨⟨by omega,by omega⟩,k+1,by omega,by omega,?_⟩
    rw[hfs]
    simp[pcs,or_imp,forall_and,V.cl,V.cl1,V.cl0]
   ·rw[if_neg h]at hfs
    simp (disch:=omega) [go_sem,h,Q0]
    rw[List.append_nil]at hfs
    refine⟨k+1,by omega,by omega,?_⟩
    rw[hfs]
    simp[pcs,or_imp,forall_and,V.cl,V.cl1,V.cl0]
theorem ref10_Closed_ok {f fc fb:FuncId} (hf:Q9 P f (ref10_Closed.c fc fb) ref10_Closed.r ref10_Closed.n) (hc:Z8 P fc) (hb:Xd P fb):W4 P f:=Ul hm hf hc hb
end
end Go.Abs
set_option linter.unusedVariables false
set_option linter.unusedSimpArgs false
namespace Go.Abs
open Go.Sort
theorem edgesOf_ne {t:T3} {e:P2} (h:e∈Q2 t):e.x≠e.y:=by
 unfold Q2 Qw at h
 have:=(List.mem_filter.1 h).2
 simpa using this
theorem use_pos {m:Mesh} {e:P2} (hz:m.check=0):e∈Q8 m.tris↔0<m.use e:=by
 have:m.use e=(Q8 m.tris).count e:=by simp[Mesh.use,hz]
 rw[this,<- List.count_pos_iff];omega
end Go.Abs
