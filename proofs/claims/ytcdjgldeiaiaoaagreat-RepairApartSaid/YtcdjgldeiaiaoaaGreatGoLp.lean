/- Part of the library on which the proof stands: an abstract machine, its values and its soundness against the model; or what functions of the program do to such values. -/
import Derived.Test.YtcdjgldeiaiaoaaGreatGoToA
set_option linter.unusedVariables false
set_option linter.unusedSimpArgs false
set_option maxHeartbeats 4000000
namespace Go.Abs
open Go.Sort
def bordE (E:List P2) (e:P2):Bool:=decide (E.count e.rev<E.count e)
def border (E:List P2):List P2:=Q53 (E.filter (bordE E))
def Mesh.border (m:Mesh):List P2:=if m.check=0 then Go.Abs.border (Q8 m.tris) else []
def Mesh.closed (m:Mesh):Bool:=decide (m.check=0) && decide (m.border=[])
def Us (P:Program) (f:FuncId):Prop:=∀m:Mesh,CallIs P f [m.enc] (psV m.border)
def Q2j (P:Program) (f:FuncId):Prop:=∀m:Mesh,CallIs P f [m.enc] (.b m.closed)
def Mesh.use (m:Mesh) (e:P2):Int:=if m.check=0 then (Q8 m.tris).count e else 0
theorem Qjo (L:List (P2 × Int)) (n:Nat):(O.mp (L.map asV)).sh n=.mp (L.map asV):=by
 simp[O.sh,asV,V.sh2,V.sh1,V.sh0]
theorem Q2q (m:Mesh) (e:P2):val e (Qw m)=m.use e:=by
 unfold Qw Mesh.use
 split
 ·exact Q08 _ _
 ·rfl
theorem Q2z {m:Mesh} {i:Nat} {e:P2} {n:Int} (h:(Qw m)[i]?=some (e,n)):m.check=0/\e∈Q8 m.tris/\n=m.use e:=by
 unfold Qw at h
 split at h
 ·rename_i hz
  have:=Q69 h
  exact⟨hz,this.1,by simp[Mesh.use,hz,this.2]⟩
 ·simp at h
theorem Q6a {m:Mesh} {e:P2} (hz:m.check=0) (h:e∈Q8 m.tris):∃i:Nat,(Qw m)[i]?=some (e,m.use e):=by
 unfold Qw Mesh.use
 rw[if_pos hz,if_pos hz]
 exact Qj3 h
theorem Iq (m:Mesh):((Qw m).map Prod.fst).Nodup:=by
 unfold Qw
 split
 ·exact(Kt _).1
 ·simp
theorem Q2y (m:Mesh):(Qw m).length<=12288:=by
 unfold Qw
 split
 ·rename_i hz
  have h1:=(Kt (Q8 m.tris)).2
  have h3:=K8 m.tris m.tris.length
  rw[qi]at h3
  have h4:=(Mesh.check_zero.1 hz).2.1
  have h5:∀E:List P2,(Yn E).length<=E.length:=by
   refine Ui (by simp[Yn]) λE x ih=>?_
   rw[Ks]
   unfold Qbk
   split<;>simp<;>omega
  have:=h5 (Q8 m.tris)
  omega
 ·simp
theorem mem_border {m:Mesh} {e:P2}:e∈m.border↔m.check=0/\e∈Q8 m.tris/\m.use e.rev<m.use e:=by
 unfold Mesh.border Mesh.use
 by_cases hz:m.check=0
 ·simp only[if_pos hz]
  unfold Go.Abs.border bordE
  rw[Q0t,qv]
  simp[hz]
 ·simp[hz]
theorem Zw (m:Mesh):asc m.border:=by
 unfold Mesh.border
 split
 ·exact Q16 _
 ·simp[asc]
theorem Qgq {L:List (P2 × Int)} (h:(L.map Prod.fst).Nodup) {i j:Nat} {e:P2} {n n':Int} (hi:L[i]?=some (e,n)) (hj:L[j]?=some (e,n')):i=j:=by
 have h1:=Jw h hi
 have h2:=Jw h hj
 rw[h1]at h2
 simp at h2;exact h2.1
def BInv (m:Mesh) (p:List Nat × List P2):Prop:=p.2.Nodup/\p.2.length<=p.1.length/\p.1.length<=(Qw m).length-left (Qw m).length p.1/\(∀i∈p.1,i<(Qw m).length)/\∀x,x∈p.2↔∃i∈p.1,∃n,(Qw m)[i]?=some (x,n)/\m.use x.rev<m.use x
section
variable {P:Program} (hm:P.follows .mixedOrders=true)
include hm
theorem Q09 {f fc fr fs fo:FuncId} (hf:Qc P f (L1f.c fc fr fs fo) L1f.r L1f.n) (hc:Q02 P fc) (hr:RevC P fr) (hs:Qbm P fs 2) (ho:Qe7 P fo) (hcal:Z4 P fo=true):Us P f:=by
 intro m
 refine PureC.is (Q9 hm hf (qh rfl) ?_) rfl
 unfold L1f.c
 have hLl:=Q2y m
 simp[go_sem,Mesh.enc,Mesh.cs]
 refine Ut (hc m) rfl ?_
 simp only[List.map_cons,List.map_nil,Qjo]
 simp[go_sem]
 refine Y9 [.t 4 2] (α:=List Nat × List P2) (BInv m)
  (λp=>⟨[(3,.mp 2),(4,.own 4 (p.2.length+1) 0 p.2.length),(10,.p 3 1 0 0)],[.dead,.dead,.mp ((Qw m).map asV),.it (some 2) (Qw m).length p.1,.arr (p.2.length+1) 2 (p.2.map P2.cs)]⟩)
  (λp=>left (Qw m).length p.1) ([],[]) ⟨by simp,by simp,by simp[left],by simp,by simp⟩ ?_ ?_
 ·simp[go_sem]
  exact Zo _ 5
 ·rintro⟨seen,out⟩ ⟨hnd,hol,hsl,hsr,hmem⟩
  simp only at hnd hol hsl hsr hmem
  simp[go_sem,Mnx]
  refine⟨λhall=>?_,?_⟩
  ·obtain⟨ys,hperm,hup,hcall⟩:=hs P2.ints (λ_=>rfl) Qhw swoE fo hcal (λa b=>ho a b) out (by omega)
   have hys:ys=m.border:=by
    rw[Qbi hperm hnd (hup.imp (by intro a b h;rw[ltE]at h;simpa using h))]
    refine Q2h (Q16 _) (Zw m) λx=>?_
    rw[Q0t,hmem,mem_border]
    constructor
    ·rintro⟨i,_,n,h1,h2⟩
     have:=Q2z h1
     exact⟨this.1,this.2.1,h2⟩
    ·rintro⟨h1,h2,h3⟩
     obtain⟨i,hi⟩:=Q6a h1 h2
     exact⟨i,hall i (q8.1 hi).1,_,hi,h3⟩
   refine J4 (hcall _ 4 _ rfl) ?_
   subst hys
   have hl2:m.border.length=out.length:=hperm.length_eq
   have hy2:m.border.map (λx=>x.ints.map (V.i .i64))=m.border.map P2.cs:=rfl
   rw[hy2]
   have ht:List.take out.length (m.border.map P2.cs)=m.border.map P2.cs:=qe (by simp[hl2])
   simp[go_sem,L1f.r,psV,Qk2,hl2,ht]
  ·rintro i a b e n hi hab hni
   simp only[asV,Prod.mk.injEq]at hab
   obtain⟨rfl,rfl⟩:=hab
   have hil:i<(Qw m).length:=(q8.1 hi).1
   have hg:=Q2z hi
   simp[go_sem,hi,asV]
   refine Q6 (hr e) ?_
   have h1:Qi [1,1] (V.a [V.i .i64 e.y,V.i .i64 e.x]) ((Qw m).map asV)=_:=X9 e.rev (Qw m)
   have hv:=Q2q m e.rev
   have hleft:=left_lt hil hni
   have hleft2:left (Qw m).length seen<=(Qw m).length:=by
    unfold left
    have:=j8 (λi=>!seen.contains i) (List.range (Qw m).length)
    simpa using this
   have hinv:∀out':List P2,(out'.Nodup/\out'.length<=seen.length+1/\∀x,x∈out'↔x∈out∨(x=e/\m.use e.rev<m.use e)) ->
     BInv m (seen++[i],out'):=by
    rintro out' ⟨q1,q2,q3⟩
    refine⟨q1,by simpa using q2,by simp only[j3,List.length_cons,List.length_nil];omega,λj hj=>?_,λx=>?_⟩
    ·rcases qg.1 hj with h | h
     ·exact hsr j h
     ·simp at h;omega
    ·rw[q3,hmem]
     constructor
     ·rintro (⟨j,h1,n',h2,h3⟩ | ⟨rfl,h3⟩)
      ·exact⟨j,by simp[h1],n',h2,h3⟩
      ·exact⟨i,by simp,n,hi,h3⟩
     ·rintro⟨j,h1,n',h2,h3⟩
      rcases qg.1 h1 with h | h
      ·exact .inl ⟨j,h,n',h2,h3⟩
      ·simp at h
       subst h
       rw[hi]at h2
       simp at h2
       obtain⟨rfl,rfl⟩:=h2
       exact .inr ⟨rfl,h3⟩
   have hein:e∉out:=by
    rw[hmem]
    rintro⟨j,h1,n',h2,_⟩
    have:=Qgq (Iq m) hi h2
    subst this
    exact hni h1
   have hn:=hg.2.2
   have hi1:=hinv (out++[e])
   have hi2:=hinv out
   cases hfn:fnd e.rev (Qw m) with
   | none =>
     rw[hfn]at h1
     rw[val,hfn]at hv
     simp only at hv
     simp only[Option.map_none]at h1
     by_cases hlt:0<n
     ·simp (disch:=omega) [go_sem,h1,P2.rev,P2.enc,P2.cs,hlt]
      refine⟨by omega,seen++[i],out++[e],hi1 ⟨?_,by simp;omega,λx=>?_⟩,hleft,?_⟩
      ·rw[List.nodup_append]
       exact⟨hnd,by simp,λa ha b hb=>by simp at hb;subst hb;rintro rfl;exact hein ha⟩
      ·rw[qg,qo]
       have:m.use e.rev<m.use e:=by omega
       simp[this]
      ·simp[pcs]
       exact Zo _ 5
     ·simp (disch:=omega) [go_sem,h1,P2.rev,P2.enc,P2.cs,hlt]
      refine⟨seen++[i],out,hi2 ⟨hnd,by omega,λx=>?_⟩,hleft,?_⟩
      ·have:¬ m.use e.rev<m.use e:=by omega
       simp[this]
      ·exact⟨rfl,Zo _ 5,rfl,rfl,rfl⟩
   | some p =>
     obtain⟨j,n'⟩:=p
     rw[hfn]at h1
     rw[val,hfn]at hv
     simp only at hv
     simp only[Option.map_some]at h1
     by_cases hlt:n'<n
     ·simp (disch:=omega) [go_sem,h1,P2.rev,P2.enc,P2.cs,hlt]
      refine⟨by omega,seen++[i],out++[e],hi1 ⟨?_,by simp;omega,λx=>?_⟩,hleft,?_⟩
      ·rw[List.nodup_append]
       exact⟨hnd,by simp,λa ha b hb=>by simp at hb;subst hb;rintro rfl;exact hein ha⟩
      ·rw[qg,qo]
       have:m.use e.rev<m.use e:=by omega
       simp[this]
      ·simp[pcs]
       exact Zo _ 5
     ·simp (disch:=omega) [go_sem,h1,P2.rev,P2.enc,P2.cs,hlt]
      refine⟨seen++[i],out,hi2 ⟨hnd,by omega,λx=>?_⟩,hleft,?_⟩
      ·have:¬ m.use e.rev<m.use e:=by omega
       simp[this]
      ·exact⟨rfl,Zo _ 5,rfl,rfl,rfl⟩
theorem Q2x {f fc fb:FuncId} (hf:Qc P f (L1g.c fc fb) L1g.r L1g.n) (hc:Zp P fc) (hb:Us P fb):Q2j P f:=by
 intro m
 refine PureC.is (Q9 hm hf (qh rfl) ?_) rfl
 unfold L1g.c
 simp[go_sem,Mesh.enc,Mesh.cs]
 refine Q6 (hc m) ?_
 by_cases h:m.check=0
 ·simp[go_sem,h]
  refine Q6 (hb m) ?_
  simp[go_sem,psV,L1g.r,Mesh.closed,h]
  rw[Bool.eq_iff_iff];simp
 ·have h':(m.check == 0)=false:=by simpa using h
  simp[go_sem,h,h',L1g.r,Mesh.closed]
end
def L03.c:C :=(.seq (.reg [Az 2]) (.seq (.reg [Az 3]) (.seq (.seq (.reg [Ac 4 1]) (.blk 0 (.loop (.seq (.seq (.reg [Am 5 4,Ad 6 5 1,Am 7 0,An 8 0 7,Aj .lss 9 6 8]) (.ite (.t 9) .skip (.exit 0))) (.seq (.blk 1 (.drw [Am 12 3,Am 13 0,Au 14 (.ia 1 (.t 13) (.c (.i .i64 0))),Al 15 14,Am 16 0,Am 17 4,Ai 18 1 16 17,Al 19 18,Am 20 0,Am 21 4,Ad 22 21 1,Ai 23 1 20 22,Al 24 23,Au 25 (.build [(.i .i64 0),(.i .i64 0),(.i .i64 0)] [(0,1,(.t 15)),(1,1,(.t 19)),(2,1,(.t 24))]),Au 26 (.bsi 3 1 [(.i .i64 0),(.i .i64 0),(.i .i64 0)] [(0,(.t 25))]),Au 27 (.app 3 24 (.t 12) (.t 26)),Am 3 27] [])) (.reg [Am 10 4,Ad 11 10 1,
 Am 4 11])))))) (.seq (.reg [Am 28 3,Am 2 28]) .ret))))
def L03.r:List Rr:=[.tmp 2]
abbrev L03.n:Nat:=29
def L04.c (L09 L1h L1c L1b L03 L05:FuncId):C :=(.seq (.reg [Au 1 (.box (.t 0)),Au 2 (.alloc [.nil,.nil]),Ac 3 0,Ac 4 0]) (.seq (.seq (.reg [Ag 11 2 1,Au 12 (.call L09 [.t 11]),Am 5 12]) (.seq (.reg [Am 13 5,Ak .neq 14 13 0]) (.ite (.t 14) (.seq (.reg [Au 15 (.build [.nil,.nil] []),Am 16 5,As 2 2 15,Ac 3 0,Am 4 16]) .ret) .skip))) (.seq (.reg [Ag 18 2 1,Au 19 (.call L1h [.t 18]),Am 17 19,Ax1 20 0 17,Ax1 21 1 17,Am 6 20,Am 7 21]) (.seq (.seq (.reg [Am 22 7,Ak .neq 23 22 0]) (.ite (.t 23) (.seq (.reg [Au 24 (.build [.nil,.nil] []),Am 25 7,As 2 2 24,Ac 3 0,Am 4 25]) .ret) .skip)) (.seq (.drw [Af 26 0 1,
 Al 27 26,Au 28 (.call L1c [.t 27]),Af 29 1 1,Al 30 29,Au 31 (.call L1b [.t 30]),Au 32 (.build [.nil,.nil] [(0,1,(.t 28)),(1,1,(.t 31))]),Au 8 (.alloc [.nil,.nil]),As 2 8 32] [[],[],[],[2],[2],[],[],[],[]]) (.seq (.seq (.reg [Am 33 6,An 34 0 33,Ac 35 0]) (.blk 0 (.loop (.seq (.reg [Aj .lss 36 35 34]) (.seq (.ite (.t 36) .skip (.exit 0)) (.seq (.blk 1 (.seq (.reg [Ai 37 1 33 35,Al 38 37,Am 10 38]) (.seq (.reg [Am 39 10,Au 40 (.call L03 [.t 39]),Au 41 (.call L05 [.t 8,.t 40]),Au 42 (.un .not (.t 41))]) (.ite (.t 42) (.seq (.reg [Au 43 (.build [.nil,.nil] []),As 2 2 43,Ac 3 0,Ac 4 2]) .ret) .skip))))
 (.reg [Ad 44 35 1,Am 35 44]))))))) (.seq (.reg [Ag 45 2 8,Am 46 6,An 47 0 46,As 2 2 45,Am 3 47,Ac 4 0]) .ret)))))))
def L04.r:List Rr:=[.cell 2 (some 2),.tmp 3,.tmp 4]
abbrev L04.n:Nat:=48
def L05.c:C :=(.seq (.reg [Ab 4 false]) (.seq (.seq (.reg [Am 5 0,Au 6 (.nck (.t 5)),Af 7 1 6,Al 8 7,An 9 0 8,Am 10 1,An 11 0 10,Aj .add 12 9 11,Ak .gtr 13 12 4096]) (.ite (.t 13) (.seq (.reg [Ab 4 false]) .ret) .skip)) (.seq (.reg [Am 14 0,Am 15 0,Au 16 (.nck (.t 15)),Af 17 1 16,Al 18 17,Am 19 1,Au 20 (.app 3 24 (.t 18) (.t 19)),Au 21 (.nck (.t 14)),Af 22 1 21,As 1 22 20]) (.seq (.reg [Ab 4 true]) .ret))))
def L05.r:List Rr:=[.tmp 4]
abbrev L05.n:Nat:=23
def L1h.c (L09 L1j L1f L1m:FuncId):C :=(.seq (.reg [Au 1 (.box (.t 0)),Az 2,Ac 3 0]) (.seq (.seq (.reg [Ag 16 2 1,Au 17 (.call L09 [.t 16]),Am 4 17]) (.seq (.reg [Am 18 4,Ak .neq 19 18 0]) (.ite (.t 19) (.seq (.reg [Am 20 4,Az 2,Am 3 20]) .ret) .skip))) (.seq (.reg [Ag 21 2 1,Au 22 (.call L1j [.t 21]),Am 5 22]) (.seq (.reg [Ag 23 2 1,Au 24 (.call L1f [.t 23]),Am 6 24]) (.seq (.reg [Au 25 (.mkm none),Am 7 25]) (.seq (.seq (.reg [Am 26 6,An 27 0 26,Ac 28 0]) (.blk 0 (.loop (.seq (.reg [Aj .lss 29 28 27]) (.seq (.ite (.t 29) .skip (.exit 0)) (.seq (.blk 1 (.seq (.reg [Am 30 28,Ai 31 2 26 28,Ag 32 2 31,
 Au 9 (.alloc [(.i .i64 0),(.i .i64 0)]),Am 8 30,As 2 9 32]) (.seq (.seq (.drw [Am 33 5,Ag 34 2 9,Au 35 (.lk [1,1] (.i .i64 0) false (.t 33) (.t 34)),Ak .neq 36 35 1,Am 37 36,Aw 38 37 (.mv (.t 5)),Aw 39 37 (.ld (some 2) (.t 9)),Aw 40 37 (.call L1m [.t 39]),Aw 41 37 (.lk [1,1] (.i .i64 0) false (.t 38) (.t 40)),Aw 42 37 (.bin .neq (.t 41) (.c (.i .i64 0))),Ao 43 37 42,Am 44 43,Aw 45 44 (.mv (.t 8)),Aw 46 44 (.bin .gtr (.t 45) (.c (.i .i64 0))),Aw 47 44 (.mv (.t 46)),Av 48 47 (.mv (.t 6)),Av 49 47 (.mv (.t 8)),Av 50 47 (.bin .sub (.t 49) (.c (.i .i64 1))),Av 51 47 (.ia 2 (.t 48) (.t 50)),Av 52 47 (.fa 0 (.t 51)),
 Av 53 47 (.ld none (.t 52)),Av 54 47 (.fa 0 (.t 9)),Av 55 47 (.ld none (.t 54)),Av 56 47 (.bin .eql (.t 53) (.t 55)),Aw 57 44 (.pick (.t 47) (.t 56) (.c (.b false))),Ao 58 44 57] []) (.ite (.t 58) (.seq (.reg [Az 2,Ac 3 13]) .ret) .skip)) (.reg [Am 59 7,Af 60 1 9,Al 61 60,Af 62 0 9,Al 63 62,⟨none,none,.mup [1] (.t 59) (.t 61) (.t 63)⟩])))) (.reg [Ad 64 28 1,Am 28 64]))))))) (.seq (.reg [Az 10]) (.seq (.reg [Au 65 (.mkm none),Am 11 65]) (.seq (.seq (.reg [Am 66 6,An 67 0 66,Ac 68 0]) (.blk 2 (.loop (.seq (.reg [Aj .lss 69 68 67]) (.seq (.ite (.t 69) .skip (.exit 2)) (.seq (.blk 3 (.seq (.reg [
 Ai 70 2 66 68,Ag 71 2 70,Au 13 (.alloc [(.i .i64 0),(.i .i64 0)]),As 2 13 71]) (.seq (.seq (.reg [Am 72 11,Af 73 0 13,Al 74 73,Au 75 (.lk [1] (.b false) false (.t 72) (.t 74))]) (.ite (.t 75) (.exit 3) .skip)) (.seq (.reg [Az 14]) (.seq (.seq (.reg [Af 76 0 13,Al 77 76,Am 15 77]) (.blk 4 (.loop (.seq (.seq (.reg [Am 78 11,Am 79 15,Au 80 (.lk [1] (.b false) false (.t 78) (.t 79)),Au 81 (.un .not (.t 80))]) (.ite (.t 81) .skip (.exit 4))) (.seq (.blk 5 (.seq (.reg [Am 85 11,Am 86 15,⟨none,none,.mup [1] (.t 85) (.t 86) (.c (.b true))⟩]) (.reg [Am 87 14,Am 88 15,Au 89 (.bsi 1 1 [(.i .i64 0)] [(0,(.t 88))]),
 Au 90 (.app 1 8 (.t 87) (.t 89)),Am 14 90]))) (.reg [Am 82 7,Am 83 15,Au 84 (.lk [1] (.i .i64 0) false (.t 82) (.t 83)),Am 15 84])))))) (.reg [Am 91 10,Am 92 14,Au 93 (.bso 1 1 [.nil] [(0,(.t 92))]),Au 94 (.app 1 24 (.t 91) (.t 93)),Am 10 94])))))) (.reg [Ad 95 68 1,Am 68 95]))))))) (.seq (.reg [Am 96 10,Am 2 96,Ac 3 0]) .ret))))))))))
def L1h.r:List Rr:=[.tmp 2,.tmp 3]
abbrev L1h.n:Nat:=97
theorem I5:∀{l k:List P2},l.Nodup->(∀a∈l,a∈k)->l.length<=k.length
 | [],k,_,_=>by simp
 | x::l,k,hn,hs=>by
   have hc:=List.nodup_cons.1 hn
   have hx:=hs x (by simp)
   have:=I5 (l:=l) (k:=k.erase x) hc.2 (λa ha=>by
    have hne:a≠x:=by rintro rfl;exact hc.1 ha
    exact(List.mem_erase_of_ne hne).2 (hs a (by simp[ha])))
   rw[List.length_erase_of_mem hx]at this
   have:=List.length_pos_of_mem hx
   simp only[List.length_cons];omega
theorem Q55 {n:Nat} {h l:List O} (hc:∀o∈h,o.cl n):WeakH n (h++l) h:=by
 have:=Z0 (n:=n) (a:=l) (b:=[]) hc (by cases l<;>trivial)
 rwa [List.append_nil]at this
theorem Ur {h l:List O} {id:Nat} {o:O} (ho:h[id]?=some o):(h++l)[id]?=some o:=by
 rw[qd (q8.1 ho).1,ho]
theorem Q6y {h:List O} (l:List O) {id:Nat} (hid:id<h.length) (o:O):(h++l).set id o=h.set id o++l:=List.set_append_left _ _ hid
theorem Qd9 {h:List O} {id g sz n:Nat} {els:List (List V)} (ho:h[id]?=some (.arr g sz els)) (hn:els.length=n) (hd:∀el∈els,∀x∈el,x.isD=true) {vs us:List V} (hr:Yr h vs=some us) :
  Yr h (.own id g 0 n::vs)=some (.l sz els::us):=by
 subst hn
 have ha:(els.all λx=>x.all V.isD)=true:=by rw[qj];exact λel hel=>qj.2 (hd el hel)
 have h1:frz h (.own id g 0 els.length)=some (.l sz els):=by simp[frz,Jc,ho,ha]
 unfold Yr at hr ⊢
 simp[h1,hr]
theorem Qg {α:Type} {l:List α} {k:Nat} {x:α} (h:l[k]?=some x):l.take (k+1)=l.take k++[x]:=by rw[List.take_add_one,h];rfl
end Go.Abs
namespace Go.Abs
open Go.Sort
theorem Q4t {t:T3} {e:P2} (h:e∈Q5 t):e.x≠e.y:=by
 unfold Q5 Zn at h
 have:=(qv.1 h).2
 simpa using this
theorem Qdx {l:List T3} {e:P2} (h:e∈Q8 l):e.x≠e.y:=by
 obtain⟨t,_,ht⟩:=jk.1 h
 exact Q4t ht
theorem Ip {m:Mesh} {e:P2} (hz:m.check=0):e∈Q8 m.tris↔0<m.use e:=by
 have:m.use e=(Q8 m.tris).count e:=by simp[Mesh.use,hz]
 rw[this,<- List.count_pos_iff];omega
theorem P2.rev2 (e:P2):e.rev.rev=e:=rfl
theorem Up (E:List P2) (e:P2):(E.map P2.rev).count e=E.count e.rev:=by
 induction E with
 | nil=>rfl
 | cons a E ih =>
   rw[List.map_cons,List.count_cons,List.count_cons,ih]
   have:(a.rev == e)=(a == e.rev):=by
    rw[Bool.eq_iff_iff,beq_iff_eq,beq_iff_eq]
    constructor
    ·rintro rfl;rfl
    ·rintro rfl;rfl
   rw[this]
theorem Qb4 (t:T3) (v:Int):(Q5 t).countP (λe=>decide (e.x=v))=(Q5 t).countP (λe=>decide (e.y=v)):=by
 have e3:Q5 t=(Y5 t).filter λe=>decide (e.x≠e.y):=rfl
 rw[e3,List.countP_filter,List.countP_filter]
 unfold Y5
 simp only[List.countP_cons,List.countP_nil,Bool.and_eq_true,decide_eq_true_eq,Nat.zero_add,ne_eq]
 by_cases q1:t.a=v<;>by_cases q2:t.b=v<;>by_cases q3:t.c=v<;>simp[q1,q2,q3]<;>(repeat' split)<;>omega
theorem Qbj (l:List T3) (v:Int):(Q8 l).countP (λe=>decide (e.x=v))=(Q8 l).countP (λe=>decide (e.y=v)):=by
 induction l with
 | nil=>rfl
 | cons t l ih =>
   have:Q8 (t::l)=Q5 t++Q8 l:=by simp[Q8]
   rw[this,List.countP_append,List.countP_append,ih,Qb4]
def Wm (m:Mesh) (l:List P2) (i:Nat):Bool:=match l[i]? with
 | some e=>decide (m.use e=1) && (decide (m.use e.rev=0) && !(decide (0<i) && decide (((l[i-1]?).getD ⟨0,0⟩).x=e.x)))
 | none=>true
def Mesh.simple (m:Mesh) (l:List P2):Bool:=(List.range l.length).all (Wm m l)
theorem Ku {m:Mesh} {l:List P2} (h:m.simple l=true) {i:Nat} {e:P2} (he:l[i]?=some e):m.use e=1/\m.use e.rev=0/\(0<i->((l[i-1]?).getD ⟨0,0⟩).x≠e.x):=by
 have hlt:=(q8.1 he).1
 have:=qj.1 h i (qz.2 hlt)
 unfold Wm at this
 rw[he]at this
 simp at this
 refine⟨this.1,this.2.1,λhi=>?_⟩
 rcases this.2.2 with h0 | h0
 ·omega
 ·exact h0
theorem Q32 {m:Mesh} {l:List P2} (h:m.simple l=true) (ha:asc l):∀(j i:Nat) (a b:P2),i<j->l[i]?=some a->l[j]?=some b->a.x<b.x
 | 0,i,a,b,hij,_,_=>by omega
 | j+1,i,a,b,hij,h1,h2=>by
   have hlt:=(q8.1 h2).1
   have hj:l[j]?=some l[j]:=q9 (by omega)
   obtain⟨hi',h1'⟩:=q8.1 h1
   obtain⟨hj',h2'⟩:=q8.1 h2
   have hs:=(Ku h h2).2.2 (by omega)
   rw[Nat.add_sub_cancel,hj]at hs
   simp only[Option.getD_some]at hs
   have hp:=j4.1 ha j (j+1) (by omega) hj' (by omega)
   rw[h2']at hp
   have hlt2:l[j].x<b.x:=by unfold P2.lt at hp;omega
   by_cases hij2:i=j
   ·subst hij2
    rw[hj]at h1
    obtain rfl:=Option.some.inj h1
    exact hlt2
   ·have:=Q32 h ha j i a l[j] (by omega) h1 hj
    omega
theorem Ef {m:Mesh} {l:List P2} (h:m.simple l=true) (ha:asc l):(l.map P2.x).Nodup:=by
 rw[List.nodup_iff_pairwise_ne,je,j4]
 intro i j hi hj hij he
 have:=Q32 h ha j i _ _ hij (q9 hi) (q9 hj)
 omega
theorem Q25 {α:Type} {l:List α} {f:α->Int} (h:(l.map f).Nodup) (v:Int):l.countP (λe=>decide (f e=v))<=1:=by
 induction l with
 | nil=>simp
 | cons a l ih =>
   simp only[List.map_cons,List.nodup_cons]at h
   rw[List.countP_cons]
   have:=ih h.2
   by_cases hv:f a=v
   ·have h0:l.countP (λe=>decide (f e=v))=0:=by
     rw[List.countP_eq_zero]
     intro b hb
     simp only[decide_eq_true_eq]
     intro hbv
     exact h.1 (qp.2 ⟨b,hb,by rw[hbv,hv]⟩)
    rw[h0];simp[hv]
   ·simp[hv];omega
theorem Wf {α:Type} {f:α->Int}:∀{l:List α},(∀v,l.countP (λe=>decide (f e=v))<=1)->(l.map f).Nodup
 | [],_=>by simp
 | a::l,h=>by
   rw[List.map_cons,List.nodup_cons]
   refine⟨λhm=>?_,Wf λv=>?_⟩
   ·obtain⟨b,hb,hba⟩:=qp.1 hm
    have h1:=h (f a)
    rw[List.countP_cons]at h1
    have:0<l.countP (λe=>decide (f e=f a)):=List.countP_pos_iff.2 ⟨b,hb,by simp[hba]⟩
    simp only[decide_true,if_true]at h1;omega
   ·have h1:=h v
    rw[List.countP_cons]at h1
    split at h1<;>omega
theorem Q52 {m:Mesh} (hz:m.check=0) (h:m.simple m.border=true) (v:Int):m.border.countP (λe=>decide (e.x=v))=m.border.countP (λe=>decide (e.y=v)):=by
 have hn:m.border.Nodup:=(Zw m).imp λh1 h2=>by subst h2;exact P2.lt_irrefl _ h1
 have hu:∀e,m.use e=(Q8 m.tris).count e:=λe=>by simp[Mesh.use,hz]
 have hcnt:∀e,m.border.count e=if e∈m.border then 1 else 0:=λe=>by
  by_cases he:e∈m.border
  ·rw[if_pos he]
   have h1:=List.count_pos_iff.2 he
   have h2:=List.nodup_iff_count.1 hn e
   omega
  ·rw[if_neg he];exact List.count_eq_zero.2 he
 have hone:∀e,e∈m.border->(Q8 m.tris).count e=1/\(Q8 m.tris).count e.rev=0:=λe he=>by
  obtain⟨i,hi⟩:=qr he
  have:=Ku h hi
  rw[hu,hu]at this
  omega
 have hperm:(Q8 m.tris++m.border.map P2.rev).Perm ((Q8 m.tris).map P2.rev++m.border):=by
  rw[List.perm_iff_count]
  intro e
  rw[List.count_append,List.count_append,Up,Up,hcnt,hcnt]
  by_cases h1:e∈m.border
  ·have g1:=hone e h1
   have h2:e.rev∉m.border:=λh2=>by have:=hone _ h2;rw[P2.rev2]at this;omega
   rw[if_pos h1,if_neg h2];omega
  ·by_cases h2:e.rev∈m.border
   ·have g2:=hone _ h2
    rw[P2.rev2]at g2
    rw[if_neg h1,if_pos h2];omega
   ·rw[if_neg h1,if_neg h2]
    have p1:0<=m.use e:=by rw[hu];omega
    have p2:0<=m.use e.rev:=by rw[hu];omega
    have k1:¬ (m.use e.rev<m.use e):=λhlt=>h1 (mem_border.2 ⟨hz,(Ip hz).2 (by omega),hlt⟩)
    have k2:¬ (m.use e<m.use e.rev):=λhlt=>h2 (mem_border.2 ⟨hz,(Ip hz).2 (by omega),by rw[P2.rev2];exact hlt⟩)
    rw[hu,hu]at k1 k2
    omega
 have hc:=hperm.countP_eq (λe=>decide (e.x=v))
 rw[List.countP_append,List.countP_append,List.countP_map,List.countP_map]at hc
 have e1:((λe=>decide (e.x=v)) ∘ P2.rev)=λe:P2=>decide (e.y=v):=rfl
 rw[e1]at hc
 have:=Qbj m.tris v
 omega
theorem Jz {m:Mesh} (hz:m.check=0) (h:m.simple m.border=true):(m.border.map P2.y).Nodup:=by
 refine Wf λv=>?_
 rw[<- Q52 hz h]
 exact Q25 (Ef h (Zw m)) v
theorem Jj {m:Mesh} (hz:m.check=0) (h:m.simple m.border=true) (v:Int):v∈m.border.map P2.x↔v∈m.border.map P2.y:=by
 have hb:=Q52 hz h v
 have k:∀f:P2->Int,v∈m.border.map f↔0<m.border.countP (λe=>decide (f e=v)):=λf=>by
  rw[qp,List.countP_pos_iff];simp
 rw[k,k,hb]
def nxt (l:List P2) (v:Int):Int:=match l.find? (λe=>decide (e.y=v)) with | some e=>e.x | none=>v
theorem Q0q {l:List P2} (hy:(l.map P2.y).Nodup) {e:P2} (he:e∈l):nxt l e.y=e.x:=by
 unfold nxt
 cases hf:l.find? (λa=>decide (a.y=e.y)) with
 | none =>
   have:=List.find?_eq_none.1 hf e he
   simp at this
 | some a =>
   have h1:=List.find?_some hf
   have h2:=List.mem_of_find?_eq_some hf
   simp only[decide_eq_true_eq]at h1
   have:a=e:=by
    obtain⟨i,hi,rfl⟩:=List.mem_iff_getElem.1 h2
    obtain⟨j,hj,rfl⟩:=List.mem_iff_getElem.1 he
    have e1:(l.map P2.y).idxOf l[i].y=i:=by
     have:=hy.idxOf_getElem i (by simpa using hi)
     simpa using this
    have e2:(l.map P2.y).idxOf l[j].y=j:=by
     have:=hy.idxOf_getElem j (by simpa using hj)
     simpa using this
    rw[h1]at e1
    have:i=j:=by omega
    subst this;rfl
   subst this;rfl
def X4 (nx:Int->Int) (done:List Int):Nat->List Int->Int->List Int
 | 0,w,_=>w
 | n+1,w,v=>if v∈done++w then w else X4 nx done n (w++[v]) (nx v)
def Z2 (nx:Int->Int) (N:Nat) (s:List Int × List (List Int)) (e:P2):List Int × List (List Int) :=
 if e.x∈s.1 then s else (s.1++X4 nx s.1 (N+1) [] e.x,s.2++[X4 nx s.1 (N+1) [] e.x])
def Ze (nx:Int->Int) (l:List P2) (k:Nat):List Int × List (List Int):=(l.take k).foldl (Z2 nx l.length) ([],[])
theorem Q1k (nx:Int->Int) {l:List P2} {k:Nat} {e:P2} (h:l[k]?=some e):Ze nx l (k+1)=Z2 nx l.length (Ze nx l k) e:=by
 unfold Ze;rw[Qg h,List.foldl_append];rfl
def Yd (l:List P2):List (List Int):=(Ze (nxt l) l l.length).2
def Mesh.loops (m:Mesh):List (List Int) × Int:=if m.check=0 then (if m.simple m.border then (Yd m.border,0) else ([],13)) else ([],m.check)
def Q9l (A done:List Int):Nat:=(A.filter λv=>!done.contains v).length
theorem Q76 {A done:List Int} {v:Int} (hv:v∈A) (hd:v∉done):Q9l A (done++[v])<Q9l A done:=by
 unfold Q9l
 induction A with
 | nil=>simp at hv
 | cons a A ih =>
   have hle:(A.filter λu=>!(done++[v]).contains u).length<=(A.filter λu=>!done.contains u).length:=by
    clear ih hv
    induction A with
    | nil=>simp
    | cons b A ih2 =>
      simp only[List.filter_cons]
      by_cases hb:done.contains b=true
      ·have:(done++[v]).contains b=true:=by simp at hb ⊢;exact .inl hb
       rw[hb,this];exact ih2
      ·rw[Bool.not_eq_true]at hb
       simp only[hb,Bool.not_false,if_true]
       split<;>(try simp only[List.length_cons])<;>omega
   by_cases hav:a=v
   ·subst hav
    have h1:(done++[a]).contains a=true:=by simp
    have h2:done.contains a=false:=by simpa using hd
    simp only[List.filter_cons,h1,h2,Bool.not_true,Bool.not_false,if_true,Bool.false_eq_true,if_false,List.length_cons]
    omega
   ·have hvA:v∈A:=by
     rcases List.mem_cons.1 hv with h | h
     ·exact absurd h.symm hav
     ·exact h
    have:=ih hvA
    have hc:(done++[v]).contains a=done.contains a:=by
     rw[Bool.eq_iff_iff];simp[hav]
    simp only[List.filter_cons,hc]
    split<;>(try simp only[List.length_cons])<;>omega
theorem Q77 (A done:List Int):Q9l A done<=A.length:=j8 _ _
end Go.Abs
