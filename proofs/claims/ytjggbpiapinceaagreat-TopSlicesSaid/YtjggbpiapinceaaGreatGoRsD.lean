/- Part of the library on which the proof stands: an abstract machine, its values and its soundness against the model; or what functions of the program do to such values. -/
import Derived.Test.YtjggbpiapinceaaGreatGoToA
import Derived.Test.YtjggbpiapinceaaGreatGoSkA
import Derived.Test.YtjggbpiapinceaaGreatAbsSS
set_option linter.unusedVariables false
set_option linter.unusedSimpArgs false
set_option maxHeartbeats 8000000
set_option maxRecDepth 20000
namespace Go.Abs
open Go.Sort
def bordE (E:List P2) (e:P2):Bool:=decide (E.count e.rev<E.count e)
def border (E:List P2):List P2:=E6 (E.filter (bordE E))
def Mesh.border (m:Mesh):List P2:=if m.check=0 then Go.Abs.border (Qc m.tris) else []
def Mesh.closed (m:Mesh):Bool:=decide (m.check=0) && decide (m.border=[])
def I0 (P:Program) (f:FuncId):Prop:=∀m:Mesh,CallIs P f [m.enc] (psV m.border)
def Q48 (P:Program) (f:FuncId):Prop:=∀m:Mesh,CallIs P f [m.enc] (.b m.closed)
def Mesh.use (m:Mesh) (e:P2):Int:=if m.check=0 then (Qc m.tris).count e else 0
theorem Qox (L:List (P2 × Int)) (n:Nat):(O.mp (L.map asV)).sh n=.mp (L.map asV):=by
 simp[O.sh,asV,V.sh2,V.sh1,V.sh0]
theorem Q4f (m:Mesh) (e:P2):val e (Z0 m)=m.use e:=by
 unfold Z0 Mesh.use
 split
 ·exact Q1d _ _
 ·rfl
theorem Q4l {m:Mesh} {i:Nat} {e:P2} {n:Int} (h:(Z0 m)[i]?=some (e,n)):m.check=0/\e∈Qc m.tris/\n=m.use e:=by
 unfold Z0 at h
 split at h
 ·rename_i hz
  have:=Q8c h
  exact⟨hz,this.1,by simp[Mesh.use,hz,this.2]⟩
 ·simp at h
theorem Q8d {m:Mesh} {e:P2} (hz:m.check=0) (h:e∈Qc m.tris):∃i:Nat,(Z0 m)[i]?=some (e,m.use e):=by
 unfold Z0 Mesh.use
 rw[if_pos hz,if_pos hz]
 exact Qo8 h
theorem By (m:Mesh):((Z0 m).map Prod.fst).Nodup:=by
 unfold Z0
 split
 ·exact(Wj _).1
 ·simp
theorem Q4k (m:Mesh):(Z0 m).length<=12288:=by
 unfold Z0
 split
 ·rename_i hz
  have h1:=(Wj (Qc m.tris)).2
  have h3:=E7 m.tris m.tris.length
  rw[qi]at h3
  have h4:=(Mesh.check_zero.1 hz).2.1
  have h5:∀E:List P2,(Yy E).length<=E.length:=by
   refine Eh (by simp[Yy]) λE x ih=>?_
   rw[Wi]
   unfold Qf3
   split<;>simp<;>omega
  have:=h5 (Qc m.tris)
  omega
 ·simp
theorem mem_border {m:Mesh} {e:P2}:e∈m.border↔m.check=0/\e∈Qc m.tris/\m.use e.rev<m.use e:=by
 unfold Mesh.border Mesh.use
 by_cases hz:m.check=0
 ·simp only[if_pos hz]
  unfold Go.Abs.border bordE
  rw[Ej,qv]
  simp[hz]
 ·simp[hz]
theorem J3 (m:Mesh):asc m.border:=by
 unfold Mesh.border
 split
 ·exact Ew _
 ·simp[asc]
theorem Qlh {L:List (P2 × Int)} (h:(L.map Prod.fst).Nodup) {i j:Nat} {e:P2} {n n':Int} (hi:L[i]?=some (e,n)) (hj:L[j]?=some (e,n')):i=j:=by
 have h1:=K7 h hi
 have h2:=K7 h hj
 rw[h1]at h2
 simp at h2;exact h2.1
def BInv (m:Mesh) (p:List Nat × List P2):Prop:=p.2.Nodup/\p.2.length<=p.1.length/\p.1.length<=(Z0 m).length-left (Z0 m).length p.1/\(∀i∈p.1,i<(Z0 m).length)/\∀x,x∈p.2↔∃i∈p.1,∃n,(Z0 m)[i]?=some (x,n)/\m.use x.rev<m.use x
section
variable {P:Program} (hm:P.follows .mixedOrders=true)
include hm
theorem Q1f {f fc fr fs fo:FuncId} (hf:Qa P f (L1z.c fc fr fs fo) L1z.r L1z.n) (hc:Q16 P fc) (hr:RevC P fr) (hs:Wc P fs 2) (ho:Qi6 P fo) (hcal:Z3 P fo=true):I0 P f:=by
 intro m
 refine PureC.is (Q8 hm hf (qh rfl) ?_) rfl
 unfold L1z.c
 have hLl:=Q4k m
 simp[go_sem,Mesh.enc,Mesh.cs]
 refine Wg (hc m) rfl ?_
 simp only[List.map_cons,List.map_nil,Qox]
 simp[go_sem]
 refine Z5 [.t 4 2] (α:=List Nat × List P2) (BInv m)
  (λp=>⟨[(3,.mp 2),(4,.own 4 (p.2.length+1) 0 p.2.length),(10,.p 3 1 0 0)],[.dead,.dead,.mp ((Z0 m).map asV),.it (some 2) (Z0 m).length p.1,.arr (p.2.length+1) 2 (p.2.map P2.cs)]⟩)
  (λp=>left (Z0 m).length p.1) ([],[]) ⟨by simp,by simp,by simp[left],by simp,by simp⟩ ?_ ?_
 ·simp[go_sem]
  exact Zt _ 5
 ·rintro⟨seen,out⟩ ⟨hnd,hol,hsl,hsr,hmem⟩
  simp only at hnd hol hsl hsr hmem
  simp[go_sem,Mnx]
  refine⟨λhall=>?_,?_⟩
  ·obtain⟨ys,hperm,hup,hcall⟩:=hs P2.ints (λ_=>rfl) Qmr swoE fo hcal (λa b=>ho a b) out (by omega)
   have hys:ys=m.border:=by
    rw[Qf0 hperm hnd (hup.imp (by intro a b h;rw[ltE]at h;simpa using h))]
    refine Qbs (Ew _) (J3 m) λx=>?_
    rw[Ej,hmem,mem_border]
    constructor
    ·rintro⟨i,_,n,h1,h2⟩
     have:=Q4l h1
     exact⟨this.1,this.2.1,h2⟩
    ·rintro⟨h1,h2,h3⟩
     obtain⟨i,hi⟩:=Q8d h1 h2
     exact⟨i,hall i (q8.1 hi).1,_,hi,h3⟩
   refine Yh (hcall _ 4 _ rfl) ?_
   subst hys
   have hl2:m.border.length=out.length:=hperm.length_eq
   have hy2:m.border.map (λx=>x.ints.map (V.i .i64))=m.border.map P2.cs:=rfl
   rw[hy2]
   have ht:List.take out.length (m.border.map P2.cs)=m.border.map P2.cs:=qe (by simp[hl2])
   simp[go_sem,L1z.r,psV,Qpg,hl2,ht]
  ·rintro i a b e n hi hab hni
   simp only[asV,Prod.mk.injEq]at hab
   obtain⟨rfl,rfl⟩:=hab
   have hil:i<(Z0 m).length:=(q8.1 hi).1
   have hg:=Q4l hi
   simp[go_sem,hi,asV]
   refine Q4 (hr e) ?_
   have h1:Qj [1,1] (V.a [V.i .i64 e.y,V.i .i64 e.x]) ((Z0 m).map asV)=_:=Xe e.rev (Z0 m)
   have hv:=Q4f m e.rev
   have hleft:=Qj8 hil hni
   have hleft2:left (Z0 m).length seen<=(Z0 m).length:=by
    unfold left
    have:=j9 (λi=>!seen.contains i) (List.range (Z0 m).length)
    simpa using this
   have hinv:∀out':List P2,(out'.Nodup/\out'.length<=seen.length+1/\∀x,x∈out'↔x∈out∨(x=e/\m.use e.rev<m.use e)) ->
     BInv m (seen++[i],out'):=by
    rintro out' ⟨q1,q2,q3⟩
    refine⟨q1,by simpa using q2,by simp only[j4,List.length_cons,List.length_nil];omega,λj hj=>?_,λx=>?_⟩
    ·rcases qg.1 hj with h | h
     ·exact hsr j h
     ·simp at h;omega
    ·rw[q3,hmem]
     constructor
     ·rintro (⟨j,h1,n',h2,h3⟩ | ⟨rfl,h3⟩)
      ·exact⟨j,by simp[h1],n',h2,h3⟩
      ·exact⟨i,by simp,n,hi,h3⟩
     ·rintro⟨j,h1,n',h2,h3⟩
      rcases qg.1 h1 with h | h
      ·exact .inl ⟨j,h,n',h2,h3⟩
      ·simp at h
       subst h
       rw[hi]at h2
       simp at h2
       obtain⟨rfl,rfl⟩:=h2
       exact .inr ⟨rfl,h3⟩
   have hein:e∉out:=by
    rw[hmem]
    rintro⟨j,h1,n',h2,_⟩
    have:=Qlh (By m) hi h2
    subst this
    exact hni h1
   have hn:=hg.2.2
   have hi1:=hinv (out++[e])
   have hi2:=hinv out
   cases hfn:fnd e.rev (Z0 m) with
   | none =>
     rw[hfn]at h1
     rw[val,hfn]at hv
     simp only at hv
     simp only[Option.map_none]at h1
     by_cases hlt:0<n
     ·simp (disch:=omega) [go_sem,h1,P2.rev,P2.enc,P2.cs,hlt]
      refine⟨by omega,seen++[i],out++[e],hi1 ⟨?_,by simp;omega,λx=>?_⟩,hleft,?_⟩
      ·rw[List.nodup_append]
       exact⟨hnd,by simp,λa ha b hb=>by simp at hb;subst hb;rintro rfl;exact hein ha⟩
      ·rw[qg,qo]
       have:m.use e.rev<m.use e:=by omega
       simp[this]
      ·simp[pcs]
       exact Zt _ 5
     ·simp (disch:=omega) [go_sem,h1,P2.rev,P2.enc,P2.cs,hlt]
      refine⟨seen++[i],out,hi2 ⟨hnd,by omega,λx=>?_⟩,hleft,?_⟩
      ·have:¬ m.use e.rev<m.use e:=by omega
       simp[this]
      ·exact⟨rfl,Zt _ 5,rfl,rfl,rfl⟩
   | some p =>
     obtain⟨j,n'⟩:=p
     rw[hfn]at h1
     rw[val,hfn]at hv
     simp only at hv
     simp only[Option.map_some]at h1
     by_cases hlt:n'<n
     ·simp (disch:=omega) [go_sem,h1,P2.rev,P2.enc,P2.cs,hlt]
      refine⟨by omega,seen++[i],out++[e],hi1 ⟨?_,by simp;omega,λx=>?_⟩,hleft,?_⟩
      ·rw[List.nodup_append]
       exact⟨hnd,by simp,λa ha b hb=>by simp at hb;subst hb;rintro rfl;exact hein ha⟩
      ·rw[qg,qo]
       have:m.use e.rev<m.use e:=by omega
       simp[this]
      ·simp[pcs]
       exact Zt _ 5
     ·simp (disch:=omega) [go_sem,h1,P2.rev,P2.enc,P2.cs,hlt]
      refine⟨seen++[i],out,hi2 ⟨hnd,by omega,λx=>?_⟩,hleft,?_⟩
      ·have:¬ m.use e.rev<m.use e:=by omega
       simp[this]
      ·exact⟨rfl,Zt _ 5,rfl,rfl,rfl⟩
theorem Q4j {f fc fb:FuncId} (hf:Qa P f (L20.c fc fb) L20.r L20.n) (hc:Ys P fc) (hb:I0 P fb):Q48 P f:=by
 intro m
 refine PureC.is (Q8 hm hf (qh rfl) ?_) rfl
 unfold L20.c
 simp[go_sem,Mesh.enc,Mesh.cs]
 refine Q4 (hc m) ?_
 by_cases h:m.check=0
 ·simp[go_sem,h]
  refine Q4 (hb m) ?_
  simp[go_sem,psV,L20.r,Mesh.closed,h]
  rw[Bool.eq_iff_iff];simp
 ·have h':(m.check == 0)=false:=by simpa using h
  simp[go_sem,h,h',L20.r,Mesh.closed]
end
def L0c.c:C :=(.seq (.reg [Az 2]) (.seq (.reg [Az 3]) (.seq (.seq (.reg [Ac 4 1]) (.blk 0 (.loop (.seq (.seq (.reg [Am 5 4,Ad 6 5 1,Am 7 0,An 8 0 7,Aj .lss 9 6 8]) (.ite (.t 9) .skip (.exit 0))) (.seq (.blk 1 (.drw [Am 12 3,Am 13 0,Au 14 (.ia 1 (.t 13) (.c (.i .i64 0))),Al 15 14,Am 16 0,Am 17 4,Ai 18 1 16 17,Al 19 18,Am 20 0,Am 21 4,Ad 22 21 1,Ai 23 1 20 22,Al 24 23,Au 25 (.build [(.i .i64 0),(.i .i64 0),(.i .i64 0)] [(0,1,(.t 15)),(1,1,(.t 19)),(2,1,(.t 24))]),Au 26 (.bsi 3 1 [(.i .i64 0),(.i .i64 0),(.i .i64 0)] [(0,(.t 25))]),Au 27 (.app 3 24 (.t 12) (.t 26)),Am 3 27] [])) (.reg [Am 10 4,Ad 11 10 1,
 Am 4 11])))))) (.seq (.reg [Am 28 3,Am 2 28]) .ret))))
def L0c.r:List Rr:=[.tmp 2]
abbrev L0c.n:Nat:=29
def L0d.c (L0g L21 L1u L1t L0c L0e:FuncId):C :=(.seq (.reg [Au 1 (.box (.t 0)),Au 2 (.alloc [.nil,.nil]),Ac 3 0,Ac 4 0]) (.seq (.seq (.reg [Ag 11 2 1,Au 12 (.call L0g [.t 11]),Am 5 12]) (.seq (.reg [Am 13 5,Ak .neq 14 13 0]) (.ite (.t 14) (.seq (.reg [Au 15 (.build [.nil,.nil] []),Am 16 5,As 2 2 15,Ac 3 0,Am 4 16]) .ret) .skip))) (.seq (.reg [Ag 18 2 1,Au 19 (.call L21 [.t 18]),Am 17 19,Ax1 20 0 17,Ax1 21 1 17,Am 6 20,Am 7 21]) (.seq (.seq (.reg [Am 22 7,Ak .neq 23 22 0]) (.ite (.t 23) (.seq (.reg [Au 24 (.build [.nil,.nil] []),Am 25 7,As 2 2 24,Ac 3 0,Am 4 25]) .ret) .skip)) (.seq (.drw [Af 26 0 1,
 Al 27 26,Au 28 (.call L1u [.t 27]),Af 29 1 1,Al 30 29,Au 31 (.call L1t [.t 30]),Au 32 (.build [.nil,.nil] [(0,1,(.t 28)),(1,1,(.t 31))]),Au 8 (.alloc [.nil,.nil]),As 2 8 32] [[],[],[],[2],[2],[],[],[],[]]) (.seq (.seq (.reg [Am 33 6,An 34 0 33,Ac 35 0]) (.blk 0 (.loop (.seq (.reg [Aj .lss 36 35 34]) (.seq (.ite (.t 36) .skip (.exit 0)) (.seq (.blk 1 (.seq (.reg [Ai 37 1 33 35,Al 38 37,Am 10 38]) (.seq (.reg [Am 39 10,Au 40 (.call L0c [.t 39]),Au 41 (.call L0e [.t 8,.t 40]),Au 42 (.un .not (.t 41))]) (.ite (.t 42) (.seq (.reg [Au 43 (.build [.nil,.nil] []),As 2 2 43,Ac 3 0,Ac 4 2]) .ret) .skip))))
 (.reg [Ad 44 35 1,Am 35 44]))))))) (.seq (.reg [Ag 45 2 8,Am 46 6,An 47 0 46,As 2 2 45,Am 3 47,Ac 4 0]) .ret)))))))
def L0d.r:List Rr:=[.cell 2 (some 2),.tmp 3,.tmp 4]
abbrev L0d.n:Nat:=48
def L0e.c:C :=(.seq (.reg [Ab 4 false]) (.seq (.seq (.reg [Am 5 0,Au 6 (.nck (.t 5)),Af 7 1 6,Al 8 7,An 9 0 8,Am 10 1,An 11 0 10,Aj .add 12 9 11,Ak .gtr 13 12 4096]) (.ite (.t 13) (.seq (.reg [Ab 4 false]) .ret) .skip)) (.seq (.reg [Am 14 0,Am 15 0,Au 16 (.nck (.t 15)),Af 17 1 16,Al 18 17,Am 19 1,Au 20 (.app 3 24 (.t 18) (.t 19)),Au 21 (.nck (.t 14)),Af 22 1 21,As 1 22 20]) (.seq (.reg [Ab 4 true]) .ret))))
def L0e.r:List Rr:=[.tmp 4]
abbrev L0e.n:Nat:=23
def L21.c (L0g L23 L1z L26:FuncId):C :=(.seq (.reg [Au 1 (.box (.t 0)),Az 2,Ac 3 0]) (.seq (.seq (.reg [Ag 16 2 1,Au 17 (.call L0g [.t 16]),Am 4 17]) (.seq (.reg [Am 18 4,Ak .neq 19 18 0]) (.ite (.t 19) (.seq (.reg [Am 20 4,Az 2,Am 3 20]) .ret) .skip))) (.seq (.reg [Ag 21 2 1,Au 22 (.call L23 [.t 21]),Am 5 22]) (.seq (.reg [Ag 23 2 1,Au 24 (.call L1z [.t 23]),Am 6 24]) (.seq (.reg [Au 25 (.mkm none),Am 7 25]) (.seq (.seq (.reg [Am 26 6,An 27 0 26,Ac 28 0]) (.blk 0 (.loop (.seq (.reg [Aj .lss 29 28 27]) (.seq (.ite (.t 29) .skip (.exit 0)) (.seq (.blk 1 (.seq (.reg [Am 30 28,Ai 31 2 26 28,Ag 32 2 31,
 Au 9 (.alloc [(.i .i64 0),(.i .i64 0)]),Am 8 30,As 2 9 32]) (.seq (.seq (.drw [Am 33 5,Ag 34 2 9,Au 35 (.lk [1,1] (.i .i64 0) false (.t 33) (.t 34)),Ak .neq 36 35 1,Am 37 36,Aw 38 37 (.mv (.t 5)),Aw 39 37 (.ld (some 2) (.t 9)),Aw 40 37 (.call L26 [.t 39]),Aw 41 37 (.lk [1,1] (.i .i64 0) false (.t 38) (.t 40)),Aw 42 37 (.bin .neq (.t 41) (.c (.i .i64 0))),Ao 43 37 42,Am 44 43,Aw 45 44 (.mv (.t 8)),Aw 46 44 (.bin .gtr (.t 45) (.c (.i .i64 0))),Aw 47 44 (.mv (.t 46)),Av 48 47 (.mv (.t 6)),Av 49 47 (.mv (.t 8)),Av 50 47 (.bin .sub (.t 49) (.c (.i .i64 1))),Av 51 47 (.ia 2 (.t 48) (.t 50)),Av 52 47 (.fa 0 (.t 51)),
 Av 53 47 (.ld none (.t 52)),Av 54 47 (.fa 0 (.t 9)),Av 55 47 (.ld none (.t 54)),Av 56 47 (.bin .eql (.t 53) (.t 55)),Aw 57 44 (.pick (.t 47) (.t 56) (.c (.b false))),Ao 58 44 57] []) (.ite (.t 58) (.seq (.reg [Az 2,Ac 3 13]) .ret) .skip)) (.reg [Am 59 7,Af 60 1 9,Al 61 60,Af 62 0 9,Al 63 62,⟨none,none,.mup [1] (.t 59) (.t 61) (.t 63)⟩])))) (.reg [Ad 64 28 1,Am 28 64]))))))) (.seq (.reg [Az 10]) (.seq (.reg [Au 65 (.mkm none),Am 11 65]) (.seq (.seq (.reg [Am 66 6,An 67 0 66,Ac 68 0]) (.blk 2 (.loop (.seq (.reg [Aj .lss 69 68 67]) (.seq (.ite (.t 69) .skip (.exit 2)) (.seq (.blk 3 (.seq (.reg [
 Ai 70 2 66 68,Ag 71 2 70,Au 13 (.alloc [(.i .i64 0),(.i .i64 0)]),As 2 13 71]) (.seq (.seq (.reg [Am 72 11,Af 73 0 13,Al 74 73,Au 75 (.lk [1] (.b false) false (.t 72) (.t 74))]) (.ite (.t 75) (.exit 3) .skip)) (.seq (.reg [Az 14]) (.seq (.seq (.reg [Af 76 0 13,Al 77 76,Am 15 77]) (.blk 4 (.loop (.seq (.seq (.reg [Am 78 11,Am 79 15,Au 80 (.lk [1] (.b false) false (.t 78) (.t 79)),Au 81 (.un .not (.t 80))]) (.ite (.t 81) .skip (.exit 4))) (.seq (.blk 5 (.seq (.reg [Am 85 11,Am 86 15,⟨none,none,.mup [1] (.t 85) (.t 86) (.c (.b true))⟩]) (.reg [Am 87 14,Am 88 15,Au 89 (.bsi 1 1 [(.i .i64 0)] [(0,(.t 88))]),
 Au 90 (.app 1 8 (.t 87) (.t 89)),Am 14 90]))) (.reg [Am 82 7,Am 83 15,Au 84 (.lk [1] (.i .i64 0) false (.t 82) (.t 83)),Am 15 84])))))) (.reg [Am 91 10,Am 92 14,Au 93 (.bso 1 1 [.nil] [(0,(.t 92))]),Au 94 (.app 1 24 (.t 91) (.t 93)),Am 10 94])))))) (.reg [Ad 95 68 1,Am 68 95]))))))) (.seq (.reg [Am 96 10,Am 2 96,Ac 3 0]) .ret))))))))))
def L21.r:List Rr:=[.tmp 2,.tmp 3]
abbrev L21.n:Nat:=97
theorem Q5u:∀{l k:List P2},l.Nodup->(∀a∈l,a∈k)->l.length<=k.length
 | [],k,_,_=>by simp
 | x::l,k,hn,hs=>by
   have hc:=List.nodup_cons.1 hn
   have hx:=hs x (by simp)
   have:=Q5u (l:=l) (k:=k.erase x) hc.2 (λa ha=>by
    have hne:a≠x:=by rintro rfl;exact hc.1 ha
    exact(List.mem_erase_of_ne hne).2 (hs a (by simp[ha])))
   rw[List.length_erase_of_mem hx]at this
   have:=List.length_pos_of_mem hx
   simp only[List.length_cons];omega
theorem Q6r {n:Nat} {h l:List O} (hc:∀o∈h,o.cl n):WeakH n (h++l) h:=by
 have:=Qs (n:=n) (a:=l) (b:=[]) hc (by cases l<;>trivial)
 rwa [List.append_nil]at this
theorem Yx {h l:List O} {id:Nat} {o:O} (ho:h[id]?=some o):(h++l)[id]?=some o:=by
 rw[qd (q8.1 ho).1,ho]
theorem Ey {h:List O} (l:List O) {id:Nat} (hid:id<h.length) (o:O):(h++l).set id o=h.set id o++l:=List.set_append_left _ _ hid
theorem Qh5 {h:List O} {id g sz n:Nat} {els:List (List V)} (ho:h[id]?=some (.arr g sz els)) (hn:els.length=n) (hd:∀el∈els,∀x∈el,x.isD=true) {vs us:List V} (hr:X8 h vs=some us) :
  X8 h (.own id g 0 n::vs)=some (.l sz els::us):=by
 subst hn
 have ha:(els.all λx=>x.all V.isD)=true:=by rw[qj];exact λel hel=>qj.2 (hd el hel)
 have h1:frz h (.own id g 0 els.length)=some (.l sz els):=by simp[frz,Ji,ho,ha]
 unfold X8 at hr ⊢
 simp[h1,hr]
def Mesh.edgesL (m:Mesh):List P2:=if m.check=0 then E6 ((Qc m.tris).map P2.und) else []
theorem Qd {α:Type} {l:List α} {k:Nat} {x:α} (h:l[k]?=some x):l.take (k+1)=l.take k++[x]:=by rw[List.take_add_one,h];rfl
structure PolyOk (ps:List (List P2)):Prop where
 num:ps.length<=4096
 cnt:(ps.flatMap Za).length<=4096
 bd:EgB (ps.flatMap Za) 65536
theorem Qe6 (ps:List (List P2)) (p:List P2):((ps++[p]).flatMap Za).length=(ps.flatMap Za).length+p.length:=by
 rw[List.flatMap_append,j4]
 simp[Kz]
theorem Qm4 (ps:List (List P2)) (k:Nat):((ps.take k).flatMap Za).length<=(ps.flatMap Za).length:=by
 conv=>rhs;rw[<- List.take_append_drop k ps]
 rw[List.flatMap_append,j4]
 omega
theorem PolyOk.len {ps:List (List P2)} (h:PolyOk ps) {k:Nat} {p:List P2} (hp:ps[k]?=some p):((ps.take k).flatMap Za).length+p.length<=4096:=by
 have h1:=Qm4 ps (k+1)
 rw[Qd hp,Qe6]at h1
 have:=h.cnt
 omega
theorem PolyOk.pt {ps:List (List P2)} (h:PolyOk ps) {p:List P2} (hp:p∈ps) {v:P2} (hv:v∈p):(-65536<=v.x/\v.x<=65536)/\-65536<=v.y/\v.y<=65536:=by
 rw[<- Ql6 p]at hv
 obtain⟨e,he,rfl⟩:=qp.1 hv
 obtain⟨a,b,_⟩:=h.bd e (jm.2 ⟨p,hp,he⟩)
 exact⟨a,b⟩
def Qca (P:Program) (f:FuncId):Prop:=∀(ps:List (List P2)) (k:Int),PolyOk ps->CallIs P f [Qw ps,.i .i64 k] (.i .i64 (if Xn k 32 1024 then 0 else 1))
def Qtd (P:Program) (f:FuncId):Prop:=∀a b:E5,E5B a->E5B b->CallIs P f [.a a.cs,.a b.cs] (.i .i64 (a.lo.y-b.lo.y))
def StB (s:Int × Int):Prop:=(-100000000000<=s.1/\s.1<=100000000000)/\-1<=s.2/\s.2<=1
def stC (s:Int × Int):List V:=[.i .i64 s.1,.i .i64 s.2]
def Qtc (P:Program) (f:FuncId):Prop:=∀a b:Int × Int,StB a->StB b->CallIs P f [.a (stC a),.a (stC b)] (.i .i64 (b.1-a.1))
section
variable {P:Program} (hm:P.follows .mixedOrders=true)
include hm
theorem Q05 {f:FuncId} (hf:Qa P f L0z.c L0z.r L0z.n):Qtd P f:=by
 intro a b ha hb
 obtain⟨_,_,a1,a2,_,_,_,_,_,_,_⟩:=ha
 obtain⟨_,_,b1,b2,_,_,_,_,_,_,_⟩:=hb
 refine PureC.is (Q8 hm hf (qh rfl) ?_) rfl
 unfold L0z.c
 have w:=Q3 (z:=a.lo.y-b.lo.y) (by omega) (by omega)
 simp[go_sem,E5.cs,w,L0z.r]
theorem Q37 {f:FuncId} (hf:Qa P f L11.c L11.r L11.n):Qtc P f:=by
 intro a b ha hb
 obtain⟨⟨a1,a2⟩,_⟩:=ha
 obtain⟨⟨b1,b2⟩,_⟩:=hb
 refine PureC.is (Q8 hm hf (qh rfl) ?_) rfl
 unfold L11.c
 have w:=Q3 (z:=b.1-a.1) (by omega) (by omega)
 simp[go_sem,stC,w,L11.r]
theorem Q3a {f:FuncId} (hf:Qa P f L0w.c L0w.r L0w.n):Qca P f:=by
 intro ps k hps
 have hpl:=hps.num
 refine PureC.is (Q8 hm hf (qh rfl) ?_) rfl
 unfold L0w.c
 by_cases hlo:k<32
 ·have he:Xn k 32 1024=false:=by unfold Xn;simp[show ¬ 32<=k by omega]
  simp[go_sem,hlo,he,L0w.r]
 by_cases hhi:1024<k
 ·have he:Xn k 32 1024=false:=by unfold Xn;simp[show ¬ k<=1024 by omega]
  simp[go_sem,hlo,hhi,he,L0w.r]
 have ht:k.tmod 2=k % 2:=jn (by omega)
 by_cases hev:k % 2=0
 case neg =>
  have he:Xn k 32 1024=false:=by unfold Xn;simp[hev]
  have hb:(k.tmod 2 != 0)=true:=by rw[ht];simpa using hev
  have w:=Q3 (z:=k.tmod 2) (by omega) (by omega)
  rw[ht]at w hb
  simp[go_sem,hlo,hhi,ht,w,hb,hev,he,L0w.r]
  done
 have he:Xn k 32 1024=true:=by unfold Xn;simp[hev];omega
 simp[go_sem,hlo,hhi,ht,hev,he,Qw]
 obtain⟨tot,htot⟩:∃tot:Nat->Nat,∀i,tot i=((ps.take i).flatMap Za).length:=⟨_,λ_=>rfl⟩
 have htot0:tot 0=0:=by rw[htot];rfl
 refine Qf (α:=Nat) (λi=>i<=ps.length)
  (λi=>⟨[(0,Qw ps),(5,.i .i64 (tot i)),(23,Qw ps),(24,.i .i64 ps.length),(25,.i .i64 i)],[]⟩)
  (λi=>ps.length-i) 0 (Nat.zero_le _) ?_ ?_
 ·simp[go_sem,Qw,htot0]
 ·intro i hi
  by_cases hil:i=ps.length
  case neg =>
   have hlt:i<ps.length:=by omega
   have hq:ps[i]?=some ps[i]:=q9 hlt
   have hln:=hps.len hq
   have hft:=Qe6 (ps.take i) ps[i]
   rw[<- Qd hq,<- htot,<- htot]at hft
   rw[<- htot]at hln
   generalize ps[i]=p at *
   obtain⟨_,hq'⟩:=q8.1 hq
   simp (disch:=omega) [go_sem,Qw,psV,hlt,hq,hq',Q3]
   exact⟨i+1,by omega,by omega,by omega,by omega⟩
  subst hil
  have hcnt:=hps.cnt
  have hN:=htot ps.length
  rw[qi]at hN
  rw[<- hN]at hcnt
  generalize tot ps.length=N at *
  simp[go_sem,Qw,show ¬ (16384:Int)<N by omega]
  refine Qf (α:=Nat) (λi=>i<=ps.length)
   (λi=>⟨[(37,Qw ps),(38,.i .i64 ps.length),(39,.i .i64 i)],[]⟩)
   (λi=>ps.length-i) 0 (Nat.zero_le _) ?_ ?_
  ·simp[go_sem,Qw]
  intro i hi
  by_cases hil:i=ps.length
  ·subst hil
   simp[go_sem,Qw,L0w.r]
  have hlt:i<ps.length:=by omega
  have hq:ps[i]?=some ps[i]:=q9 hlt
  have hln:=hps.len hq
  have hpt:∀v∈ps[i],_:=λv hv=>hps.pt (qb hq) hv
  generalize ps[i]=p at *
  obtain⟨_,hq'⟩:=q8.1 hq
  simp (disch:=omega) [go_sem,Qw,psV,hlt,hq,hq',Q3]
  refine Qf (α:=Nat) (λj=>j<=p.length)
   (λj=>⟨[(37,Qw ps),(38,.i .i64 ps.length),(39,.i .i64 i),(44,.l 2 (p.map P2.cs)),(45,.i .i64 p.length),(46,.i .i64 j)],[]⟩)
   (λj=>p.length-j) 0 (Nat.zero_le _) ?_ ?_
  ·simp[go_sem,Qw,psV]
  intro j hj
  by_cases hjl:j=p.length
  ·subst hjl
   simp (disch:=omega) [go_sem,Qw,psV,Q3]
   exact⟨i+1,by omega,by omega,by omega⟩
  have hjt:j<p.length:=by omega
  have hv:p[j]?=some p[j]:=q9 hjt
  have hvb:=hpt _ (qb hv)
  generalize p[j]=v at *
  obtain⟨_,hv'⟩:=q8.1 hv
  simp (disch:=omega) [go_sem,Qw,hjt,hv,hv',P2.cs,show ¬ v.x < -65536 by omega,show ¬ 65536<v.x by omega,show ¬ v.y < -65536 by omega,show ¬ 65536<v.y by omega,Q3]
  exact⟨j+1,by omega,by omega,by omega⟩
end
abbrev Qu2:={ e:E5 // E5B e }
instance:Inhabited Qu2:=⟨⟨⟨⟨0,0⟩,⟨0,1⟩,0⟩,by constructor<;>decide⟩⟩
def Q9f (a b:Qu2):Int:=a.1.lo.y-b.1.lo.y
theorem Qmq:Go.Sort.SWO (ltC Q9f) where
 irrefl x:=by unfold ltC Q9f;simp
 trans x y z:=by unfold ltC Q9f;simp only[decide_eq_true_eq];omega
 ntrans x y z:=by unfold ltC Q9f;simp only[decide_eq_false_iff_not];omega
theorem Qs5 (l:List E5):∀e∈l,∀y∈e.cs,y.isD=true:=λe _ y hy=>by
 simp[E5.cs]at hy
 rcases hy with rfl | rfl | rfl | rfl | rfl<;>rfl
theorem Q6i (l:List E5) (n:Nat):∀e∈l,∀y∈e.cs,y.cl n=true:=λe he y hy=>Wt n (Qs5 l e he y hy)
def Kp (es:List Eg):List E5:=es.filterMap Bg
theorem Qdl (a b:List Eg):Kp (a++b)=Kp a++Kp b:=List.filterMap_append
theorem Qq2 (e:Eg):Kp [e]=(Bg e).toList:=by
 unfold Kp
 rw[List.filterMap_cons]
 cases Bg e<;>rfl
theorem Q0n (a:List Eg):(Kp a).length<=a.length:=List.length_filterMap_le _ _
def Qc8 (P:Program) (f:FuncId):Prop:=∀ps:List (List P2),PolyOk ps->∃l:List E5,l.Perm (Kp (ps.flatMap Za))/\l.Pairwise (λa b=>a.lo.y<=b.lo.y)/\CallIs P f [Qw ps] (e5V l)
section
variable {P:Program} (hm:P.follows .mixedOrders=true)
include hm
theorem Q38 {f fs fc:FuncId} (hf:Qa P f (L0y.c fs fc) L0y.r L0y.n) (hs:Wc P fs 5) (hc:Qtd P fc) (hcal:Z3 P fc=true):Qc8 P f:=by
 intro ps hps
 have hpl:=hps.num
 have hcnt:=hps.cnt
 have hLB:∀e∈Kp (ps.flatMap Za),E5B e:=λe he=>Qgq hps.bd he
 have hLl:=Q0n (ps.flatMap Za)
 obtain⟨ys,hperm,hup,hcall⟩:=hs (λr:Qu2=>r.1.ints) (λ_=>rfl) Q9f Qmq fc hcal (λa b=>hc a.1 b.1 a.2 b.2) ((Kp (ps.flatMap Za)).pmap Subtype.mk hLB) (by rw[List.length_pmap];omega)
 have hxs:((Kp (ps.flatMap Za)).pmap Subtype.mk hLB).map Subtype.val=Kp (ps.flatMap Za):=by rw[List.map_pmap];simp
 have hp2:=hperm.map Subtype.val
 rw[hxs]at hp2
 refine⟨ys.map Subtype.val,hp2,?_,?_⟩
 ·rw[je]
  refine hup.imp λ{a b} h=>?_
  unfold ltC Q9f at h
  simp only[decide_eq_false_iff_not]at h
  omega
 have hyl:(ys.map Subtype.val).length=(Kp (ps.flatMap Za)).length:=hp2.length_eq
 have hyy:ys.map (λx:Qu2=>x.1.ints.map (V.i .i64))=(ys.map Subtype.val).map E5.cs:=by rw[List.map_map];rfl
 have hxx:((Kp (ps.flatMap Za)).pmap Subtype.mk hLB).map (λx:Qu2=>x.1.ints.map (V.i .i64))=(Kp (ps.flatMap Za)).map E5.cs:=by
  conv=>rhs;rw[<- hxs]
  rw[List.map_map];rfl
 rw[hyy,hxx]at hcall
 rw[List.length_pmap]at hcall
 generalize ys.map Subtype.val=zs at *
 clear hup hperm hxs hxx hyy hLB
 obtain⟨A,hA⟩:∃A:Nat->List E5,∀i,A i=Kp ((ps.take i).flatMap Za):=⟨_,λ_=>rfl⟩
 have hA0:A 0=[]:=by rw[hA];rfl
 have hAn:A ps.length=Kp (ps.flatMap Za):=by rw[hA,qi]
 refine PureC.is (Q8 hm hf (qh rfl) ?_) rfl
 unfold L0y.c
 simp[go_sem,Qw]
 refine Z5 [.t 3 5] (α:=Nat) (λi=>i<=ps.length)
  (λi=>⟨[(3,.own 0 ((A i).length+1) 0 (A i).length),(9,Qw ps),(10,.i .i64 ps.length),(11,.i .i64 i)],[.arr ((A i).length+1) 5 ((A i).map E5.cs)]⟩)
  (λi=>ps.length-i) 0 (Nat.zero_le _) ?_ ?_
 ·simp[go_sem,Qw,hA0]
 ·intro i hi
  by_cases hil:i=ps.length
  ·subst hil
   rw[hAn]
   simp[go_sem,Qw]
   refine Yh (hcall _ 0 _ rfl) ?_
   have hd:=Qs5 zs
   have ht:List.take (Kp (ps.flatMap Za)).length (zs.map E5.cs)=zs.map E5.cs:=qe (by rw[List.length_map];omega)
   simp[go_sem,L0y.r,e5V,hyl,ht]
   rw[if_pos hd];rfl
  ·have hlt:i<ps.length:=by omega
   have hq:ps[i]?=some ps[i]:=q9 hlt
   have hln:=hps.len hq
   have hAs:A (i+1)=A i++Kp (Za ps[i]):=by rw[hA,hA,Qd hq,List.flatMap_append,Qdl];simp
   have hAl:=Q0n ((ps.take i).flatMap Za)
   rw[<- hA]at hAl
   generalize ps[i]=p at *
   obtain⟨_,hq'⟩:=q8.1 hq
   generalize A i=B at *
   simp (disch:=omega) [go_sem,Qw,psV,hlt,hq,hq',Q3]
   obtain⟨C,hC⟩:∃C:Nat->List E5,∀j,C j=B++Kp (Ie p j):=⟨_,λ_=>rfl⟩
   refine Qf (α:=Nat) (λj=>j<=p.length)
    (λj=>⟨[(3,.own 0 ((C j).length+1) 0 (C j).length),(5,.p 1 1 0 0),(9,Qw ps),(10,.i .i64 ps.length),(11,.i .i64 i),(16,psV p),(17,.i .i64 p.length),(18,.i .i64 j)],[.arr ((C j).length+1) 5 ((C j).map E5.cs),.arr 1 1 [[psV p]]]⟩)
    (λj=>p.length-j) 0 (Nat.zero_le _) ?_ ?_
   ·have hC0:C 0=B:=by rw[hC];simp[Ie,Kp]
    simp[go_sem,Qw,psV,hC0]
    exact Q6i B _
   ·intro j hj
    by_cases hjl:j=p.length
    ·subst hjl
     have hCn:C p.length=A (i+1):=by rw[hC,Ql5,hAs]
     rw[hCn]
     simp (disch:=omega) [go_sem,Qw,psV,Q3]
     exact⟨i+1,by omega,by omega,⟨rfl,by omega⟩,⟨rfl,rfl⟩,Q6i _ _⟩
    ·have hjt:j<p.length:=by omega
     have hCl:(C j).length<=4096:=by
      have h1:=Q0n (Ie p j)
      have h2:(Ie p j).length<=p.length:=by unfold Ie;rw[qw,Kz];omega
      rw[hC,j4];omega
     obtain⟨j2,a,b,hj2,hrem,ha,hb,hCs⟩:∃(j2:Nat) (a b:P2),j2<p.length/\((j:Int)+1).tmod (p.length:Int)=(j2:Int)/\p[j]?=some a/\p[j2]?=some b/\C (j+1)=C j++(Bg (a,b)).toList:=by
      have hm2:(j+1) % p.length<p.length:=Nat.mod_lt _ (by omega)
      refine⟨(j+1) % p.length,p[j],p[(j+1) % p.length],hm2,?_,q9 hjt,q9 hm2,?_⟩
      ·rw[jn (by omega)];simp
      ·rw[hC,hC,Qg2 hjt,Qdl,<- j3,Qq2]
     obtain⟨_,ha'⟩:=q8.1 ha
     obtain⟨_,hb'⟩:=q8.1 hb
     have htc:List.take (C j).length ((C j).map E5.cs)=(C j).map E5.cs:=qe (by simp)
     have hp0:¬ p=[]:=by rintro rfl;simp at hjt
     unfold Bg at hCs
     simp only[]at hCs
     by_cases hab:a.y<b.y
     ·rw[if_pos hab]at hCs
      simp (disch:=omega) [go_sem,Qw,psV,hjt,ha,ha',hb,hb',hj2,hrem,hp0,P2.cs,hab,htc,Q3]
      exact⟨⟨by omega,by omega⟩,j+1,by omega,by omega,⟨by rw[hCs];simp,by omega⟩,⟨by rw[hCs];simp,by rw[hCs];simp[E5.cs]⟩,Q6i _ _⟩
     ·rw[if_neg hab]at hCs
      by_cases hba:b.y<a.y
      ·rw[if_pos hba]at hCs
       simp (disch:=omega) [go_sem,Qw,psV,hjt,ha,ha',hb,hb',hj2,hrem,hp0,P2.cs,hab,hba,htc,Q3]
       exact⟨⟨by omega,by omega⟩,j+1,by omega,by omega,⟨by rw[hCs];simp,by omega⟩,⟨by rw[hCs];simp,by rw[hCs];simp[E5.cs]⟩,Q6i _ _⟩
      ·rw[if_neg hba]at hCs
       simp at hCs
       simp (disch:=omega) [go_sem,Qw,psV,hjt,ha,ha',hb,hb',hj2,hrem,hp0,P2.cs,hab,hba,htc,Q3]
       exact⟨j+1,by omega,by omega,⟨by rw[hCs],by omega⟩,⟨by rw[hCs],by rw[hCs]⟩,Q6i _ _⟩
end
end Go.Abs
