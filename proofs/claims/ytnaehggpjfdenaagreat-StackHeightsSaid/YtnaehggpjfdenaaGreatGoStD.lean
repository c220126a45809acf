/- Part of the library on which the proof stands: an abstract machine, its values and its soundness against the model; or what functions of the program do to such values. -/
import Derived.Test.YtnaehggpjfdenaaGreatGoShpN
import Derived.Test.YtnaehggpjfdenaaGreatGoMapG
import Derived.Test.YtnaehggpjfdenaaGreatGoShpD
import Derived.Test.YtnaehggpjfdenaaGreatGoRsD
import Derived.Test.YtnaehggpjfdenaaGreatGoShp
set_option linter.unusedVariables false
set_option linter.unusedSimpArgs false
namespace Go.Abs
noncomputable def Mesh.inv (m:Mesh):Bool:=m.shells.any λsh=>decide (Yx m.verts (Zj m.tris sh)<0)
noncomputable def Wj (m:Mesh):Int :=
 if m.check≠0 then m.check else if m.closed=false then 12 else if Q0i m.tris=false then 13 else if m.tris.any m.deg=true then 1 else if m.inv=true then 1 else 0
structure Snd (m:Mesh):Prop where
 z:m.check=0
 clo:m.closed=true
 coh:Coh m.tris
 deg:∀t∈m.tris,m.deg t=false
 vol:∀sh∈m.shells,0<=Yx m.verts (Zj m.tris sh)
theorem snd_iff {m:Mesh}:Wj m=0↔Snd m:=by
 unfold Wj
 constructor
 ·intro h
  by_cases h1:m.check=0
  case neg=>rw[if_pos h1]at h;exact absurd h h1
  rw[if_neg (by simpa using h1)]at h
  by_cases h2:m.closed=false
  case pos=>rw[if_pos h2]at h;simp at h
  rw[if_neg h2]at h
  by_cases h3:Q0i m.tris=false
  case pos=>rw[if_pos h3]at h;simp at h
  rw[if_neg h3]at h
  by_cases h4:m.tris.any m.deg=true
  case pos=>rw[if_pos h4]at h;simp at h
  rw[if_neg h4]at h
  by_cases h5:m.inv=true
  case pos=>rw[if_pos h5]at h;simp at h
  refine⟨h1,by simpa using h2,cohB_iff.1 (by simpa using h3),?_,?_⟩
  ·intro t ht
   cases hd:m.deg t with
   | false=>rfl
   | true=>exact absurd (List.any_eq_true.2 ⟨t,ht,hd⟩) h4
  ·intro sh hs
   by_cases hn:Yx m.verts (Zj m.tris sh)<0
   ·exact absurd (List.any_eq_true.2 ⟨sh,hs,by simpa using hn⟩) h5
   ·omega
 ·intro h
  have h4:m.tris.any m.deg=false:=by
   rw[List.any_eq_false];intro t ht;rw[h.deg t ht];simp
  have h5:m.inv=false:=by
   unfold Mesh.inv
   rw[List.any_eq_false];intro sh hs;have:=h.vol sh hs;simp;omega
  rw[if_neg (by simpa using h.z),if_neg (by rw[h.clo];simp),if_neg (by rw[cohB_iff.2 h.coh];simp),if_neg (by rw[h4];simp),if_neg (by rw[h5];simp)]
def Q8c (top h:Int):Nat:=((top-h / 2+h-1) / h).toNat
theorem Q8b {top h:Int} (hh:0<h) {i:Nat}:i<Q8c top h↔(i:Int)*h+h / 2<top:=by
 unfold Q8c
 have h1:(i:Int)<(top-h / 2+h-1) / h↔(i:Int)*h<top-h / 2:=by
  rw[show ((i:Int)<(top-h / 2+h-1) / h)↔((i:Int)+1<=(top-h / 2+h-1) / h) from Iff.rfl,Int.le_ediv_iff_mul_le hh]
  have:((i:Int)+1)*h=i*h+h:=by grind
  rw[this];omega
 rw[show ((i:Int)*h+h / 2<top)↔((i:Int)*h<top-h / 2) by omega,<- h1]
 omega
def Xt (h:Int) (n:Nat):List Int:=(List.range n).map λ(i:Nat)=>(i:Int)*h+h / 2
theorem Q0d (h:Int) (n:Nat):Xt h (n+1)=Xt h n++[(n:Int)*h+h / 2]:=by simp[Xt,List.range_succ]
theorem K9 (h:Int) (n:Nat):(Xt h n).length=n:=by simp[Xt]
def El (top h:Int):List Int × Int:=if Zh h 4 1024=false then ([],1) else if 256<Q8c top h then ([],2) else (Xt h (Q8c top h),0)
theorem Q40 (top h:Int):(El top h).1.length<=256:=by
 unfold El
 split
 ·simp
 ·split
  ·simp
  ·rename_i h1
   simp only[K9];omega
def Q5t (u:V3) (l:List V3):V3:=l.foldl (λa w=>⟨min a.x w.x,min a.y w.y,min a.z w.z⟩) u
def Q0l (u:V3) (l:List V3):V3:=l.foldl (λa w=>⟨max a.x w.x,max a.y w.y,max a.z w.z⟩) u
def bLo:List V3->V3
 | []=>⟨0,0,0⟩
 | v::l=>Q5t v (v::l)
def bHi:List V3->V3
 | []=>⟨0,0,0⟩
 | v::l=>Q0l v (v::l)
theorem Qjf (u:V3) (l:List V3) (w:V3):Q5t u (l++[w])=⟨min (Q5t u l).x w.x,min (Q5t u l).y w.y,min (Q5t u l).z w.z⟩:=by simp[Q5t]
theorem Qjg (u:V3) (l:List V3) (w:V3):Q0l u (l++[w])=⟨max (Q0l u l).x w.x,max (Q0l u l).y w.y,max (Q0l u l).z w.z⟩:=by simp[Q0l]
def mxF (f:V3->Int) (a:Int) (l:List V3):Int:=l.foldl (λa w=>max a (f w)) a
theorem Qm3 (f:V3->Int):∀(l:List V3) (a:Int),a<=mxF f a l/\(∀w∈l,f w<=mxF f a l)/\(mxF f a l=a∨∃w∈l,mxF f a l=f w)
 | [],a=>⟨Int.le_refl _,by simp,.inl rfl⟩
 | v::l,a=>by
   have e:mxF f a (v::l)=mxF f (max a (f v)) l:=rfl
   obtain⟨h1,h2,h3⟩:=Qm3 f l (max a (f v))
   rw[e]
   refine⟨by clear h3;omega,λw hw=>?_,?_⟩
   ·rcases List.mem_cons.1 hw with rfl | hw
    ·clear h3;omega
    ·exact h2 w hw
   ·rcases h3 with h3 | ⟨w,hw,h3⟩
    ·rw[h3]
     by_cases c:f v<=a
     ·exact .inl (by omega)
     ·exact .inr ⟨v,by simp,by omega⟩
    ·exact .inr ⟨w,by simp[hw],h3⟩
theorem Qox:∀(l:List V3) (u:V3),(Q0l u l).x=mxF V3.x u.x l/\(Q0l u l).y=mxF V3.y u.y l/\(Q0l u l).z=mxF V3.z u.z l
 | [],u=>⟨rfl,rfl,rfl⟩
 | v::l,u=>Qox l ⟨max u.x v.x,max u.y v.y,max u.z v.z⟩
noncomputable def Kg (m:Mesh) (k:Int):List Int->List (List Rw) × Int
 | []=>([],0)
 | z::zs=>if (Zb m z k).2≠0 then ([],(Zb m z k).2) else if (Kg m k zs).2≠0 then ([],(Kg m k zs).2) else ((Zb m z k).1::(Kg m k zs).1,0)
noncomputable def Jc (m:Mesh) (k h:Int):List (List Rw) × Int :=
 if Wj m≠0 then ([],Wj m) else if m.verts=[] then ([],0) else if (bLo m.verts).z<0 then ([],8) else if (El (bHi m.verts).z h).2≠0 then ([],(El (bHi m.verts).z h).2) else Kg m k (El (bHi m.verts).z h).1
def atR (l:List (List Rw)) (i:Nat):List Rw:=(l[i]?).getD []
noncomputable def Q2l (all l:List (List Rw)):List (List Rw):=(List.range (max all.length l.length)).map λi=>K0 (atR all i) (atR l i)
noncomputable def Q4d (k h:Int):List (List Rw)->List Mesh->List (List Rw) × Int
 | acc,[]=>(acc,0)
 | acc,m::ms=>if (Jc m k h).2≠0 then ([],(Jc m k h).2) else Q4d k h (Q2l acc (Jc m k h).1) ms
noncomputable def Ws (ms:List Mesh) (k h:Int):List (List Rw) × Int:=if Zh k 32 1024=false∨Zh h 4 1024=false then ([],1) else Q4d k h [] ms
def Ky (l:List (List Rw)):Prop:=∀g∈l,RgV g/\RgB g
theorem Ql7 (m:Mesh) (k:Int):∀zs,Ky (Kg m k zs).1/\(Kg m k zs).1.length<=zs.length
 | []=>by simp[Kg,Ky]
 | z::zs=>by
   have ih:=Ql7 m k zs
   unfold Kg
   split
   ·simp[Ky]
   ·split
    ·simp[Ky]
    ·refine⟨λg hg=>?_,by simp;exact ih.2⟩
     rcases List.mem_cons.1 hg with rfl | hg
     ·exact Ql8 m z k
     ·exact ih.1 g hg
theorem partR_v (m:Mesh) (k h:Int):Ky (Jc m k h).1/\(Jc m k h).1.length<=256:=by
 unfold Jc
 split
 ·simp[Ky]
 ·split
  ·simp[Ky]
  ·split
   ·simp[Ky]
   ·split
    ·simp[Ky]
    ·have h1:=Ql7 m k (El (bHi m.verts).z h).1
     have h2:=Q40 (bHi m.verts).z h
     exact⟨h1.1,by omega⟩
theorem Qoy {l:List (List Rw)} (h:Ky l) (i:Nat):RgV (atR l i)/\RgB (atR l i):=by
 unfold atR
 cases hq:l[i]? with
 | none=>exact⟨RgV.nil,RgB.nil⟩
 | some g=>exact h g (qb hq)
theorem uniL_v (a l:List (List Rw)):Ky (Q2l a l):=λg hg=>by
 unfold Q2l at hg
 obtain⟨i,_,rfl⟩:=qo.1 hg
 exact⟨W1 _ _,Qcq _ _⟩
theorem Q2k (a l:List (List Rw)):(Q2l a l).length=max a.length l.length:=by simp[Q2l]
theorem Qa2 {a l:List (List Rw)} {i:Nat} (h:i<max a.length l.length):(Q2l a l)[i]?=some (K0 (atR a i) (atR l i)):=by
 unfold Q2l
 rw[qp,jh h];rfl
theorem Qgq {g:List Rw} (hg:RgV g) (hb:RgB g):K0 g []=g :=
 (W1 g []).ext hg λy x=>by
  rw[Q2a hb RgB.nil]
  constructor
  ·rintro (h | ⟨w,hw,_⟩)
   ·exact h
   ·simp at hw
  ·exact .inl
theorem Qkj {l:List (List Rw)} (h:Ky l):Q2l [] l=l:=by
 refine qx λi=>?_
 by_cases hi:i<l.length
 ·rw[Qa2 (by simp;exact hi)]
  have hq:l[i]?=some l[i]:=q9 hi
  obtain⟨h1,h2⟩:=h _ (qb hq)
  have e1:atR [] i=[]:=rfl
  have e2:atR l i=l[i]:=by unfold atR;rw[hq];rfl
  rw[e1,e2,Qa1 h1 h2,hq]
 ·rw[qk (by rw[Q2k];simp;omega),qk (by omega)]
theorem Qca {k h:Int}:∀{ms:List Mesh} {acc:List (List Rw)},(Q4d k h acc ms).2≠0->(Q4d k h acc ms).1=[]
 | [],acc,hh=>absurd rfl hh
 | m::ms,acc,hh=>by
   unfold Q4d at hh ⊢
   split
   ·rfl
   ·rename_i h1
    rw[if_neg h1]at hh
    exact Qca hh
theorem I3 {m:Mesh} {k:Int}:∀{zs:List Int},(∀z∈zs,(Zb m z k).2=0)->Kg m k zs=(zs.map λz=>(Zb m z k).1,0)
 | [],_=>rfl
 | z::zs,h=>by
   unfold Kg
   rw[if_neg (by simp[h z (by simp)]),I3 λy hy=>h y (by simp[hy])]
   simp
theorem Qah {m:Mesh} {k:Int}:∀{zs:List Int} {i:Nat} {z:Int},zs[i]?=some z->(∀x∈zs.take i,(Zb m x k).2=0)->(Zb m z k).2≠0->Kg m k zs=([],(Zb m z k).2)
 | [],i,z,h,_,_=>by simp at h
 | y::zs,0,z,h,_,he=>by
   simp at h
   subst h
   unfold Kg
   rw[if_pos he]
 | y::zs,i+1,z,h,hp,he=>by
   have ih:=Qah (m:=m) (k:=k) (zs:=zs) (i:=i) (by simpa using h) (λx hx=>hp x (by simp[hx])) he
   unfold Kg
   rw[if_neg (by simp[hp y (by simp)]),ih,if_pos he]
def L1x.c:C :=(.seq (.reg [Ab 6 false]) (.seq (.reg [Am 7 0,Am 8 1,Aj .geq 9 7 8,Am 10 9,Av 11 10 (.mv (.t 0)),Av 12 10 (.mv (.t 2)),Av 13 10 (.bin .leq (.t 11) (.t 12)),Ap 14 10 13,Am 15 14,Av 16 15 (.mv (.t 0)),Av 17 15 (.bin .rem (.t 16) (.c (.i .i64 2))),Av 18 15 (.bin .eql (.t 17) (.c (.i .i64 0))),Ap 19 15 18,Am 6 19]) .ret))
def L1x.r:List Rr:=[.tmp 6]
abbrev L1x.n:Nat:=20
def L1z.c (L0y:FuncId):C :=(.seq (.reg [Au 2 (.alloc [.nil])]) (.seq (.reg [Au 3 (.alloc [.nil])]) (.seq (.seq (.reg [Am 6 0,An 7 0 6,Ac 8 0]) (.blk 0 (.loop (.seq (.reg [Aj .lss 9 8 7]) (.seq (.ite (.t 9) .skip (.exit 0)) (.seq (.blk 1 (.seq (.reg [Ai 10 1 6 8,Ag 11 1 10,Au 5 (.alloc [.nil]),As 1 5 11]) (.reg [Ag 12 1 3,Ag 13 1 5,Au 14 (.call L0y [.t 12,.t 13]),As 1 3 14]))) (.reg [Ad 15 8 1,Am 8 15]))))))) (.seq (.reg [Ag 16 1 3,As 1 2 16]) .ret))))
def L1z.r:List Rr:=[.cell 2 (some 1)]
abbrev L1z.n:Nat:=17
def L1u.c (L1x:FuncId):C :=(.seq (.reg [Az 4,Ac 5 0]) (.seq (.seq (.reg [Am 8 1,Au 9 (.call L1x [.t 8,(.c (.i .i64 4)),(.c (.i .i64 1024))]),Au 10 (.un .not (.t 9))]) (.ite (.t 10) (.seq (.reg [Az 4,Ac 5 1]) .ret) .skip)) (.seq (.reg [Az 6]) (.seq (.seq (.reg [Am 11 1,Ak .quo 12 11 2,Am 7 12]) (.blk 0 (.loop (.seq (.seq (.reg [Am 13 7,Am 14 0,Aj .lss 15 13 14]) (.ite (.t 15) .skip (.exit 0))) (.seq (.blk 1 (.seq (.seq (.reg [Am 19 6,An 20 0 19,Ak .eql 21 20 256]) (.ite (.t 21) (.seq (.reg [Az 4,Ac 5 2]) .ret) .skip)) (.reg [Am 22 6,Am 23 7,Au 24 (.bsi 1 1 [(.i .i64 0)] [(0,(.t 23))]),Au 25 (.app 1 8 (.t 22) (.t 24)),
 Am 6 25]))) (.reg [Am 16 7,Am 17 1,Aj .add 18 16 17,Am 7 18])))))) (.seq (.reg [Am 26 6,Am 4 26,Ac 5 0]) .ret)))))
def L1u.r:List Rr:=[.tmp 4,.tmp 5]
abbrev L1u.n:Nat:=27
def L1v.c (L1x L1i L04 L0l:FuncId):C :=(.seq (.reg [Au 3 (.box (.t 0)),Au 6 (.alloc [.nil]),Ac 7 0]) (.seq (.seq (.reg [Am 11 2,Au 12 (.call L1x [.t 11,(.c (.i .i64 32)),(.c (.i .i64 1024))]),Au 13 (.un .not (.t 12))]) (.ite (.t 13) (.seq (.reg [Au 14 (.build [.nil] []),As 1 6 14,Ac 7 1]) .ret) .skip)) (.seq (.reg [Ag 16 2 3,Am 17 1,Au 18 (.call L1i [.t 16,.t 17]),Am 15 18,Ax1 19 0 15,Ax1 20 1 15,Am 8 19,Am 9 20]) (.seq (.seq (.reg [Am 21 9,Ak .neq 22 21 0]) (.ite (.t 22) (.seq (.reg [Au 23 (.build [.nil] []),Am 24 9,As 1 6 23,Am 7 24]) .ret) .skip)) (.seq (.reg [Am 26 8,Au 27 (.call L04 [.t 26]),
 Am 25 27,Ax1 28 0 25,Ax1 29 1 25,Am 10 28,Am 9 29]) (.seq (.seq (.reg [Am 30 9,Ak .neq 31 30 0]) (.ite (.t 31) (.seq (.reg [Au 32 (.build [.nil] []),Am 33 9,As 1 6 32,Am 7 33]) .ret) .skip)) (.seq (.reg [Am 34 10,Am 35 2,Au 36 (.call L0l [.t 34,.t 35]),Ax1 37 0 36,Ax1 38 1 36,As 1 6 37,Am 7 38]) .ret)))))))
def L1v.r:List Rr:=[.cell 6 (some 1),.tmp 7]
abbrev L1v.n:Nat:=39
def L1y.c (L14 L0b L1u L1v:FuncId):C :=(.seq (.reg [Au 2 (.box (.t 0)),Au 3 (.box (.t 1)),Az 4,Ac 5 0]) (.seq (.seq (.reg [Ag 17 2 2,Au 18 (.call L14 [.t 17]),Am 6 18]) (.seq (.reg [Am 19 6,Ak .neq 20 19 0]) (.ite (.t 20) (.seq (.reg [Am 21 6,Az 4,Am 5 21]) .ret) .skip))) (.seq (.reg [Ag 23 2 2,Au 24 (.call L0b [.t 23]),Am 22 24,Ax1 25 0 22,Ax1 26 1 22,Ax1 27 2 22,Au 7 (.alloc [(.i .i64 0),(.i .i64 0),(.i .i64 0)]),Au 8 (.alloc [(.i .i64 0),(.i .i64 0),(.i .i64 0)]),As 3 7 25,As 3 8 26,Am 9 27]) (.seq (.seq (.reg [Am 28 9,Au 29 (.un .not (.t 28))]) (.ite (.t 29) (.seq (.reg [Az 4,Ac 5 0]) .ret)
 .skip)) (.seq (.seq (.reg [Af 30 2 7,Al 31 30,Ak .lss 32 31 0]) (.ite (.t 32) (.seq (.reg [Az 4,Ac 5 8]) .ret) .skip)) (.seq (.reg [Af 34 2 8,Al 35 34,Af 36 1 3,Al 37 36,Au 38 (.call L1u [.t 35,.t 37]),Am 33 38,Ax1 39 0 33,Ax1 40 1 33,Am 10 39,Am 11 40]) (.seq (.seq (.reg [Am 41 11,Ak .neq 42 41 0]) (.ite (.t 42) (.seq (.reg [Am 43 11,Az 4,Am 5 43]) .ret) .skip)) (.seq (.reg [Az 12]) (.seq (.seq (.reg [Am 44 10,An 45 0 44,Ac 46 0]) (.blk 0 (.loop (.seq (.reg [Aj .lss 47 46 45]) (.seq (.ite (.t 47) .skip (.exit 0)) (.seq (.blk 1 (.seq (.reg [Ai 48 1 44 46,Al 49 48,Am 14 49]) (.seq (.reg [Ag 51 2 2,
 Am 52 14,Af 53 0 3,Al 54 53,Au 55 (.call L1v [.t 51,.t 52,.t 54]),Am 50 55,Ax1 56 0 50,Ax1 57 1 50,Au 15 (.alloc [.nil]),As 1 15 56,Am 16 57]) (.seq (.seq (.reg [Am 58 16,Ak .neq 59 58 0]) (.ite (.t 59) (.seq (.reg [Am 60 16,Az 4,Am 5 60]) .ret) .skip)) (.reg [Am 61 12,Ag 62 1 15,Au 63 (.bso 1 1 [.nil] [(0,(.t 62))]),Au 64 (.app 1 24 (.t 61) (.t 63)),Am 12 64]))))) (.reg [Ad 65 46 1,Am 46 65]))))))) (.seq (.reg [Am 66 12,Am 4 66,Ac 5 0]) .ret))))))))))
def L1y.r:List Rr:=[.tmp 4,.tmp 5]
abbrev L1y.n:Nat:=67
def L1w.c (L1x L1y L1z:FuncId):C :=(.seq (.reg [Au 3 (.box (.t 1)),Az 4,Ac 5 0]) (.seq (.seq (.reg [Af 13 0 3,Al 14 13,Au 15 (.call L1x [.t 14,(.c (.i .i64 32)),(.c (.i .i64 1024))]),Au 16 (.un .not (.t 15)),Am 17 16,Aw 18 17 (.fa 1 (.t 3)),Aw 19 17 (.ld none (.t 18)),Aw 20 17 (.call L1x [.t 19,(.c (.i .i64 4)),(.c (.i .i64 1024))]),Aw 21 17 (.un .not (.t 20)),Ao 22 17 21]) (.ite (.t 22) (.seq (.reg [Az 4,Ac 5 1]) .ret) .skip)) (.seq (.reg [Az 6]) (.seq (.seq (.reg [Am 23 0,An 24 0 23,Ac 25 0]) (.blk 0 (.loop (.seq (.reg [Aj .lss 26 25 24]) (.seq (.ite (.t 26) .skip (.exit 0)) (.seq (.blk 1 (.seq
 (.reg [Ai 27 2 23 25,Ag 28 2 27,Au 8 (.alloc [.nil,.nil]),As 2 8 28]) (.seq (.reg [Ag 30 2 8,Ag 31 20 3,Au 32 (.call L1y [.t 30,.t 31]),Am 29 32,Ax1 33 0 29,Ax1 34 1 29,Am 9 33,Am 10 34]) (.seq (.seq (.reg [Am 35 10,Ak .neq 36 35 0]) (.ite (.t 36) (.seq (.reg [Am 37 10,Az 4,Am 5 37]) .ret) .skip)) (.seq (.reg [Am 38 9,An 39 0 38,Ac 40 0]) (.blk 2 (.loop (.seq (.reg [Aj .lss 41 40 39]) (.seq (.ite (.t 41) .skip (.exit 2)) (.seq (.blk 3 (.seq (.reg [Am 42 40,Ai 43 1 38 40,Ag 44 1 43,Au 12 (.alloc [.nil]),Am 11 42,As 1 12 44]) (.seq (.seq (.reg [Am 45 11,Am 46 6,An 47 0 46,Aj .eql 48 45 47]) (.ite (.t 48)
 (.reg [Am 49 6,Au 50 (.build [.nil] []),Au 51 (.bso 1 1 [.nil] [(0,(.t 50))]),Au 52 (.app 1 24 (.t 49) (.t 51)),Am 6 52]) .skip)) (.drw [Am 53 6,Am 54 11,Am 55 6,Am 56 11,Ai 57 1 55 56,Ag 58 1 57,Ag 59 1 12,Au 60 (.bso 1 2 [.nil] [(0,(.t 58)),(1,(.t 59))]),Au 61 (.call L1z [.t 60]),Ai 62 1 53 54,As 1 62 61] [])))) (.reg [Ad 63 40 1,Am 40 63]))))))))))) (.reg [Ad 64 25 1,Am 25 64]))))))) (.seq (.reg [Am 65 6,Am 4 65,Ac 5 0]) .ret)))))
def L1w.r:List Rr:=[.tmp 4,.tmp 5]
abbrev L1w.n:Nat:=66
def L0b.c (L0c L28:FuncId):C :=(.seq (.reg [Au 1 (.box (.t 0)),Au 2 (.alloc [(.i .i64 0),(.i .i64 0),(.i .i64 0)]),Au 3 (.alloc [(.i .i64 0),(.i .i64 0),(.i .i64 0)]),Ab 4 false]) (.seq (.seq (.reg [Ag 5 2 1,Au 6 (.call L0c [.t 5]),Ak .neq 7 6 0]) (.ite (.t 7) (.seq (.reg [Au 8 (.build [(.i .i64 0),(.i .i64 0),(.i .i64 0)] []),Au 9 (.build [(.i .i64 0),(.i .i64 0),(.i .i64 0)] []),As 3 2 8,As 3 3 9,Ab 4 false]) .ret) .skip)) (.seq (.reg [Af 10 0 1,Al 11 10,Au 12 (.call L28 [.t 11]),Ax1 13 0 12,Ax1 14 1 12,Ax1 15 2 12,As 3 2 13,As 3 3 14,Am 4 15]) .ret)))
def L0b.r:List Rr:=[.cell 2 (some 3),.cell 3 (some 3),.tmp 4]
abbrev L0b.n:Nat:=16
def L28.c (L29:FuncId):C :=(.seq (.reg [Au 2 (.alloc [(.i .i64 0),(.i .i64 0),(.i .i64 0)]),Au 3 (.alloc [(.i .i64 0),(.i .i64 0),(.i .i64 0)]),Ab 4 false]) (.seq (.seq (.reg [Am 10 0,An 11 0 10,Ak .eql 12 11 0]) (.ite (.t 12) (.seq (.reg [Au 13 (.build [(.i .i64 0),(.i .i64 0),(.i .i64 0)] []),Au 14 (.build [(.i .i64 0),(.i .i64 0),(.i .i64 0)] []),As 3 2 13,As 3 3 14,Ab 4 false]) .ret) .skip)) (.seq (.drw [Am 15 0,Au 16 (.ia 3 (.t 15) (.c (.i .i64 0))),Ag 17 3 16,Am 18 0,Au 19 (.ia 3 (.t 18) (.c (.i .i64 0))),Ag 20 3 19,Au 5 (.alloc [(.i .i64 0),(.i .i64 0),(.i .i64 0)]),Au 6 (.alloc [(.i .i64 0),(.i .i64 0),(.i .i64 0)]),
 As 3 5 17,As 3 6 20] [[],[],[],[],[],[],[],[],[4,5],[]]) (.seq (.reg [Au 7 (.mv (.c (.f L29 [])))]) (.seq (.seq (.reg [Am 21 0,An 22 0 21,Ac 23 0]) (.blk 0 (.loop (.seq (.reg [Aj .lss 24 23 22]) (.seq (.ite (.t 24) .skip (.exit 0)) (.seq (.blk 1 (.seq (.reg [Ai 25 3 21 23,Ag 26 3 25,Au 9 (.alloc [(.i .i64 0),(.i .i64 0),(.i .i64 0)]),As 3 9 26]) (.seq (.reg [Am 28 7,Af 29 0 5,Al 30 29,Af 31 0 6,Al 32 31,Af 33 0 9,Al 34 33,Au 35 (.callv (.t 28) [.t 30,.t 32,.t 34]),Am 27 35,Ax1 36 0 27,Ax1 37 1 27,Af 38 0 5,As 1 38 36,Af 39 0 6,As 1 39 37]) (.seq (.reg [Am 41 7,Af 42 1 5,Al 43 42,Af 44 1 6,Al 45 44,
 Af 46 1 9,Al 47 46,Au 48 (.callv (.t 41) [.t 43,.t 45,.t 47]),Am 40 48,Ax1 49 0 40,Ax1 50 1 40,Af 51 1 5,As 1 51 49,Af 52 1 6,As 1 52 50]) (.reg [Am 54 7,Af 55 2 5,Al 56 55,Af 57 2 6,Al 58 57,Af 59 2 9,Al 60 59,Au 61 (.callv (.t 54) [.t 56,.t 58,.t 60]),Am 53 61,Ax1 62 0 53,Ax1 63 1 53,Af 64 2 5,As 1 64 62,Af 65 2 6,As 1 65 63]))))) (.reg [Ad 66 23 1,Am 23 66]))))))) (.seq (.drw [Ag 67 3 5,Ag 68 3 6,As 3 2 67,As 3 3 68,Ab 4 true] [[],[],[1],[],[]]) .ret))))))
def L28.r:List Rr:=[.cell 2 (some 3),.cell 3 (some 3),.tmp 4]
abbrev L28.n:Nat:=69
def L29.c:C :=(.seq (.reg [Ac 6 0,Ac 7 0]) (.seq (.reg [Am 8 0,Am 9 2,Au 10 (.mn [.t 8,.t 9]),Am 11 1,Am 12 2,Au 13 (.mx [.t 11,.t 12]),Am 6 10,Am 7 13]) .ret))
def L29.r:List Rr:=[.tmp 6,.tmp 7]
abbrev L29.n:Nat:=14
def L0x.c:C :=(.seq (.reg [Ab 6 false]) (.seq (.reg [Am 7 0,Am 8 1,Aj .geq 9 7 8,Am 10 9,Av 11 10 (.mv (.t 0)),Av 12 10 (.mv (.t 2)),Av 13 10 (.bin .leq (.t 11) (.t 12)),Ap 14 10 13,Am 15 14,Av 16 15 (.mv (.t 0)),Av 17 15 (.bin .rem (.t 16) (.c (.i .i64 2))),Av 18 15 (.bin .eql (.t 17) (.c (.i .i64 0))),Ap 19 15 18,Am 6 19]) .ret))
def L0x.r:List Rr:=[.tmp 6]
abbrev L0x.n:Nat:=20
def L0v.c (L0x:FuncId):C :=(.seq (.reg [Az 4,Ac 5 0]) (.seq (.seq (.reg [Am 8 1,Au 9 (.call L0x [.t 8,(.c (.i .i64 4)),(.c (.i .i64 1024))]),Au 10 (.un .not (.t 9))]) (.ite (.t 10) (.seq (.reg [Az 4,Ac 5 1]) .ret) .skip)) (.seq (.reg [Az 6]) (.seq (.seq (.reg [Ac 7 0]) (.blk 0 (.loop (.seq (.seq (.reg [Am 11 7,Ak .leq 12 11 256]) (.ite (.t 12) .skip (.exit 0))) (.seq (.blk 1 (.seq (.seq (.reg [Am 15 7,Am 16 1,Aj .mul 17 15 16,Am 18 1,Ak .quo 19 18 2,Aj .add 20 17 19,Am 21 0,Aj .geq 22 20 21]) (.ite (.t 22) (.seq (.reg [Am 23 6,Am 4 23,Ac 5 0]) .ret) .skip)) (.reg [Am 24 6,Am 25 7,Am 26 1,Aj .mul 27 25 26,
 Am 28 1,Ak .quo 29 28 2,Aj .add 30 27 29,Au 31 (.bsi 1 1 [(.i .i64 0)] [(0,(.t 30))]),Au 32 (.app 1 8 (.t 24) (.t 31)),Am 6 32]))) (.reg [Am 13 7,Ad 14 13 1,Am 7 14])))))) (.seq (.reg [Az 4,Ac 5 2]) .ret)))))
def L0v.r:List Rr:=[.tmp 4,.tmp 5]
abbrev L0v.n:Nat:=33
def L0w.c (L0u:FuncId):C :=(.seq (.reg [Ab 4 false]) (.seq (.seq (.reg [Am 6 0,An 7 0 6,Am 8 1,An 9 0 8,Aj .neq 10 7 9]) (.ite (.t 10) (.seq (.reg [Ab 4 false]) .ret) .skip)) (.seq (.seq (.reg [Ac 5 0]) (.blk 0 (.loop (.seq (.seq (.reg [Am 11 5,Am 12 0,An 13 0 12,Aj .lss 14 11 13]) (.ite (.t 14) .skip (.exit 0))) (.seq (.blk 1 (.seq (.drw [Am 17 0,Am 18 5,Ai 19 1 17 18,Ag 20 1 19,Am 21 1,Am 22 5,Ai 23 1 21 22,Ag 24 1 23,Au 25 (.call L0u [.t 20,.t 24]),Au 26 (.un .not (.t 25))] []) (.ite (.t 26) (.seq (.reg [Ab 4 false]) .ret) .skip))) (.reg [Am 15 5,Ad 16 15 1,Am 5 16])))))) (.seq (.reg [Ab 4 true])
 .ret))))
def L0w.r:List Rr:=[.tmp 4]
abbrev L0w.n:Nat:=27
def L09.c:C :=(.seq (.reg [Au 8 (.alloc [.nil])]) (.seq (.reg [Au 11 (.build [.nil] []),Au 9 (.alloc [.nil]),As 1 9 11]) (.seq (.seq (.reg [Ac 10 0]) (.blk 0 (.loop (.seq (.seq (.reg [Am 12 10,Am 13 3,Aj .lss 14 12 13]) (.ite (.t 14) .skip (.exit 0))) (.seq (.blk 1 (.reg [Af 17 0 9,Al 18 17,Am 19 1,Am 20 10,Aj .add 21 19 20,Am 22 0,Am 23 0,Am 24 2,Aj .add 25 23 24,Au 26 (.build [(.i .i64 0),(.i .i64 0)] [(0,1,(.t 22)),(1,1,(.t 25))]),Au 27 (.bso 2 1 [(.i .i64 0),(.i .i64 0)] [(0,(.t 26))]),Au 28 (.build [(.i .i64 0),.nil] [(0,1,(.t 21)),(1,1,(.t 27))]),Au 29 (.bso 2 1 [(.i .i64 0),.nil] [(0,(.t 28))]),
 Au 30 (.app 2 32 (.t 18) (.t 29)),Af 31 0 9,As 1 31 30])) (.reg [Am 15 10,Ad 16 15 1,Am 10 16])))))) (.seq (.reg [Ag 32 1 9,As 1 8 32]) .ret))))
def L09.r:List Rr:=[.cell 8 (some 1)]
abbrev L09.n:Nat:=33
def L0a.c (L1u L1m L1w L09 L0w:FuncId):C :=(.seq (.reg [Ab 0 false]) (.seq (.reg [Au 8 (.call L1u [(.c (.i .i64 40)),(.c (.i .i64 20))]),Am 7 8,Ax1 9 0 7,Ax1 10 1 7,Am 1 9,Am 2 10]) (.seq (.reg [Au 12 (.build [(.i .i64 0),(.i .i64 0),(.i .i64 0)] []),Au 13 (.build [(.i .i64 0),(.i .i64 0),(.i .i64 0)] [(0,1,(.c (.i .i64 80))),(1,1,(.c (.i .i64 40))),(2,1,(.c (.i .i64 40)))]),Au 14 (.call L1m [.t 12,.t 13]),Am 11 14,Ax1 15 0 11,Ax1 16 1 11,Au 3 (.alloc [.nil,.nil]),As 2 3 15,Am 4 16]) (.seq (.reg [Ag 18 2 3,Au 19 (.bso 2 1 [.nil,.nil] [(0,(.t 18))]),Au 20 (.build [(.i .i64 0),(.i .i64 0),(.i .i64 0),(.i .i64 0),(.i .i64 0),(.i .i64 0),(.i .i64 0),(.b false),(.i .i64 0),(.i .i64 0),(.i .i64 0),(.i .i64 0),(.i .i64 0),(.i .i64 0),(.i .i64 0),(.i .i64 0),(.i .i64 0),(.i .i64 0),(.i .i64 0),(.i .i64 0)] [(0,1,(.c (.i .i64 40))),(1,1,(.c (.i .i64 20)))]),
 Au 21 (.call L1w [.t 19,.t 20]),Am 17 21,Ax1 22 0 17,Ax1 23 1 17,Am 5 22,Am 6 23]) (.seq (.reg [Am 24 2,Ak .eql 25 24 0,Am 26 25,Av 27 26 (.mv (.t 1)),Av 28 26 (.len 0 (.t 27)),Av 29 26 (.bin .eql (.t 28) (.c (.i .i64 2))),Ap 30 26 29,Am 31 30,Av 32 31 (.mv (.t 1)),Av 33 31 (.ia 1 (.t 32) (.c (.i .i64 0))),Av 34 31 (.ld none (.t 33)),Av 35 31 (.bin .eql (.t 34) (.c (.i .i64 10))),Ap 36 31 35,Am 37 36,Av 38 37 (.mv (.t 1)),Av 39 37 (.ia 1 (.t 38) (.c (.i .i64 1))),Av 40 37 (.ld none (.t 39)),Av 41 37 (.bin .eql (.t 40) (.c (.i .i64 30))),Ap 42 37 41,Am 43 42,Av 44 43 (.mv (.t 4)),Av 45 43 (.bin .eql (.t 44) (.c (.i .i64 0))),
 Ap 46 43 45,Am 47 46,Av 48 47 (.mv (.t 6)),Av 49 47 (.bin .eql (.t 48) (.c (.i .i64 0))),Ap 50 47 49,Am 51 50,Av 52 51 (.mv (.t 5)),Av 53 51 (.call L09 [(.c (.i .i64 0)),(.c (.i .i64 0)),(.c (.i .i64 2)),(.c (.i .i64 1))]),Av 54 51 (.call L09 [(.c (.i .i64 0)),(.c (.i .i64 0)),(.c (.i .i64 2)),(.c (.i .i64 1))]),Av 55 51 (.bso 1 2 [.nil] [(0,(.t 53)),(1,(.t 54))]),Av 56 51 (.call L0w [.t 52,.t 55]),Ap 57 51 56,Am 0 57]) .ret)))))
def L0a.r:List Rr:=[.tmp 0]
abbrev L0a.n:Nat:=58
def L08.c (L1u L0v L0a:FuncId):C :=(.seq (.reg [Ab 4 false]) (.seq (.reg [Am 11 0,Am 12 1,Au 13 (.call L1u [.t 11,.t 12]),Am 10 13,Ax1 14 0 10,Ax1 15 1 10,Am 5 14,Am 6 15]) (.seq (.reg [Am 17 0,Am 18 1,Au 19 (.call L0v [.t 17,.t 18]),Am 16 19,Ax1 20 0 16,Ax1 21 1 16,Am 7 20,Am 8 21]) (.seq (.seq (.reg [Am 22 5,An 23 0 22,Am 24 7,An 25 0 24,Aj .neq 26 23 25,Am 27 26,Aw 28 27 (.mv (.t 6)),Aw 29 27 (.mv (.t 8)),Aw 30 27 (.bin .neq (.t 28) (.t 29)),Ao 31 27 30]) (.ite (.t 31) (.seq (.reg [Ab 4 false]) .ret) .skip)) (.seq (.seq (.reg [Ac 9 0]) (.blk 0 (.loop (.seq (.seq (.reg [Am 32 9,Am 33 5,An 34 0 33,
 Aj .lss 35 32 34]) (.ite (.t 35) .skip (.exit 0))) (.seq (.blk 1 (.seq (.drw [Am 38 5,Am 39 9,Ai 40 1 38 39,Al 41 40,Am 42 7,Am 43 9,Ai 44 1 42 43,Al 45 44,Aj .neq 46 41 45] []) (.ite (.t 46) (.seq (.reg [Ab 4 false]) .ret) .skip))) (.reg [Am 36 9,Ad 37 36 1,Am 9 37])))))) (.seq (.reg [Au 47 (.call L0a []),Am 4 47]) .ret))))))
def L08.r:List Rr:=[.tmp 4]
abbrev L08.n:Nat:=48
end Go.Abs
