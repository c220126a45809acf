/- Part of the library on which the proof stands: an abstract machine, its values and its soundness against the model; or what functions of the program do to such values. -/
import Derived.Test.YtjggbpiapinceaaGreatGoSecH
import Derived.Test.YtjggbpiapinceaaGreatGoRw
import Derived.Test.YtjggbpiapinceaaGreatGoSet
import Derived.Test.YtjggbpiapinceaaGreatGoToA
import Derived.Test.YtjggbpiapinceaaGreatGoSecE
set_option linter.unusedVariables false
set_option linter.unusedSimpArgs false
namespace Go.Abs
theorem Q5t {α:Type} [DecidableEq α]:∀{l k:List α},l.Nodup->(∀a∈l,a∈k)->l.length<=k.length
 | [],k,_,_=>by simp
 | x::l,k,hn,hs=>by
   have hc:=List.nodup_cons.1 hn
   have hx:=hs x (by simp)
   have:=Q5t (l:=l) (k:=k.erase x) hc.2 (λa ha=>by
    have hne:a≠x:=by rintro rfl;exact hc.1 ha
    exact(List.mem_erase_of_ne hne).2 (hs a (by simp[ha])))
   rw[List.length_erase_of_mem hx]at this
   have:=List.length_pos_of_mem hx
   simp only[List.length_cons];omega
def Mesh.cor (m:Mesh) (t:T3):List V3:=[m.v t.a,m.v t.b,m.v t.c]
def Mesh.usedL (m:Mesh) (ts:List T3):List V3:=ts.flatMap m.cor
def Mesh.wverts (m:Mesh):List V3:=Qht V3.lt (m.usedL m.tris)
def Uu (l:List V3) (v:V3):Int:=(l.idxOf v:Nat)
def Ip (m:Mesh) (W:List V3) (t:T3):T3:=⟨Uu W (m.v t.a),Uu W (m.v t.b),Uu W (m.v t.c)⟩
def Mesh.weldM (m:Mesh):Mesh:=⟨m.wverts,m.tris.map (Ip m m.wverts)⟩
theorem Xu (m:Mesh):m.wverts.Pairwise V3.lt:=Q0z V3.ltO _
theorem mem_wverts {m:Mesh} {v:V3}:v∈m.wverts↔∃t∈m.tris,v∈m.cor t:=by
 unfold Mesh.wverts Mesh.usedL
 rw[Q0k,jm]
theorem Mesh.v_mem {m:Mesh} {i:Int} (h0:0<=i) (hi:i<m.verts.length):m.v i∈m.verts:=by
 have hlt:i.toNat<m.verts.length:=by omega
 have:m.verts[i.toNat]?=some (m.v i):=by rw[q9 hlt,m.v_get hi hlt]
 exact qb this
theorem Qdz {l:List V3} {v:V3} (h:v∈l):l[(Uu l v).toNat]?=some v:=by
 have hlt:=List.idxOf_lt_length_iff.2 h
 unfold Uu
 rw[Int.toNat_natCast,q9 hlt,List.getElem_idxOf hlt]
theorem Qh1 {l:List V3} {v:V3} (h:v∈l):0<=Uu l v/\Uu l v<l.length:=by
 have hlt:=List.idxOf_lt_length_iff.2 h
 unfold Uu;omega
theorem Q2x {l:List V3} (hn:l.Nodup) {i:Nat} {v:V3} (h:l[i]?=some v):Uu l v=i:=by
 obtain⟨hlt,rfl⟩:=q8.1 h
 unfold Uu
 rw[hn.idxOf_getElem]
theorem tok {m:Mesh} (h:m.check=0) {t:T3} (ht:t∈m.tris):0<=t.a/\t.a<m.verts.length/\0<=t.b/\t.b<m.verts.length/\0<=t.c/\t.c<m.verts.length :=
 T3.ok_iff.1 (qj.1 (Mesh.check_zero.1 h).2.2.2 t ht)
theorem Q4a {m:Mesh} (h:m.check=0):m.wverts.length<=m.verts.length:=by
 refine Q5t (Bt V3.ltO (Xu m)) λa ha=>?_
 obtain⟨t,ht,hv⟩:=mem_wverts.1 ha
 obtain⟨h1,h2,h3,h4,h5,h6⟩:=tok h ht
 simp only[Mesh.cor,List.mem_cons,List.not_mem_nil,or_false]at hv
 rcases hv with rfl | rfl | rfl
 ·exact Mesh.v_mem h1 h2
 ·exact Mesh.v_mem h3 h4
 ·exact Mesh.v_mem h5 h6
theorem Q1a {m:Mesh} {v:V3} (h:v∈m.wverts):m.weldM.v (Uu m.wverts v)=v:=by
 show (m.wverts[(Uu m.wverts v).toNat]?).getD _=v
 rw[Qdz h];rfl
theorem Qbh {m:Mesh} {t:T3} (ht:t∈m.tris):m.v t.a∈m.wverts/\m.v t.b∈m.wverts/\m.v t.c∈m.wverts:=by
 refine⟨mem_wverts.2 ⟨t,ht,?_⟩,mem_wverts.2 ⟨t,ht,?_⟩,mem_wverts.2 ⟨t,ht,?_⟩⟩<;>simp[Mesh.cor]
theorem Qch {m:Mesh} {t:T3} (ht:t∈m.tris):m.weldM.cor (Ip m m.wverts t)=m.cor t:=by
 obtain⟨h1,h2,h3⟩:=Qbh ht
 simp only[Mesh.cor,Ip,Q1a h1,Q1a h2,Q1a h3]
theorem Qk0 {m:Mesh} (h:m.check=0):m.weldM.weldM=m.weldM:=by
 have hv:m.weldM.wverts=m.wverts:=by
  refine Q0y V3.ltO (Xu _) (Xu _) λv=>?_
  rw[mem_wverts,mem_wverts]
  constructor
  ·rintro⟨t,ht,hv⟩
   obtain⟨s,hs,rfl⟩:=qp.1 (show t∈m.tris.map _ from ht)
   rw[Qch hs]at hv
   exact⟨s,hs,hv⟩
  ·rintro⟨s,hs,hv⟩
   exact⟨Ip m m.wverts s,qp.2 ⟨s,hs,rfl⟩,by rw[Qch hs];exact hv⟩
 have ht:m.weldM.tris.map (Ip m.weldM m.wverts)=m.weldM.tris:=by
  show (m.tris.map (Ip m m.wverts)).map _=m.tris.map _
  rw[List.map_map]
  refine jo λt ht=>?_
  obtain⟨h1,h2,h3⟩:=Qbh ht
  simp only[Function.comp,Ip,Q1a h1,Q1a h2,Q1a h3]
 show Mesh.mk m.weldM.wverts (m.weldM.tris.map (Ip m.weldM m.weldM.wverts))=_
 rw[hv,ht];rfl
def T3.lt (s t:T3):Prop:=s.a<t.a∨(s.a=t.a/\(s.b<t.b∨(s.b=t.b/\s.c<t.c)))
instance:DecidableRel T3.lt:=λa b=>by unfold T3.lt;infer_instance
theorem T3.ltO:LtOrd T3.lt where
 irr a:=by unfold T3.lt;omega
 tr h1 h2:=by unfold T3.lt at *;omega
 tot {a b} h h':=by
  unfold T3.lt at *
  have h1:a.a=b.a:=by omega
  have h2:a.b=b.b:=by omega
  have h3:a.c=b.c:=by omega
  cases a;cases b;simp_all
def T3.rot (t:T3):T3:=⟨t.b,t.c,t.a⟩
def T3.least (x t:T3):T3:=if T3.lt t x then t else x
def T3.turned (t:T3):T3:=T3.least (T3.least t t.rot) t.rot.rot
def T3.twins (a b:T3):Bool:=decide (a=b) || (decide (a=b.rot) || decide (a=b.rot.rot))
theorem T3.rot3 (t:T3):t.rot.rot.rot=t:=rfl
theorem Q8x (x t:T3):T3.least x t=x∨T3.least x t=t:=by unfold T3.least;split<;>simp
theorem Qdo (x t:T3):¬ T3.lt x (T3.least x t)/\¬ T3.lt t (T3.least x t):=by
 unfold T3.least
 split
 ·rename_i h;exact⟨T3.ltO.asymm h,T3.ltO.irr _⟩
 ·rename_i h;exact⟨T3.ltO.irr _,h⟩
theorem Wh (t:T3):t.turned=t∨t.turned=t.rot∨t.turned=t.rot.rot:=by
 unfold T3.turned
 rcases Q8x (T3.least t t.rot) t.rot.rot with h | h<;>rw[h]
 ·rcases Q8x t t.rot with h | h<;>rw[h]<;>simp
 ·simp
theorem Q0g {a b c:T3} (h1:¬ T3.lt a b) (h2:¬ T3.lt b c):¬ T3.lt a c:=by unfold T3.lt at *;omega
theorem Q8b (t:T3):¬ T3.lt t t.turned/\¬ T3.lt t.rot t.turned/\¬ T3.lt t.rot.rot t.turned:=by
 unfold T3.turned
 have h1:=Qdo t t.rot
 have h2:=Qdo (T3.least t t.rot) t.rot.rot
 exact⟨Q0g h1.1 h2.1,Q0g h1.2 h2.1,h2.2⟩
theorem Ir (t:T3):t.rot.turned=t.turned:=by
 have h1:=Q8b t
 have h2:=Q8b t.rot
 rw[T3.rot3]at h2
 refine T3.ltO.tot ?_ ?_
 ·rcases Wh t.rot with h | h | h
  ·rw[h];exact h1.2.1
  ·rw[h];exact h1.2.2
  ·rw[h,T3.rot3];exact h1.1
 ·rcases Wh t with h | h | h
  ·rw[h];exact h2.2.2
  ·rw[h];exact h2.1
  ·rw[h];exact h2.2.1
theorem turned_iff {a b:T3}:a.turned=b.turned↔a.twins b=true:=by
 simp only[T3.twins,Bool.or_eq_true,decide_eq_true_eq]
 constructor
 ·intro h
  have key:∀t:T3,t=t.turned∨t=t.turned.rot∨t=t.turned.rot.rot:=by
   intro t
   rcases Wh t with h | h | h
   ·left;exact h.symm
   ·right;right;rw[h];rfl
   ·right;left;rw[h];rfl
  have ka:=key a
  rcases Wh b with hb | hb | hb<;>rw[h,hb]at ka<;>try simp only[T3.rot3]at ka
  ·exact ka
  ·rcases ka with k | k | k
   ·exact .inr (.inl k)
   ·exact .inr (.inr k)
   ·exact .inl k
  ·rcases ka with k | k | k
   ·exact .inr (.inr k)
   ·exact .inl k
   ·exact .inr (.inl k)
 ·rintro (rfl | rfl | rfl)
  ·rfl
  ·exact Ir b
  ·rw[Ir,Ir]
def V3.sub (a b:V3):V3:=⟨a.x-b.x,a.y-b.y,a.z-b.z⟩
def V3.crs (a b:V3):V3:=⟨a.y*b.z-a.z*b.y,a.z*b.x-a.x*b.z,a.x*b.y-a.y*b.x⟩
def Wx (a b c:V3):Bool:=a.valid && (b.valid && (c.valid && decide ((b.sub a).crs (c.sub a)=⟨0,0,0⟩)))
def Mesh.deg (m:Mesh) (t:T3):Bool:=Wx (m.v t.a) (m.v t.b) (m.v t.c)
structure Cl where
 out:List T3
 deg:Nat
 twin:Nat
def Cl.step (dg:T3->Bool) (s:Cl) (t:T3):Cl:=if dg t then ⟨s.out,s.deg+1,s.twin⟩ else if s.out.any (T3.twins t) then ⟨s.out,s.deg,s.twin+1⟩ else ⟨s.out++[t],s.deg,s.twin⟩
def Zp (dg:T3->Bool) (ts:List T3):Cl:=ts.foldl (Cl.step dg) ⟨[],0,0⟩
theorem Q2z (dg:T3->Bool) (ts:List T3) (t:T3):Zp dg (ts++[t])=(Zp dg ts).step dg t:=by simp[Zp]
theorem Qeq (dg:T3->Bool) {ts:List T3} {k:Nat} {t:T3} (h:ts[k]?=some t):Zp dg (ts.take (k+1))=(Zp dg (ts.take k)).step dg t:=by
 rw[List.take_add_one,h];exact Q2z dg _ t
def Mesh.cleanM (m:Mesh):Mesh:=⟨m.verts,(Zp m.deg m.tris).out⟩
structure ClOk (dg:T3->Bool) (ts:List T3) (s:Cl):Prop where
 sub:s.out.Sublist ts
 sum:s.out.length+s.deg+s.twin=ts.length
 deg:∀t∈s.out,dg t=false
 twin:s.out.Pairwise λa b=>b.twins a=false
theorem Qmt (dg:T3->Bool) (ts:List T3):ClOk dg ts (Zp dg ts):=by
 refine Eh (p:=λts=>ClOk dg ts (Zp dg ts)) ?_ ?_ ts
 ·exact⟨.slnil,rfl,by simp[Zp],by simp[Zp]⟩
 ·intro E x ih
  rw[Q2z]
  unfold Cl.step
  have hs:=ih.sum
  split
  ·exact⟨ih.sub.trans (List.sublist_append_left _ _),by simp;omega,ih.deg,ih.twin⟩
  ·rename_i hd
   split
   ·exact⟨ih.sub.trans (List.sublist_append_left _ _),by simp;omega,ih.deg,ih.twin⟩
   ·rename_i ht
    refine⟨ih.sub.append (List.Sublist.refl _),by simp;omega,λt h=>?_,?_⟩
    ·rcases qg.1 h with h | h
     ·exact ih.deg t h
     ·simp at h;subst h;simpa using hd
    ·simp only
     rw[List.pairwise_append]
     refine⟨ih.twin,by simp,λa ha b hb=>?_⟩
     simp at hb;subst hb
     rw[Bool.eq_false_iff]
     intro h
     exact ht (List.any_eq_true.2 ⟨a,ha,h⟩)
def L2l.c (L0g L2o:FuncId):C :=(.seq (.reg [Au 1 (.box (.t 0)),Au 2 (.alloc [.nil,.nil]),Ac 3 0,Ac 4 0]) (.seq (.seq (.reg [Ag 12 2 1,Au 13 (.call L0g [.t 12]),Am 5 13]) (.seq (.reg [Am 14 5,Ak .neq 15 14 0]) (.ite (.t 15) (.seq (.reg [Au 16 (.build [.nil,.nil] []),Am 17 5,As 2 2 16,Ac 3 0,Am 4 17]) .ret) .skip))) (.seq (.reg [Ag 18 2 1,Au 19 (.call L2o [.t 18]),Au 20 (.build [.nil,.nil] [(0,1,(.t 19))]),Au 6 (.alloc [.nil,.nil]),As 2 6 20]) (.seq (.reg [Af 21 0 6,Al 22 21,An 23 0 22,Au 24 (.mkm (some (.t 23))),Am 7 24]) (.seq (.seq (.reg [Af 25 0 6,Al 26 25,An 27 0 26,Ac 28 0]) (.blk 0 (.loop
 (.seq (.reg [Aj .lss 29 28 27]) (.seq (.ite (.t 29) .skip (.exit 0)) (.seq (.blk 1 (.seq (.reg [Am 30 28,Ai 31 3 26 28,Ag 32 3 31,Au 9 (.alloc [(.i .i64 0),(.i .i64 0),(.i .i64 0)]),Am 8 30,As 3 9 32]) (.reg [Am 33 7,Ag 34 3 9,Am 35 8,⟨none,none,.mup [1,1,1] (.t 33) (.t 34) (.t 35)⟩]))) (.reg [Ad 36 28 1,Am 28 36]))))))) (.seq (.seq (.reg [Af 37 1 1,Al 38 37,An 39 0 38,Ac 40 0]) (.blk 2 (.loop (.seq (.reg [Aj .lss 41 40 39]) (.seq (.ite (.t 41) .skip (.exit 2)) (.seq (.blk 3 (.seq (.reg [Ai 42 3 38 40,Ag 43 3 42,Au 11 (.alloc [(.i .i64 0),(.i .i64 0),(.i .i64 0)]),As 3 11 43]) (.drw [Af 44 1 6,
 Al 45 44,Am 46 7,Af 47 0 1,Al 48 47,Af 49 0 11,Al 50 49,Ai 51 3 48 50,Ag 52 3 51,Au 53 (.lk [1,1,1] (.i .i64 0) false (.t 46) (.t 52)),Am 54 7,Af 55 0 1,Al 56 55,Af 57 1 11,Al 58 57,Ai 59 3 56 58,Ag 60 3 59,Au 61 (.lk [1,1,1] (.i .i64 0) false (.t 54) (.t 60)),Am 62 7,Af 63 0 1,Al 64 63,Af 65 2 11,Al 66 65,Ai 67 3 64 66,Ag 68 3 67,Au 69 (.lk [1,1,1] (.i .i64 0) false (.t 62) (.t 68)),Au 70 (.build [(.i .i64 0),(.i .i64 0),(.i .i64 0)] [(0,1,(.t 53)),(1,1,(.t 61)),(2,1,(.t 69))]),Au 71 (.bsi 3 1 [(.i .i64 0),(.i .i64 0),(.i .i64 0)] [(0,(.t 70))]),Au 72 (.app 3 24 (.t 45) (.t 71)),Af 73 1 6,As 1 73 72] [])))
 (.reg [Ad 74 40 1,Am 40 74]))))))) (.seq (.drw [Ag 75 2 6,Af 76 0 1,Al 77 76,An 78 0 77,Af 79 0 6,Al 80 79,An 81 0 80,Aj .sub 82 78 81,As 2 2 75,Am 3 82,Ac 4 0] [[],[],[],[],[],[],[],[],[1,2,3,4,5,6],[],[]]) .ret)))))))
def L2l.r:List Rr:=[.cell 2 (some 2),.tmp 3,.tmp 4]
abbrev L2l.n:Nat:=83
def L2j.c (L0g L1u L2n L2a:FuncId):C :=(.seq (.reg [Au 1 (.box (.t 0)),Au 2 (.alloc [.nil,.nil]),Ac 3 0,Ac 4 0,Ac 5 0]) (.seq (.seq (.reg [Ag 14 2 1,Au 15 (.call L0g [.t 14]),Am 6 15]) (.seq (.reg [Am 16 6,Ak .neq 17 16 0]) (.ite (.t 17) (.seq (.reg [Au 18 (.build [.nil,.nil] []),Am 19 6,As 2 2 18,Ac 3 0,Ac 4 0,Am 5 19]) .ret) .skip))) (.seq (.reg [Af 20 0 1,Al 21 20,Au 22 (.call L1u [.t 21]),Au 23 (.build [.nil,.nil] [(0,1,(.t 22))]),Au 7 (.alloc [.nil,.nil]),As 2 7 23]) (.seq (.reg [Au 24 (.mkm none),Am 8 24]) (.seq (.reg [Ac 9 0,Ac 10 0]) (.seq (.seq (.reg [Af 25 1 1,Al 26 25,An 27 0 26,Ac 28 0])
 (.blk 0 (.loop (.seq (.reg [Aj .lss 29 28 27]) (.seq (.ite (.t 29) .skip (.exit 0)) (.seq (.blk 1 (.seq (.reg [Ai 30 3 26 28,Ag 31 3 30,Au 12 (.alloc [(.i .i64 0),(.i .i64 0),(.i .i64 0)]),As 3 12 31]) (.seq (.reg [Ag 32 3 12,Au 33 (.call L2n [.t 32]),Au 13 (.alloc [(.i .i64 0),(.i .i64 0),(.i .i64 0)]),As 3 13 33]) (.blk 2 (.seq (.drw [Af 43 0 1,Al 44 43,Af 45 0 12,Al 46 45,Ai 47 3 44 46,Ag 48 3 47,Af 49 0 1,Al 50 49,Af 51 1 12,Al 52 51,Ai 53 3 50 52,Ag 54 3 53,Af 55 0 1,Al 56 55,Af 57 2 12,Al 58 57,Ai 59 3 56 58,Ag 60 3 59,Au 61 (.call L2a [.t 48,.t 54,.t 60]),Am 42 61] []) (.ite (.t 42) (.reg [
 Am 62 9,Ad 63 62 1,Am 9 63]) (.seq (.reg [Am 65 8,Ag 66 3 13,Au 67 (.lk [1,1,1] (.b false) false (.t 65) (.t 66)),Am 64 67]) (.ite (.t 64) (.reg [Am 68 10,Ad 69 68 1,Am 10 69]) (.seq (.reg [Am 34 8,Ag 35 3 13,⟨none,none,.mup [1,1,1] (.t 34) (.t 35) (.c (.b true))⟩]) (.reg [Af 36 1 7,Al 37 36,Ag 38 3 12,Au 39 (.bsi 3 1 [(.i .i64 0),(.i .i64 0),(.i .i64 0)] [(0,(.t 38))]),Au 40 (.app 3 24 (.t 37) (.t 39)),Af 41 1 7,As 1 41 40])))))))))) (.reg [Ad 70 28 1,Am 28 70]))))))) (.seq (.reg [Ag 71 2 7,Am 72 9,Am 73 10,As 2 2 71,Am 3 72,Am 4 73,Ac 5 0]) .ret)))))))
def L2j.r:List Rr:=[.cell 2 (some 2),.tmp 3,.tmp 4,.tmp 5]
abbrev L2j.n:Nat:=74
def L2k.c (L0h L2a:FuncId):C :=(.seq (.reg [Au 2 (.box (.t 0)),Ab 4 false]) (.seq (.reg [Ag 10 2 2,Am 11 1,Au 12 (.call L0h [.t 10,.t 11]),Am 9 12,Ax1 13 0 9,Ax1 14 1 9,Ax1 15 2 9,Ax1 16 3 9,Au 5 (.alloc [(.i .i64 0),(.i .i64 0),(.i .i64 0)]),Au 6 (.alloc [(.i .i64 0),(.i .i64 0),(.i .i64 0)]),Au 7 (.alloc [(.i .i64 0),(.i .i64 0),(.i .i64 0)]),As 3 5 13,As 3 6 14,As 3 7 15,Am 8 16]) (.seq (.reg [Am 17 8,Am 18 17,Av 19 18 (.ld (some 3) (.t 5)),Av 20 18 (.ld (some 3) (.t 6)),Av 21 18 (.ld (some 3) (.t 7)),Av 22 18 (.call L2a [.t 19,.t 20,.t 21]),Ap 23 18 22,Am 4 23]) .ret)))
def L2k.r:List Rr:=[.tmp 4]
abbrev L2k.n:Nat:=24
def L2o.c (slices_SortFunc_api_Vec_api_Vec L2p:FuncId):C :=(.seq (.reg [Au 1 (.box (.t 0)),Az 2]) (.seq (.reg [Au 10 (.mkm none),Am 3 10]) (.seq (.reg [Az 4]) (.seq (.seq (.reg [Af 11 1 1,Al 12 11,An 13 0 12,Ac 14 0]) (.blk 0 (.loop (.seq (.reg [Aj .lss 15 14 13]) (.seq (.ite (.t 15) .skip (.exit 0)) (.seq (.blk 1 (.seq (.reg [Ai 16 3 12 14,Ag 17 3 16,Au 6 (.alloc [(.i .i64 0),(.i .i64 0),(.i .i64 0)]),As 3 6 17]) (.seq (.reg [Af 18 0 6,Al 19 18,Af 20 1 6,Al 21 20,Af 22 2 6,Al 23 22,Au 24 (.build [(.i .i64 0),(.i .i64 0),(.i .i64 0)] [(0,1,(.t 19)),(1,1,(.t 21)),(2,1,(.t 23))]),Ac 25 0]) (.blk 2
 (.loop (.seq (.reg [Ak .lss 26 25 3]) (.seq (.ite (.t 26) .skip (.exit 2)) (.seq (.blk 3 (.seq (.reg [Au 27 (.ix 3 1 none (.t 24) (.t 25)),Am 8 27]) (.seq (.reg [Af 28 0 1,Al 29 28,Am 30 8,Ai 31 3 29 30,Ag 32 3 31,Au 9 (.alloc [(.i .i64 0),(.i .i64 0),(.i .i64 0)]),As 3 9 32]) (.seq (.reg [Am 33 3,Ag 34 3 9,Au 35 (.lk [1,1,1] (.b false) false (.t 33) (.t 34)),Au 36 (.un .not (.t 35))]) (.ite (.t 36) (.seq (.reg [Am 37 3,Ag 38 3 9,⟨none,none,.mup [1,1,1] (.t 37) (.t 38) (.c (.b true))⟩]) (.reg [Am 39 4,Ag 40 3 9,Au 41 (.bsi 3 1 [(.i .i64 0),(.i .i64 0),(.i .i64 0)] [(0,(.t 40))]),Au 42 (.app 3 24 (.t 39) (.t 41)),
 Am 4 42])) .skip))))) (.reg [Ad 43 25 1,Am 25 43]))))))))) (.reg [Ad 44 14 1,Am 14 44]))))))) (.seq (.reg [Am 45 4,Au 46 (.call slices_SortFunc_api_Vec_api_Vec [.t 45,(.c (.f L2p []))])]) (.seq (.reg [Am 47 4,Am 2 47]) .ret))))))
def L2o.r:List Rr:=[.tmp 2]
abbrev L2o.n:Nat:=48
def L2n.c (L2m:FuncId):C :=(.seq (.reg [Au 1 (.box (.t 0)),Au 2 (.alloc [(.i .i64 0),(.i .i64 0),(.i .i64 0)])]) (.seq (.reg [Ag 4 3 1,Au 3 (.alloc [(.i .i64 0),(.i .i64 0),(.i .i64 0)]),As 3 3 4]) (.seq (.seq (.reg [Ac 5 0]) (.blk 0 (.loop (.seq (.reg [Ak .lss 6 5 2]) (.seq (.ite (.t 6) .skip (.exit 0)) (.seq (.blk 1 (.seq (.reg [Af 7 1 1,Al 8 7,Af 9 2 1,Al 10 9,Af 11 0 1,Al 12 11,Au 13 (.build [(.i .i64 0),(.i .i64 0),(.i .i64 0)] [(0,1,(.t 8)),(1,1,(.t 10)),(2,1,(.t 12))]),As 3 1 13]) (.seq (.reg [Ag 14 3 1,Ag 15 3 3,Au 16 (.call L2m [.t 14,.t 15])]) (.ite (.t 16) (.reg [Ag 17 3 1,As 3 3 17])
 .skip)))) (.reg [Ad 18 5 1,Am 5 18]))))))) (.seq (.reg [Ag 19 3 3,As 3 2 19]) .ret))))
def L2n.r:List Rr:=[.cell 2 (some 3)]
abbrev L2n.n:Nat:=20
def L2a.c (L2g L2f L2b:FuncId):C :=(.seq (.reg [Au 3 (.box (.t 0)),Au 4 (.box (.t 1)),Au 5 (.box (.t 2)),Ab 6 false]) (.seq (.drw [Ag 7 3 3,Au 8 (.call L2g [.t 7]),Am 9 8,Av 10 9 (.ld (some 3) (.t 4)),Av 11 9 (.call L2g [.t 10]),Ap 12 9 11,Am 13 12,Av 14 13 (.ld (some 3) (.t 5)),Av 15 13 (.call L2g [.t 14]),Ap 16 13 15,Am 17 16,Av 18 17 (.ld (some 3) (.t 4)),Av 19 17 (.ld (some 3) (.t 3)),Av 20 17 (.call L2f [.t 18,.t 19]),Av 21 17 (.ld (some 3) (.t 5)),Av 22 17 (.ld (some 3) (.t 3)),Av 23 17 (.call L2f [.t 21,.t 22]),Av 24 17 (.call L2b [.t 20,.t 23]),Av 25 17 (.build [(.i .i64 0),(.i .i64 0),(.i .i64 0)] []),
 Av 26 17 (.eqa [1,1,1] false (.t 24) (.t 25)),Ap 27 17 26,Am 6 27] [[],[],[],[],[],[],[],[],[],[],[],[],[],[],[13],[13],[],[],[],[],[],[]]) .ret))
def L2a.r:List Rr:=[.tmp 6]
abbrev L2a.n:Nat:=28
def L2p.c (L2e:FuncId):C :=(.seq (.reg [Au 2 (.box (.t 0)),Au 3 (.box (.t 1)),Ac 4 0]) (.seq (.blk 0 (.seq (.reg [Ag 6 3 2,Ag 7 3 3,Au 8 (.call L2e [.t 6,.t 7]),Am 5 8]) (.ite (.t 5) (.seq (.reg [Ac 4 (-1)]) .ret) (.seq (.reg [Ag 10 3 3,Ag 11 3 2,Au 12 (.call L2e [.t 10,.t 11]),Am 9 12]) (.ite (.t 9) (.seq (.reg [Ac 4 1]) .ret) .skip))))) (.seq (.reg [Ac 4 0]) .ret)))
def L2p.r:List Rr:=[.tmp 4]
abbrev L2p.n:Nat:=13
def L2e.c:C :=(.seq (.reg [Au 2 (.box (.t 0)),Au 3 (.box (.t 1)),Ab 4 false]) (.seq (.seq (.reg [Af 5 0 2,Al 6 5,Af 7 0 3,Al 8 7,Aj .neq 9 6 8]) (.ite (.t 9) (.seq (.reg [Af 10 0 2,Al 11 10,Af 12 0 3,Al 13 12,Aj .lss 14 11 13,Am 4 14]) .ret) .skip)) (.seq (.seq (.reg [Af 15 1 2,Al 16 15,Af 17 1 3,Al 18 17,Aj .neq 19 16 18]) (.ite (.t 19) (.seq (.reg [Af 20 1 2,Al 21 20,Af 22 1 3,Al 23 22,Aj .lss 24 21 23,Am 4 24]) .ret) .skip)) (.seq (.reg [Af 25 2 2,Al 26 25,Af 27 2 3,Al 28 27,Aj .lss 29 26 28,Am 4 29]) .ret))))
def L2e.r:List Rr:=[.tmp 4]
abbrev L2e.n:Nat:=30
def L2m.c:C :=(.seq (.reg [Au 2 (.box (.t 0)),Au 3 (.box (.t 1)),Ab 4 false]) (.seq (.seq (.reg [Af 5 0 2,Al 6 5,Af 7 0 3,Al 8 7,Aj .neq 9 6 8]) (.ite (.t 9) (.seq (.reg [Af 10 0 2,Al 11 10,Af 12 0 3,Al 13 12,Aj .lss 14 11 13,Am 4 14]) .ret) .skip)) (.seq (.seq (.reg [Af 15 1 2,Al 16 15,Af 17 1 3,Al 18 17,Aj .neq 19 16 18]) (.ite (.t 19) (.seq (.reg [Af 20 1 2,Al 21 20,Af 22 1 3,Al 23 22,Aj .lss 24 21 23,Am 4 24]) .ret) .skip)) (.seq (.reg [Af 25 2 2,Al 26 25,Af 27 2 3,Al 28 27,Aj .lss 29 26 28,Am 4 29]) .ret))))
def L2m.r:List Rr:=[.tmp 4]
abbrev L2m.n:Nat:=30
def L2f.c (L2g:FuncId):C :=(.seq (.reg [Au 2 (.box (.t 0)),Au 3 (.box (.t 1)),Au 4 (.alloc [(.i .i64 0),(.i .i64 0),(.i .i64 0)])]) (.seq (.seq (.reg [Ag 5 3 2,Au 6 (.call L2g [.t 5]),Au 7 (.un .not (.t 6)),Am 8 7,Aw 9 8 (.ld (some 3) (.t 3)),Aw 10 8 (.call L2g [.t 9]),Aw 11 8 (.un .not (.t 10)),Ao 12 8 11]) (.ite (.t 12) (.seq (.reg [Au 13 (.build [(.i .i64 0),(.i .i64 0),(.i .i64 0)] []),As 3 4 13]) .ret) .skip)) (.seq (.reg [Af 14 0 2,Al 15 14,Af 16 0 3,Al 17 16,Aj .sub 18 15 17,Af 19 1 2,Al 20 19,Af 21 1 3,Al 22 21,Aj .sub 23 20 22,Af 24 2 2,Al 25 24,Af 26 2 3,Al 27 26,Aj .sub 28 25 27,Au 29 (.build [(.i .i64 0),(.i .i64 0),(.i .i64 0)] [(0,1,(.t 18)),(1,1,(.t 23)),(2,1,(.t 28))]),
 As 3 4 29]) .ret)))
def L2f.r:List Rr:=[.cell 4 (some 3)]
abbrev L2f.n:Nat:=30
end Go.Abs
namespace Go.Abs
open Go.Sort
instance:Inhabited V3:=⟨⟨0,0,0⟩⟩
def V3.ints (v:V3):List Int:=[v.x,v.y,v.z]
def Qtk (P:Program) (f:FuncId):Prop:=∀a b:V3,CallIs P f [a.enc,b.enc] (.b (decide (V3.lt a b)))
def Qhl (a b:V3):Int:=if V3.lt a b then -1 else if V3.lt b a then 1 else 0
def Qu6 (P:Program) (f:FuncId):Prop:=∀a b:V3,CallIs P f [a.enc,b.enc] (.i .i64 (Qhl a b))
def Qcb (P:Program) (f:FuncId):Prop:=∀a b:T3,CallIs P f [a.enc,b.enc] (.b (decide (T3.lt a b)))
def Qbv (P:Program) (f:FuncId):Prop:=∀t:T3,CallIs P f [t.enc] t.turned.enc
def Qsw (P:Program) (f:FuncId):Prop:=∀a b:V3,a.valid=true->b.valid=true->CallIs P f [a.enc,b.enc] (a.sub b).enc
def Qjx (P:Program) (f:FuncId):Prop:=∀a b:V3,a.within 131072=true->b.within 131072=true->CallIs P f [a.enc,b.enc] (a.crs b).enc
def Qbz (P:Program) (f:FuncId):Prop:=∀a:V3,CallIs P f [a.enc] (.b (a.within 131072))
def Qjz (P:Program) (f:FuncId):Prop:=∀a b c:V3,CallIs P f [a.enc,b.enc,c.enc] (.b (Wx a b c))
theorem ltV (a b:V3):ltC Qhl a b=decide (V3.lt a b):=by
 unfold ltC Qhl
 by_cases h1:V3.lt a b
 ·simp[h1]
 ·by_cases h2:V3.lt b a<;>simp[h1,h2]
theorem swoV:SWO (ltC Qhl) where
 irrefl x:=by rw[ltV];simp[V3.ltO.irr]
 trans x y z h1 h2:=by
  rw[ltV,decide_eq_true_eq]at *
  exact V3.ltO.tr h1 h2
 ntrans x y z h1 h2:=by
  rw[ltV,decide_eq_false_iff_not]at *
  unfold V3.lt at *;omega
section
variable {P:Program} (hm:P.follows .mixedOrders=true)
include hm
theorem Qcl {f:FuncId} (hf:Qa P f L2e.c L2e.r L2e.n):Qtk P f:=by
 intro a b
 refine PureC.is (Q8 hm hf (qh rfl) ?_) rfl
 unfold L2e.c
 by_cases h1:a.x=b.x
 ·by_cases h2:a.y=b.y
  ·simp[go_sem,V3.enc,vcs,h1,h2,L2e.r,V3.lt]
  ·simp[go_sem,V3.enc,vcs,h1,h2,L2e.r,V3.lt]
 ·simp[go_sem,V3.enc,vcs,h1,L2e.r,V3.lt]
theorem Q4d {f:FuncId} (hf:Qa P f L2m.c L2m.r L2m.n):Qcb P f:=by
 intro a b
 refine PureC.is (Q8 hm hf (qh rfl) ?_) rfl
 unfold L2m.c
 by_cases h1:a.a=b.a
 ·by_cases h2:a.b=b.b
  ·simp[go_sem,T3.enc,tcs,h1,h2,L2m.r,T3.lt]
  ·simp[go_sem,T3.enc,tcs,h1,h2,L2m.r,T3.lt]
 ·simp[go_sem,T3.enc,tcs,h1,L2m.r,T3.lt]
theorem Q4b {f fl:FuncId} (hf:Qa P f (L2p.c fl) L2p.r L2p.n) (hl:Qtk P fl):Qu6 P f:=by
 intro a b
 refine PureC.is (Q8 hm hf (qh rfl) ?_) rfl
 unfold L2p.c
 simp[go_sem,V3.enc,vcs]
 refine Q4 (hl a b) ?_
 by_cases h1:V3.lt a b
 ·simp[go_sem,h1,L2p.r,Qhl]
 ·simp[go_sem,h1]
  refine Q4 (hl b a) ?_
  by_cases h2:V3.lt b a<;>simp[go_sem,h1,h2,L2p.r,Qhl]
theorem Q4c {f fb:FuncId} (hf:Qa P f (L2n.c fb) L2n.r L2n.n) (hb:Qcb P fb):Qbv P f:=by
 intro t
 refine PureC.is (Q8 hm hf (qh rfl) ?_) rfl
 unfold L2n.c
 have w1:IntKind.i64.wrap 1=1:=rfl
 have w2:IntKind.i64.wrap 2=2:=rfl
 simp[go_sem,T3.enc,tcs]
 refine Qf (α:=Nat) (λk=>k<=2)
  (λk=>⟨[(1,.p 0 1 0 0),(2,.p 1 1 0 0),(3,.p 2 1 0 0),(5,.i .i64 k)],[.arr 1 3 [(if k=0 then t else if k=1 then t.rot else t.rot.rot).cs],.arr 1 3 [[.i .i64 0,.i .i64 0,.i .i64 0]],.arr 1 3 [(if k=0 then t else if k=1 then T3.least t t.rot else t.turned).cs]]⟩)
  (λk=>2-k) 0 (by omega) ?_ ?_
 ·simp[go_sem,tcs]
 ·intro k hk
  have:k=0∨k=1∨k=2:=by omega
  rcases this with rfl | rfl | rfl
  ·simp[go_sem,tcs,w1]
   refine Q4 (hb t.rot t) ?_
   by_cases h:T3.lt t.rot t
   ·have hl:T3.least t t.rot=t.rot:=by simp only[T3.least,h,if_true]
    simp[go_sem,h,w1]
    exact⟨1,by omega,by omega,rfl,by simp[T3.rot],by rw[hl];simp[T3.rot]⟩
   ·have hl:T3.least t t.rot=t:=by simp only[T3.least,h,if_false]
    simp[go_sem,h,w1]
    exact⟨1,by omega,by omega,rfl,by simp[T3.rot],by rw[hl];simp⟩
  ·simp[go_sem,tcs,w2]
   refine Q4 (hb t.rot.rot (T3.least t t.rot)) ?_
   by_cases h:T3.lt t.rot.rot (T3.least t t.rot)
   ·have hl:t.turned=t.rot.rot:=by unfold T3.turned;rw[T3.least,if_pos h]
    simp[go_sem,h,w2]
    exact⟨2,by omega,by omega,rfl,by simp[T3.rot],by rw[hl];simp[T3.rot]⟩
   ·have hl:t.turned=T3.least t t.rot:=by unfold T3.turned;rw[T3.least,if_neg h]
    simp[go_sem,h,w2]
    exact⟨2,by omega,by omega,rfl,by simp[T3.rot],by rw[hl];simp⟩
  ·simp[go_sem,tcs,L2n.r]
theorem Qff {f fv:FuncId} (hf:Qa P f (L2f.c fv) L2f.r L2f.n) (hv:Bu P fv):Qsw P f:=by
 intro a b h1 h2
 have g1:=V3.valid_iff.1 h1
 have g2:=V3.valid_iff.1 h2
 refine PureC.is (Q8 hm hf (qh rfl) ?_) rfl
 unfold L2f.c
 simp[go_sem,V3.enc,vcs]
 refine Q4 (hv a) ?_
 simp[go_sem,h1]
 refine Q4 (hv b) ?_
 simp (disch:=omega) [go_sem,h2,Q3,L2f.r,V3.sub]
theorem Q72 {f fw:FuncId} (hf:Qa P f (L2h.c fw) L2h.r L2h.n) (hw:Ez P fw):Qbz P f:=by
 intro a
 refine PureC.is (Q8 hm hf (qh rfl) ?_) rfl
 unfold L2h.c
 simp[go_sem,V3.enc,vcs]
 refine Q4 ((hw a 131072 (by omega) (by omega)).is rfl) ?_
 simp[go_sem,L2h.r]
theorem Q73 {f fv:FuncId} (hf:Qa P f (L2b.c fv) L2b.r L2b.n) (hv:Qbz P fv):Qjx P f:=by
 intro a b h1 h2
 have g1:(-131072<=a.x/\a.x<=131072/\-131072<=a.y/\a.y<=131072/\-131072<=a.z/\a.z<=131072):=by simpa[V3.within,and_assoc]using h1
 have g2:(-131072<=b.x/\b.x<=131072/\-131072<=b.y/\b.y<=131072/\-131072<=b.z/\b.z<=131072):=by simpa[V3.within,and_assoc]using h2
 have m1:=Qgk (x:=a.y) (y:=b.z) (A:=131072) (B:=131072) (by omega) (by omega) (by omega) (by omega)
 have m2:=Qgk (x:=a.z) (y:=b.y) (A:=131072) (B:=131072) (by omega) (by omega) (by omega) (by omega)
 have m3:=Qgk (x:=a.z) (y:=b.x) (A:=131072) (B:=131072) (by omega) (by omega) (by omega) (by omega)
 have m4:=Qgk (x:=a.x) (y:=b.z) (A:=131072) (B:=131072) (by omega) (by omega) (by omega) (by omega)
 have m5:=Qgk (x:=a.x) (y:=b.y) (A:=131072) (B:=131072) (by omega) (by omega) (by omega) (by omega)
 have m6:=Qgk (x:=a.y) (y:=b.x) (A:=131072) (B:=131072) (by omega) (by omega) (by omega) (by omega)
 refine PureC.is (Q8 hm hf (qh rfl) ?_) rfl
 unfold L2b.c
 simp[go_sem,V3.enc,vcs]
 refine Q4 (hv a) ?_
 simp[go_sem,h1]
 refine Q4 (hv b) ?_
 simp (disch:=omega) [go_sem,h2,Q3,L2b.r,V3.crs]
omit hm in
theorem Q4m {a b:V3} (h1:a.valid=true) (h2:b.valid=true):(a.sub b).within 131072=true:=by
 have g1:=V3.valid_iff.1 h1
 have g2:=V3.valid_iff.1 h2
 simp only[V3.within,Bool.and_eq_true,decide_eq_true_eq]
 simp only[V3.sub]
 omega
omit hm in
theorem v3_zero (v:V3):decide (v=⟨0,0,0⟩)=(v.x == 0 && (v.y == 0 && v.z == 0)):=by
 cases v;rw[Bool.eq_iff_iff];simp[V3.mk.injEq]
theorem Q1c {f fv fs fc:FuncId} (hf:Qa P f (L2a.c fv fs fc) L2a.r L2a.n) (hv:Bu P fv) (hs:Qsw P fs) (hc:Qjx P fc):Qjz P f:=by
 intro a b c
 refine PureC.is (Q8 hm hf (qh rfl) ?_) rfl
 unfold L2a.c
 simp[go_sem,V3.enc,vcs]
 refine Qp (hv a) ?_
 cases h1:a.valid
 ·simp[go_sem,L2a.r,Wx,h1]
 simp[go_sem]
 refine Qp (hv b) ?_
 cases h2:b.valid
 ·simp[go_sem,L2a.r,Wx,h1,h2]
 simp[go_sem]
 refine Qp (hv c) ?_
 cases h3:c.valid
 ·simp[go_sem,L2a.r,Wx,h1,h2,h3]
 simp[go_sem]
 refine Qp (hs b a h2 h1) ?_
 simp[go_sem]
 refine Qp (hs c a h3 h1) ?_
 simp[go_sem]
 refine Qp (hc _ _ (Q4m h2 h1) (Q4m h3 h1)) ?_
 simp[go_sem,V3.enc,vcs,L2a.r,Wx,h1,h2,h3,v3_zero]
end
end Go.Abs
