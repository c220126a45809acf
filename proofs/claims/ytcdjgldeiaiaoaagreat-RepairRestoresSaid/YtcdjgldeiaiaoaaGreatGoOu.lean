/- Part of the library on which the proof stands: an abstract machine, its values and its soundness against the model; or what functions of the program do to such values. -/
import Derived.Test.YtcdjgldeiaiaoaaGreatGoOriD
import Derived.Test.YtcdjgldeiaiaoaaGreatGoWeA
import Derived.Test.YtcdjgldeiaiaoaaGreatGoShpN
import Derived.Test.YtcdjgldeiaiaoaaGreatGoTpE
import Derived.Test.YtcdjgldeiaiaoaaGreatGoRevC
import Derived.Test.YtcdjgldeiaiaoaaGreatGoSch
set_option linter.unusedVariables false
set_option linter.unusedSimpArgs false
namespace Go.Abs
noncomputable def Mesh.inv (m:Mesh):Bool:=m.shells.any λsh=>decide (Zk m.verts (Qo m.tris sh)<0)
noncomputable def Jy (m:Mesh):Int :=
 if m.check≠0 then m.check else if m.closed=false then 12 else if Xw m.tris=false then 13 else if m.tris.any m.deg=true then 1 else if m.inv=true then 1 else 0
structure Rep where
 me:Int
 de:Int
 du:Int
 fl:Int
 ho:Int
 iv:Int
 sh:Int
def Rep.zero:Rep:=⟨0,0,0,0,0,0,0⟩
noncomputable def Jm (m:Mesh):Mesh × Rep × Int :=
 if (Q8 m).2.2≠0 then (Z0,Rep.zero,(Q8 m).2.2) else
 let a:=Q8 m
 if (Qc a.1).2.2.2≠0 then (Z0,Rep.zero,(Qc a.1).2.2.2) else
 let b:=Qc a.1
 if (Q8 b.1).2.2≠0 then (Z0,Rep.zero,(Q8 b.1).2.2) else
 let c:=Q8 b.1
 if (Zm c.1).2.2≠0 then (Z0,Rep.zero,(Zm c.1).2.2) else
 let d:=Zm c.1
 if (Qy d.1).2.2≠0 then (Z0,Rep.zero,(Qy d.1).2.2) else
 let g:=Qy d.1
 if (Zz g.1).2.2≠0 then (Z0,Rep.zero,(Zz g.1).2.2) else
 let o:=Zz g.1
 if Jy o.1≠0 then (Z0,Rep.zero,Jy o.1) else
 (o.1,⟨a.2.1+c.2.1,b.2.1,b.2.2.1,d.2.1,g.2.1,o.2.1,(o.1.shells.length:Int)⟩,0)
structure Snd (m:Mesh):Prop where
 z:m.check=0
 clo:m.closed=true
 coh:Coh m.tris
 deg:∀t∈m.tris,m.deg t=false
 vol:∀sh∈m.shells,0<=Zk m.verts (Qo m.tris sh)
theorem snd_iff {m:Mesh}:Jy m=0↔Snd m:=by
 unfold Jy
 constructor
 ·intro h
  by_cases h1:m.check=0
  case neg=>rw[if_pos h1]at h;exact absurd h h1
  rw[if_neg (by simpa using h1)]at h
  by_cases h2:m.closed=false
  case pos=>rw[if_pos h2]at h;simp at h
  rw[if_neg h2]at h
  by_cases h3:Xw m.tris=false
  case pos=>rw[if_pos h3]at h;simp at h
  rw[if_neg h3]at h
  by_cases h4:m.tris.any m.deg=true
  case pos=>rw[if_pos h4]at h;simp at h
  rw[if_neg h4]at h
  by_cases h5:m.inv=true
  case pos=>rw[if_pos h5]at h;simp at h
  refine⟨h1,by simpa using h2,cohB_iff.1 (by simpa using h3),?_,?_⟩
  ·intro t ht
   cases hd:m.deg t with
   | false=>rfl
   | true=>exact absurd (List.any_eq_true.2 ⟨t,ht,hd⟩) h4
  ·intro sh hs
   by_cases hn:Zk m.verts (Qo m.tris sh)<0
   ·exact absurd (List.any_eq_true.2 ⟨sh,hs,by simpa using hn⟩) h5
   ·omega
 ·intro h
  have h4:m.tris.any m.deg=false:=by
   rw[List.any_eq_false];intro t ht;rw[h.deg t ht];simp
  have h5:m.inv=false:=by
   unfold Mesh.inv
   rw[List.any_eq_false];intro sh hs;have:=h.vol sh hs;simp;omega
  rw[if_neg (by simpa using h.z),if_neg (by rw[h.clo];simp),if_neg (by rw[cohB_iff.2 h.coh];simp),if_neg (by rw[h4];simp),if_neg (by rw[h5];simp)]
theorem Snd.out {m:Mesh} (h:Snd m):OutOk m:=⟨h.z,h.clo,cohB_iff.2 h.coh,h.vol⟩
theorem Snd.border {m:Mesh} (h:Snd m):m.border=[]:=by
 have:=h.clo
 unfold Mesh.closed at this
 simp only[Bool.and_eq_true,decide_eq_true_eq]at this
 exact this.2
theorem Snd.len {m:Mesh} (h:Snd m):m.tris.length<=4096:=(Mesh.check_zero.1 h.z).2.1
theorem Snd.orient {m:Mesh} (h:Snd m):Zm m=(m,0,0):=by
 obtain⟨L,hL⟩:=E8 m.tris
 rw[Q5u h.z (Kd hL (Qfb h.coh)),Q52];rfl
theorem Snd.fill {m:Mesh} (h:Snd m):Qy m=(m,0,0):=by
 have hl:=Q67 h.z h.border
 have hm:m.fillM=m:=by
  unfold Mesh.fillM
  rw[hl];simp
 unfold Qy
 rw[hm,hl]
 rw[if_pos rfl,if_pos h.len];rfl
theorem Snd.outw {m:Mesh} (h:Snd m):Zz m=(m,0,0):=Qan h.out
structure Wld (m:Mesh):Prop where
 asc:m.verts.Pairwise V3.lt
 used:∀v∈m.verts,∃t∈m.tris,v∈m.cor t
theorem Wld.weld {m:Mesh} (h:Wld m) (hz:m.check=0):Q8 m=(m,0,0):=by
 have hv:m.wverts=m.verts:=by
  refine Jz V3.ltO (Y5 _) h.asc λv=>?_
  rw[mem_wverts]
  constructor
  ·rintro⟨t,ht,hv⟩
   obtain⟨a0,a1,b0,b1,c0,c1⟩:=tok hz ht
   simp only[Mesh.cor,List.mem_cons,List.not_mem_nil,or_false]at hv
   rcases hv with rfl | rfl | rfl
   ·exact Mesh.v_mem a0 a1
   ·exact Mesh.v_mem b0 b1
   ·exact Mesh.v_mem c0 c1
  ·exact h.used v
 have hnd:m.verts.Nodup:=by
  exact Jk V3.ltO h.asc
 have hi:∀i:Int,0<=i->i<m.verts.length->Kf m.verts (m.v i)=i:=by
  intro i h0 h1
  have:=Jo hnd (i:=i.toNat) (v:=m.v i) (by
   have hlt:i.toNat<m.verts.length:=by omega
   rw[q9 hlt,m.v_get h1 hlt])
  omega
 have ht:m.tris.map (K8 m m.verts)=m.tris:=by
  conv=>rhs;rw[<- List.map_id m.tris]
  refine ji λt ht=>?_
  obtain⟨a0,a1,b0,b1,c0,c1⟩:=tok hz ht
  simp only[K8,hi _ a0 a1,hi _ b0 b1,hi _ c0 c1];rfl
 unfold Q8 Mesh.weldM
 rw[if_pos hz,hv,ht]
 simp
theorem W0 (m:Mesh):((Q8 m).2.2≠0/\m.check≠0)∨(m.check=0/\Q8 m=(m.weldM,(m.verts.length:Int)-m.wverts.length,0)):=by
 unfold Q8
 by_cases h:m.check=0
 ·rw[if_pos h];exact .inr ⟨h,rfl⟩
 ·rw[if_neg h];exact .inl ⟨h,h⟩
theorem Q4f {m:Mesh} (hz:m.check=0):Wld m.weldM where
 asc:=Y5 m
 used v hv:=by
  have hv:v∈m.weldM.wverts:=by
   have h:=congrArg Mesh.verts (Qdr hz)
   show v∈m.weldM.weldM.verts
   rw[h];exact hv
  exact mem_wverts.1 hv
theorem Qde (m:Mesh) (t:T3) (v:V3):v∈m.cor t.rev↔v∈m.cor t:=by
 simp only[Mesh.cor,T3.rev,List.mem_cons,List.not_mem_nil,or_false]
 constructor<;>rintro (h | h | h)<;>simp[h]
theorem Wld.fl {m:Mesh} (h:Wld m) {us:List T3} (hf:Fl m.tris us):Wld ⟨m.verts,us⟩ where
 asc:=h.asc
 used v hv:=by
  obtain⟨t,ht,hc⟩:=h.used v hv
  obtain⟨i,hi⟩:=qr ht
  have hl:=(q8.1 hi).1
  rw[Qi hl]at hi
  obtain rfl:=Option.some.inj hi
  refine⟨tAt us i,qb (Qi (by rw[hf.len];exact hl)),?_⟩
  show v∈m.cor _
  rcases hf.tat hl with h1 | h1
  ·rw[h1];exact hc
  ·rw[h1,Qde];exact hc
theorem Wld.more {m:Mesh} (h:Wld m) (k:List T3):Wld ⟨m.verts,m.tris++k⟩ where
 asc:=h.asc
 used v hv:=by
  obtain⟨t,ht,hc⟩:=h.used v hv
  exact⟨t,List.mem_append_left _ ht,hc⟩
theorem oriR_cs (m:Mesh):((Zm m).2.2≠0)∨(m.check=0/\∃us,Zx m.tris=some us/\Zm m=(⟨m.verts,us⟩,(Q0t m.tris us:Int),0)):=by
 by_cases h:m.check=0
 case neg =>
  left
  unfold Zm
  rw[if_pos h];exact h
 cases ho:Zx m.tris with
 | none=>left;rw[Qhz h ho];simp
 | some us=>exact .inr ⟨h,us,rfl,Q5u h ho⟩
theorem Q95 (m:Mesh):((Qy m).2.2≠0)∨(m.loops.2=0/\m.fillM.tris.length<=4096/\Qy m=(m.fillM,(m.loops.1.length:Int),0)):=by
 unfold Qy
 by_cases h:m.loops.2=0
 ·rw[if_pos h]
  by_cases h2:m.fillM.tris.length<=4096
  ·rw[if_pos h2];exact .inr ⟨h,h2,rfl⟩
  ·rw[if_neg h2];left;simp
 ·rw[if_neg h];exact .inl h
theorem Qah (m:Mesh):((Jm m).2.2≠0/\Jm m=(Z0,Rep.zero,(Jm m).2.2)) ∨
  ((Jm m).2.2=0/\Wld (Jm m).1/\Snd (Jm m).1/\(Jm m).2.1.sh=((Jm m).1.shells.length:Int)):=by
 unfold Jm
 simp only[]
 rcases W0 m with⟨h,hz⟩ | ⟨hz,h1⟩
 ·rw[if_pos h];exact .inl ⟨h,rfl⟩
 rw[h1]
 simp only[ne_eq,not_true_eq_false,if_false]
 by_cases h2:(Qc m.weldM).2.2.2=0
 case neg=>rw[if_pos h2];exact .inl ⟨h2,rfl⟩
 rw[if_neg (by simpa using h2)]
 rcases W0 (Qc m.weldM).1 with⟨h,hz⟩ | ⟨hz3,h3⟩
 ·rw[if_pos h];exact .inl ⟨h,rfl⟩
 rw[h3]
 simp only[not_true_eq_false,if_false]
 have hw:=Q4f hz3
 rcases oriR_cs (Qc m.weldM).1.weldM with h | ⟨hz4,us,ho,h4⟩
 ·rw[if_pos h];exact .inl ⟨h,rfl⟩
 rw[h4]
 simp only[not_true_eq_false,if_false]
 have hw4:=hw.fl (by obtain⟨L,hL⟩:=E8 (Qc m.weldM).1.weldM.tris;exact(Q5t hL ho).fl)
 generalize (⟨(Qc m.weldM).1.weldM.verts,us⟩:Mesh)=d at *
 rcases Q95 d with h | ⟨hl,hlen,h5⟩
 ·rw[if_pos h];exact .inl ⟨h,rfl⟩
 rw[h5]
 simp only[not_true_eq_false,if_false]
 have hw5:Wld d.fillM:=hw4.more _
 generalize d.fillM=g at *
 rcases Q21 g with⟨h,_⟩ | ⟨h6,hok⟩
 ·rw[if_pos h];exact .inl ⟨h,rfl⟩
 rw[h6]
 simp only[not_true_eq_false,if_false]
 have hw6:Wld g.outw:=hw5.fl (Q6k _ _)
 by_cases h7:Jy g.outw=0
 case neg=>rw[if_pos h7];exact .inl ⟨h7,rfl⟩
 rw[if_neg (by simpa using h7)]
 exact .inr ⟨rfl,hw6,snd_iff.1 h7,rfl⟩
def L0r.c (L08 L1a L0b L1s L0t:FuncId):C :=(.seq (.reg [Au 1 (.box (.t 0)),Ac 2 0]) (.seq (.seq (.reg [Ag 5 2 1,Au 6 (.call L08 [.t 5]),Am 3 6]) (.seq (.reg [Am 7 3,Ak .neq 8 7 0]) (.ite (.t 8) (.seq (.reg [Am 9 3,Am 2 9]) .ret) .skip))) (.seq (.seq (.reg [Ag 10 2 1,Au 11 (.call L1a [.t 10]),Au 12 (.un .not (.t 11))]) (.ite (.t 12) (.seq (.reg [Ac 2 12]) .ret) .skip)) (.seq (.seq (.reg [Ag 13 2 1,Au 14 (.call L0b [.t 13]),Au 15 (.un .not (.t 14))]) (.ite (.t 15) (.seq (.reg [Ac 2 13]) .ret) .skip)) (.seq (.seq (.reg [Af 16 1 1,Al 17 16,An 18 0 17,Ac 19 0]) (.blk 0 (.loop (.seq (.reg [Aj .lss 20 19 18])
 (.seq (.ite (.t 20) .skip (.exit 0)) (.seq (.blk 1 (.seq (.reg [Am 21 19,Am 4 21]) (.seq (.reg [Ag 22 2 1,Am 23 4,Au 24 (.call L1s [.t 22,.t 23])]) (.ite (.t 24) (.seq (.reg [Ac 2 1]) .ret) .skip)))) (.reg [Ad 25 19 1,Am 19 25]))))))) (.seq (.seq (.reg [Ag 26 2 1,Au 27 (.call L0t [.t 26])]) (.ite (.t 27) (.seq (.reg [Ac 2 1]) .ret) .skip)) (.seq (.reg [Ac 2 0]) .ret)))))))
def L0r.r:List Rr:=[.tmp 2]
abbrev L0r.n:Nat:=28
def L0s.c (L0z L0v L0x L0w L0y L0u:FuncId):C :=(.seq (.reg [Au 1 (.box (.t 0)),Au 2 (.alloc [.nil,.nil]),Au 3 (.alloc [(.i .i64 0),(.i .i64 0),(.i .i64 0),(.i .i64 0),(.i .i64 0),(.i .i64 0),(.i .i64 0)]),Ac 4 0]) (.seq (.reg [Au 10 (.bso 1 7 [.any] [(0,(.c (.f L0z []))),(1,(.c (.f L0v []))),(2,(.c (.f L0z []))),(3,(.c (.f L0x []))),(4,(.c (.f L0w []))),(5,(.c (.f L0y []))),(6,(.c (.f L0u [])))]),Am 5 10]) (.seq (.reg [Ag 11 2 1,Au 12 (.build [.nil,.nil,(.i .i64 0),(.i .i64 0),(.i .i64 0),(.i .i64 0),(.i .i64 0),(.i .i64 0),(.i .i64 0)] [(0,2,(.t 11))]),Au 13 (.box (.t 12)),Am 6 13]) (.seq (.seq
 (.reg [Am 14 5,An 15 0 14,Ac 16 0]) (.blk 0 (.loop (.seq (.reg [Aj .lss 17 16 15]) (.seq (.ite (.t 17) .skip (.exit 0)) (.seq (.blk 1 (.seq (.reg [Ai 18 1 14 16,Al 19 18,Am 8 19]) (.seq (.reg [Am 20 8,Am 21 6,Au 22 (.callv (.t 20) [.t 21]),Am 9 22]) (.seq (.reg [Am 23 9,Ak .neq 24 23 0]) (.ite (.t 24) (.seq (.reg [Au 25 (.build [.nil,.nil] []),Au 26 (.build [(.i .i64 0),(.i .i64 0),(.i .i64 0),(.i .i64 0),(.i .i64 0),(.i .i64 0),(.i .i64 0)] []),Am 27 9,As 2 2 25,As 7 3 26,Am 4 27]) .ret) .skip))))) (.reg [Ad 28 16 1,Am 16 28]))))))) (.seq (.drw [Am 29 6,Au 30 (.nck (.t 29)),Af 31 0 30,Ag 32 2 31,
 Am 33 6,Au 34 (.nck (.t 33)),Af 35 2 34,Ag 36 7 35,As 2 2 32,As 7 3 36,Ac 4 0] [[],[],[],[],[],[],[],[],[5,6,7],[],[]]) .ret)))))
def L0s.r:List Rr:=[.cell 2 (some 2),.cell 3 (some 7),.tmp 4]
abbrev L0s.n:Nat:=37
def L0t.c (L1c L0a:FuncId):C :=(.seq (.reg [Au 1 (.box (.t 0)),Ab 2 false]) (.seq (.seq (.reg [Ag 8 2 1,Au 9 (.call L1c [.t 8]),An 10 0 9,Ac 11 0]) (.blk 0 (.loop (.seq (.reg [Aj .lss 12 11 10]) (.seq (.ite (.t 12) .skip (.exit 0)) (.seq (.blk 1 (.seq (.reg [Ai 13 1 9 11,Al 14 13,Am 4 14]) (.seq (.reg [Af 15 0 1,Al 16 15,Au 17 (.build [.nil,.nil] [(0,1,(.t 16))]),Au 5 (.alloc [.nil,.nil]),As 2 5 17]) (.seq (.seq (.reg [Am 18 4,An 19 0 18,Ac 20 0]) (.blk 2 (.loop (.seq (.reg [Aj .lss 21 20 19]) (.seq (.ite (.t 21) .skip (.exit 2)) (.seq (.blk 3 (.seq (.reg [Ai 22 1 18 20,Al 23 22,Am 7 23]) (.drw [
 Af 24 1 5,Al 25 24,Af 26 1 1,Al 27 26,Am 28 7,Ai 29 3 27 28,Ag 30 3 29,Au 31 (.bsi 3 1 [(.i .i64 0),(.i .i64 0),(.i .i64 0)] [(0,(.t 30))]),Au 32 (.app 3 24 (.t 25) (.t 31)),Af 33 1 5,As 1 33 32] []))) (.reg [Ad 34 20 1,Am 20 34]))))))) (.seq (.reg [Ag 35 2 5,Au 36 (.call L0a [.t 35]),Ak .lss 37 36 0]) (.ite (.t 37) (.seq (.reg [Ab 2 true]) .ret) .skip)))))) (.reg [Ad 38 11 1,Am 11 38]))))))) (.seq (.reg [Ab 2 false]) .ret)))
def L0t.r:List Rr:=[.tmp 2]
abbrev L0t.n:Nat:=39
def L0u.c (L1c L0r:FuncId):C :=(.seq (.reg [Ac 2 0]) (.seq (.reg [Am 3 0,Am 4 0,Au 5 (.nck (.t 4)),Af 6 0 5,Ag 7 2 6,Au 8 (.call L1c [.t 7]),An 9 0 8,Au 10 (.nck (.t 3)),Af 11 2 10,Af 12 6 11,As 1 12 9]) (.seq (.reg [Am 13 0,Au 14 (.nck (.t 13)),Af 15 0 14,Ag 16 2 15,Au 17 (.call L0r [.t 16]),Am 2 17]) .ret)))
def L0u.r:List Rr:=[.tmp 2]
abbrev L0u.n:Nat:=18
def L0v.c (L1r:FuncId):C :=(.seq (.reg [Ac 2 0]) (.seq (.reg [Am 8 0,Au 9 (.nck (.t 8)),Af 10 0 9,Ag 11 2 10,Au 12 (.call L1r [.t 11]),Am 7 12,Ax1 13 0 7,Ax1 14 1 7,Ax1 15 2 7,Ax1 16 3 7,Au 3 (.alloc [.nil,.nil]),As 2 3 13,Am 4 14,Am 5 15,Am 6 16]) (.seq (.reg [Am 17 0,Ag 18 2 3,Au 19 (.nck (.t 17)),Af 20 0 19,As 2 20 18]) (.seq (.reg [Am 21 0,Am 22 4,Au 23 (.nck (.t 21)),Af 24 2 23,Af 25 1 24,As 1 25 22]) (.seq (.reg [Am 26 0,Am 27 5,Au 28 (.nck (.t 26)),Af 29 2 28,Af 30 2 29,As 1 30 27]) (.seq (.reg [Am 31 6,Am 2 31]) .ret))))))
def L0v.r:List Rr:=[.tmp 2]
abbrev L0v.n:Nat:=32
def L0w.c (L04:FuncId):C :=(.seq (.reg [Ac 2 0]) (.seq (.reg [Am 7 0,Au 8 (.nck (.t 7)),Af 9 0 8,Ag 10 2 9,Au 11 (.call L04 [.t 10]),Am 6 11,Ax1 12 0 6,Ax1 13 1 6,Ax1 14 2 6,Au 3 (.alloc [.nil,.nil]),As 2 3 12,Am 4 13,Am 5 14]) (.seq (.reg [Am 15 0,Ag 16 2 3,Au 17 (.nck (.t 15)),Af 18 0 17,As 2 18 16]) (.seq (.reg [Am 19 0,Am 20 4,Au 21 (.nck (.t 19)),Af 22 2 21,Af 23 4 22,As 1 23 20]) (.seq (.reg [Am 24 5,Am 2 24]) .ret)))))
def L0w.r:List Rr:=[.tmp 2]
abbrev L0w.n:Nat:=25
def L0x.c (L0c:FuncId):C :=(.seq (.reg [Ac 2 0]) (.seq (.reg [Am 7 0,Au 8 (.nck (.t 7)),Af 9 0 8,Ag 10 2 9,Au 11 (.call L0c [.t 10]),Am 6 11,Ax1 12 0 6,Ax1 13 1 6,Ax1 14 2 6,Au 3 (.alloc [.nil,.nil]),As 2 3 12,Am 4 13,Am 5 14]) (.seq (.reg [Am 15 0,Ag 16 2 3,Au 17 (.nck (.t 15)),Af 18 0 17,As 2 18 16]) (.seq (.reg [Am 19 0,Am 20 4,Au 21 (.nck (.t 19)),Af 22 2 21,Af 23 3 22,As 1 23 20]) (.seq (.reg [Am 24 5,Am 2 24]) .ret)))))
def L0x.r:List Rr:=[.tmp 2]
abbrev L0x.n:Nat:=25
def L0y.c (L0e:FuncId):C :=(.seq (.reg [Ac 2 0]) (.seq (.reg [Am 7 0,Au 8 (.nck (.t 7)),Af 9 0 8,Ag 10 2 9,Au 11 (.call L0e [.t 10]),Am 6 11,Ax1 12 0 6,Ax1 13 1 6,Ax1 14 2 6,Au 3 (.alloc [.nil,.nil]),As 2 3 12,Am 4 13,Am 5 14]) (.seq (.reg [Am 15 0,Ag 16 2 3,Au 17 (.nck (.t 15)),Af 18 0 17,As 2 18 16]) (.seq (.reg [Am 19 0,Am 20 4,Au 21 (.nck (.t 19)),Af 22 2 21,Af 23 5 22,As 1 23 20]) (.seq (.reg [Am 24 5,Am 2 24]) .ret)))))
def L0y.r:List Rr:=[.tmp 2]
abbrev L0y.n:Nat:=25
def L0z.c (L1t:FuncId):C :=(.seq (.reg [Ac 2 0]) (.seq (.reg [Am 7 0,Au 8 (.nck (.t 7)),Af 9 0 8,Ag 10 2 9,Au 11 (.call L1t [.t 10]),Am 6 11,Ax1 12 0 6,Ax1 13 1 6,Ax1 14 2 6,Au 3 (.alloc [.nil,.nil]),As 2 3 12,Am 4 13,Am 5 14]) (.seq (.reg [Am 15 0,Ag 16 2 3,Au 17 (.nck (.t 15)),Af 18 0 17,As 2 18 16]) (.seq (.reg [Am 19 0,Au 20 (.nck (.t 19)),Af 21 2 20,Af 22 0 21,Al 23 22,Am 24 4,Aj .add 25 23 24,Au 26 (.nck (.t 19)),Af 27 2 26,Af 28 0 27,As 1 28 25]) (.seq (.reg [Am 29 5,Am 2 29]) .ret)))))
def L0z.r:List Rr:=[.tmp 2]
abbrev L0z.n:Nat:=30
def L07.c (L0s L0r:FuncId):C :=(.seq (.reg [Ab 0 false]) (.seq (.reg [Au 6 (.build [(.i .i64 0),(.i .i64 0),(.i .i64 0)] []),Au 7 (.build [(.i .i64 0),(.i .i64 0),(.i .i64 0)] [(0,1,(.c (.i .i64 1)))]),Au 8 (.build [(.i .i64 0),(.i .i64 0),(.i .i64 0)] [(0,1,(.c (.i .i64 2)))]),Au 9 (.bso 3 3 [(.i .i64 0),(.i .i64 0),(.i .i64 0)] [(0,(.t 6)),(1,(.t 7)),(2,(.t 8))]),Am 1 9]) (.seq (.reg [Au 10 (.build [(.i .i64 0),(.i .i64 0),(.i .i64 0)] [(0,1,(.c (.i .i64 0))),(1,1,(.c (.i .i64 1))),(2,1,(.c (.i .i64 2)))]),Au 11 (.bso 3 1 [(.i .i64 0),(.i .i64 0),(.i .i64 0)] [(0,(.t 10))]),Am 2 11]) (.seq (.reg [
 Am 13 1,Am 14 2,Au 15 (.build [.nil,.nil] [(0,1,(.t 13)),(1,1,(.t 14))]),Au 16 (.call L0s [.t 15]),Am 12 16,Ax1 17 0 12,Ax1 18 1 12,Ax1 19 2 12,Au 3 (.alloc [.nil,.nil]),Au 4 (.alloc [(.i .i64 0),(.i .i64 0),(.i .i64 0),(.i .i64 0),(.i .i64 0),(.i .i64 0),(.i .i64 0)]),As 2 3 17,As 7 4 18,Am 5 19]) (.seq (.reg [Au 20 (.build [.nil,.nil] []),Au 21 (.call L0r [.t 20]),Ak .eql 22 21 0,Am 23 22,Av 24 23 (.build [(.i .i64 0),(.i .i64 0),(.i .i64 0)] []),Av 25 23 (.build [(.i .i64 0),(.i .i64 0),(.i .i64 0)] [(0,1,(.c (.i .i64 1)))]),Av 26 23 (.build [(.i .i64 0),(.i .i64 0),(.i .i64 0)] [(1,1,(.c (.i .i64 1)))]),
 Av 27 23 (.bso 3 3 [(.i .i64 0),(.i .i64 0),(.i .i64 0)] [(0,(.t 24)),(1,(.t 25)),(2,(.t 26))]),Av 28 23 (.mv (.t 2)),Av 29 23 (.build [.nil,.nil] [(0,1,(.t 27)),(1,1,(.t 28))]),Av 30 23 (.call L0r [.t 29]),Av 31 23 (.bin .eql (.t 30) (.c (.i .i64 12))),Ap 32 23 31,Am 33 32,Av 34 33 (.mv (.t 5)),Av 35 33 (.bin .eql (.t 34) (.c (.i .i64 0))),Ap 36 33 35,Am 37 36,Av 38 37 (.fa 0 (.t 3)),Av 39 37 (.ld none (.t 38)),Av 40 37 (.len 0 (.t 39)),Av 41 37 (.bin .eql (.t 40) (.c (.i .i64 0))),Ap 42 37 41,Am 43 42,Av 44 43 (.fa 1 (.t 3)),Av 45 43 (.ld none (.t 44)),Av 46 43 (.len 0 (.t 45)),Av 47 43 (.bin .eql (.t 46) (.c (.i .i64 0))),
 Ap 48 43 47,Am 49 48,Av 50 49 (.ld (some 7) (.t 4)),Av 51 49 (.build [(.i .i64 0),(.i .i64 0),(.i .i64 0),(.i .i64 0),(.i .i64 0),(.i .i64 0),(.i .i64 0)] [(0,1,(.c (.i .i64 3))),(1,1,(.c (.i .i64 1)))]),Av 52 49 (.eqa [1,1,1,1,1,1,1] false (.t 50) (.t 51)),Ap 53 49 52,Am 0 53]) .ret)))))
def L07.r:List Rr:=[.tmp 0]
abbrev L07.n:Nat:=54
def L0e.c (L08 L1a L0g L16 L15 L1c L0a L0i:FuncId):C :=(.seq (.reg [Au 1 (.box (.t 0)),Au 2 (.alloc [.nil,.nil]),Ac 3 0,Ac 4 0]) (.seq (.reg [Ag 15 2 1,Au 16 (.call L08 [.t 15]),Am 5 16]) (.seq (.blk 0 (.seq (.reg [Am 18 5,Ak .neq 19 18 0,Am 17 19]) (.ite (.t 17) (.seq (.reg [Au 20 (.build [.nil,.nil] []),Am 21 5,As 2 2 20,Ac 3 0,Am 4 21]) .ret) (.seq (.reg [Ag 23 2 1,Au 24 (.call L1a [.t 23]),Au 25 (.un .not (.t 24)),Am 22 25]) (.ite (.t 22) (.seq (.reg [Au 26 (.build [.nil,.nil] []),As 2 2 26,Ac 3 0,Ac 4 12]) .ret) (.seq (.reg [Af 28 1 1,Al 29 28,Au 30 (.call L0g [.t 29]),Au 31 (.un .not (.t 30)),
 Am 27 31]) (.ite (.t 27) (.seq (.reg [Au 32 (.build [.nil,.nil] []),As 2 2 32,Ac 3 0,Ac 4 13]) .ret) .skip))))))) (.seq (.drw [Af 33 0 1,Al 34 33,Au 35 (.call L16 [.t 34]),Af 36 1 1,Al 37 36,Au 38 (.call L15 [.t 37]),Au 39 (.build [.nil,.nil] [(0,1,(.t 35)),(1,1,(.t 38))]),Au 6 (.alloc [.nil,.nil]),As 2 6 39] [[],[],[],[2],[2],[],[],[],[]]) (.seq (.reg [Ac 7 0]) (.seq (.seq (.reg [Ag 40 2 1,Au 41 (.call L1c [.t 40]),An 42 0 41,Ac 43 0]) (.blk 1 (.loop (.seq (.reg [Aj .lss 44 43 42]) (.seq (.ite (.t 44) .skip (.exit 1)) (.seq (.blk 2 (.seq (.reg [Ai 45 1 41 43,Al 46 45,Am 9 46]) (.seq (.reg [Af 47 0 1,
 Al 48 47,Au 49 (.build [.nil,.nil] [(0,1,(.t 48))]),Au 10 (.alloc [.nil,.nil]),As 2 10 49]) (.seq (.seq (.reg [Am 50 9,An 51 0 50,Ac 52 0]) (.blk 3 (.loop (.seq (.reg [Aj .lss 53 52 51]) (.seq (.ite (.t 53) .skip (.exit 3)) (.seq (.blk 4 (.seq (.reg [Ai 54 1 50 52,Al 55 54,Am 12 55]) (.drw [Af 56 1 10,Al 57 56,Af 58 1 1,Al 59 58,Am 60 12,Ai 61 3 59 60,Ag 62 3 61,Au 63 (.bsi 3 1 [(.i .i64 0),(.i .i64 0),(.i .i64 0)] [(0,(.t 62))]),Au 64 (.app 3 24 (.t 57) (.t 63)),Af 65 1 10,As 1 65 64] []))) (.reg [Ad 66 52 1,Am 52 66]))))))) (.seq (.seq (.reg [Ag 67 2 10,Au 68 (.call L0a [.t 67]),Ak .geq 69 68 0])
 (.ite (.t 69) (.exit 2) .skip)) (.seq (.reg [Am 70 7,Ad 71 70 1,Am 7 71]) (.seq (.reg [Am 72 9,An 73 0 72,Ac 74 0]) (.blk 5 (.loop (.seq (.reg [Aj .lss 75 74 73]) (.seq (.ite (.t 75) .skip (.exit 5)) (.seq (.blk 6 (.seq (.reg [Ai 76 1 72 74,Al 77 76,Am 14 77]) (.drw [Af 78 1 6,Al 79 78,Am 80 14,Af 81 1 1,Al 82 81,Am 83 14,Ai 84 3 82 83,Ag 85 3 84,Au 86 (.call L0i [.t 85]),Ai 87 3 79 80,As 3 87 86] [[],[],[],[],[],[],[],[],[0,1],[],[]]))) (.reg [Ad 88 74 1,Am 74 88]))))))))))))) (.reg [Ad 89 43 1,Am 43 89]))))))) (.seq (.reg [Ag 90 2 6,Am 91 7,As 2 2 90,Am 3 91,Ac 4 0]) .ret)))))))
def L0e.r:List Rr:=[.cell 2 (some 2),.tmp 3,.tmp 4]
abbrev L0e.n:Nat:=92
def L0q.c (L0p L0k:FuncId):C :=(.seq (.reg [Au 1 (.box (.t 0)),Ac 2 0]) (.seq (.seq (.reg [Ag 6 2 1,Au 7 (.call L0p [.t 6]),Ak .neq 8 7 0]) (.ite (.t 8) (.seq (.reg [Ac 2 0]) .ret) .skip)) (.seq (.reg [Ac 3 0]) (.seq (.seq (.reg [Af 9 1 1,Al 10 9,An 11 0 10,Ac 12 0]) (.blk 0 (.loop (.seq (.reg [Aj .lss 13 12 11]) (.seq (.ite (.t 13) .skip (.exit 0)) (.seq (.blk 1 (.seq (.reg [Ai 14 3 10 12,Ag 15 3 14,Au 5 (.alloc [(.i .i64 0),(.i .i64 0),(.i .i64 0)]),As 3 5 15]) (.drw [Am 16 3,Af 17 0 1,Al 18 17,Af 19 0 5,Al 20 19,Ai 21 3 18 20,Ag 22 3 21,Af 23 0 1,Al 24 23,Af 25 1 5,Al 26 25,Ai 27 3 24 26,Ag 28 3 27,
 Af 29 0 1,Al 30 29,Af 31 2 5,Al 32 31,Ai 33 3 30 32,Ag 34 3 33,Au 35 (.call L0k [.t 22,.t 28,.t 34]),Aj .add 36 16 35,Am 3 36] []))) (.reg [Ad 37 12 1,Am 12 37]))))))) (.seq (.reg [Am 38 3,Am 2 38]) .ret)))))
def L0q.r:List Rr:=[.tmp 2]
abbrev L0q.n:Nat:=39
end Go.Abs
