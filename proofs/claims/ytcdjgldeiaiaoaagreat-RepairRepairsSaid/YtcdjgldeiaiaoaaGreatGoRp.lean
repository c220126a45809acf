/- Checking and repairing meshes: plain laws. -/
import Derived.Test.YtcdjgldeiaiaoaaGreatGoOriD
import Derived.Test.YtcdjgldeiaiaoaaGreatGoWeA
import Derived.Test.YtcdjgldeiaiaoaaGreatGoRb
set_option linter.unusedVariables false
set_option linter.unusedSimpArgs false
namespace Go.Abs
noncomputable def Mesh.inv (m:Mesh):Bool:=m.shells.any λsh=>decide (Y2 m.verts (Qk m.tris sh)<0)
noncomputable def Ky (m:Mesh):Int :=
 if m.check≠0 then m.check else if m.closed=false then 12 else if Yv m.tris=false then 13 else if m.tris.any m.deg=true then 1 else if m.inv=true then 1 else 0
structure Rep where
 me:Int
 de:Int
 du:Int
 fl:Int
 ho:Int
 iv:Int
 sh:Int
def Rep.zero:Rep:=⟨0,0,0,0,0,0,0⟩
noncomputable def J5 (m:Mesh):Mesh × Rep × Int :=
 if (Qb m).2.2≠0 then (Zc,Rep.zero,(Qb m).2.2) else
 let a:=Qb m
 if (Qg a.1).2.2.2≠0 then (Zc,Rep.zero,(Qg a.1).2.2.2) else
 let b:=Qg a.1
 if (Qb b.1).2.2≠0 then (Zc,Rep.zero,(Qb b.1).2.2) else
 let c:=Qb b.1
 if (Zp c.1).2.2≠0 then (Zc,Rep.zero,(Zp c.1).2.2) else
 let d:=Zp c.1
 if (Qu d.1).2.2≠0 then (Zc,Rep.zero,(Qu d.1).2.2) else
 let g:=Qu d.1
 if (Zs g.1).2.2≠0 then (Zc,Rep.zero,(Zs g.1).2.2) else
 let o:=Zs g.1
 if Ky o.1≠0 then (Zc,Rep.zero,Ky o.1) else
 (o.1,⟨a.2.1+c.2.1,b.2.1,b.2.2.1,d.2.1,g.2.1,o.2.1,(o.1.shells.length:Int)⟩,0)
structure Snd (m:Mesh):Prop where
 z:m.check=0
 clo:m.closed=true
 coh:Coh m.tris
 deg:∀t∈m.tris,m.deg t=false
 vol:∀sh∈m.shells,0<=Y2 m.verts (Qk m.tris sh)
theorem snd_iff {m:Mesh}:Ky m=0↔Snd m:=by
 unfold Ky
 constructor
 ·intro h
  by_cases h1:m.check=0
  case neg=>rw[if_pos h1]at h;exact absurd h h1
  rw[if_neg (by simpa using h1)]at h
  by_cases h2:m.closed=false
  case pos=>rw[if_pos h2]at h;simp at h
  rw[if_neg h2]at h
  by_cases h3:Yv m.tris=false
  case pos=>rw[if_pos h3]at h;simp at h
  rw[if_neg h3]at h
  by_cases h4:m.tris.any m.deg=true
  case pos=>rw[if_pos h4]at h;simp at h
  rw[if_neg h4]at h
  by_cases h5:m.inv=true
  case pos=>rw[if_pos h5]at h;simp at h
  refine⟨h1,by simpa using h2,cohB_iff.1 (by simpa using h3),?_,?_⟩
  ·intro t ht
   cases hd:m.deg t with
   | false=>rfl
   | true=>exact absurd (List.any_eq_true.2 ⟨t,ht,hd⟩) h4
  ·intro sh hs
   by_cases hn:Y2 m.verts (Qk m.tris sh)<0
   ·exact absurd (List.any_eq_true.2 ⟨sh,hs,by simpa using hn⟩) h5
   ·omega
 ·intro h
  have h4:m.tris.any m.deg=false:=by
   rw[List.any_eq_false];intro t ht;rw[h.deg t ht];simp
  have h5:m.inv=false:=by
   unfold Mesh.inv
   rw[List.any_eq_false];intro sh hs;have:=h.vol sh hs;simp;omega
  rw[if_neg (by simpa using h.z),if_neg (by rw[h.clo];simp),if_neg (by rw[cohB_iff.2 h.coh];simp),if_neg (by rw[h4];simp),if_neg (by rw[h5];simp)]
theorem Snd.out {m:Mesh} (h:Snd m):OutOk m:=⟨h.z,h.clo,cohB_iff.2 h.coh,h.vol⟩
theorem Snd.border {m:Mesh} (h:Snd m):m.border=[]:=by
 have:=h.clo
 unfold Mesh.closed at this
 simp only[Bool.and_eq_true,decide_eq_true_eq]at this
 exact this.2
theorem Snd.len {m:Mesh} (h:Snd m):m.tris.length<=4096:=(Mesh.check_zero.1 h.z).2.1
theorem T3.ext' {a b:T3} (h1:a.a=b.a) (h2:a.b=b.b) (h3:a.c=b.c):a=b:=by cases a;cases b;simp_all
theorem Snd.orient {m:Mesh} (h:Snd m):Zp m=(m,0,0):=by
 obtain⟨L,hL⟩:=Uw m.tris
 rw[oriR_ok h.z (orientL_some hL (good_self h.coh)),difN_self];rfl
theorem Snd.fill {m:Mesh} (h:Snd m):Qu m=(m,0,0):=by
 have hl:=loops_closed h.z h.border
 have hm:m.fillM=m:=by
  unfold Mesh.fillM
  rw[hl];simp
 unfold Qu
 rw[hm,hl]
 rw[if_pos rfl,if_pos h.len];rfl
theorem Snd.outw {m:Mesh} (h:Snd m):Zs m=(m,0,0):=outR_again h.out
structure Wld (m:Mesh):Prop where
 asc:m.verts.Pairwise V3.lt
 used:∀v∈m.verts,∃t∈m.tris,v∈m.cor t
theorem Wld.weld {m:Mesh} (h:Wld m) (hz:m.check=0):Qb m=(m,0,0):=by
 have hv:m.wverts=m.verts:=by
  refine Xr V3.ltO (Yi _) h.asc λv=>?_
  rw[mem_wverts]
  constructor
  ·rintro⟨t,ht,hv⟩
   obtain⟨a0,a1,b0,b1,c0,c1⟩:=tok hz ht
   simp only[Mesh.cor,List.mem_cons,List.not_mem_nil,or_false]at hv
   rcases hv with rfl | rfl | rfl
   ·exact Mesh.v_mem a0 a1
   ·exact Mesh.v_mem b0 b1
   ·exact Mesh.v_mem c0 c1
  ·exact h.used v
 have hnd:m.verts.Nodup:=by
  exact Kt V3.ltO h.asc
 have hi:∀i:Int,0<=i->i<m.verts.length->Jt m.verts (m.v i)=i:=by
  intro i h0 h1
  have:=Uz hnd (i:=i.toNat) (v:=m.v i) (by
   have hlt:i.toNat<m.verts.length:=by omega
   rw[List.getElem?_eq_getElem hlt,m.v_get h1 hlt])
  omega
 have ht:m.tris.map (Wt m m.verts)=m.tris:=by
  conv=>rhs;rw[<- List.map_id m.tris]
  refine List.map_congr_left λt ht=>?_
  obtain⟨a0,a1,b0,b1,c0,c1⟩:=tok hz ht
  simp only[Wt,hi _ a0 a1,hi _ b0 b1,hi _ c0 c1];rfl
 unfold Qb Mesh.weldM
 rw[if_pos hz,hv,ht]
 simp
theorem weldR_cases (m:Mesh):((Qb m).2.2≠0/\m.check≠0)∨(m.check=0/\Qb m=(m.weldM,(m.verts.length:Int)-m.wverts.length,0)):=by
 unfold Qb
 by_cases h:m.check=0
 ·rw[if_pos h];exact .inr ⟨h,rfl⟩
 ·rw[if_neg h];exact .inl ⟨h,h⟩
theorem weldM_wld {m:Mesh} (hz:m.check=0):Wld m.weldM where
 asc:=Yi m
 used v hv:=by
  have hv:v∈m.weldM.wverts:=by
   have h:=congrArg Mesh.verts (weld_weld hz)
   show v∈m.weldM.weldM.verts
   rw[h];exact hv
  exact mem_wverts.1 hv
theorem cor_rev (m:Mesh) (t:T3) (v:V3):v∈m.cor t.rev↔v∈m.cor t:=by
 simp only[Mesh.cor,T3.rev,List.mem_cons,List.not_mem_nil,or_false]
 constructor<;>rintro (h | h | h)<;>simp[h]
theorem Wld.fl {m:Mesh} (h:Wld m) {us:List T3} (hf:Fl m.tris us):Wld ⟨m.verts,us⟩ where
 asc:=h.asc
 used v hv:=by
  obtain⟨t,ht,hc⟩:=h.used v hv
  obtain⟨i,hi⟩:=List.getElem?_of_mem ht
  have hl:=(List.getElem?_eq_some_iff.1 hi).1
  rw[Ql hl]at hi
  obtain rfl:=Option.some.inj hi
  refine⟨tAt us i,List.mem_of_getElem? (Ql (by rw[hf.len];exact hl)),?_⟩
  show v∈m.cor _
  rcases hf.tat hl with h1 | h1
  ·rw[h1];exact hc
  ·rw[h1,cor_rev];exact hc
theorem Wld.more {m:Mesh} (h:Wld m) (k:List T3):Wld ⟨m.verts,m.tris++k⟩ where
 asc:=h.asc
 used v hv:=by
  obtain⟨t,ht,hc⟩:=h.used v hv
  exact⟨t,List.mem_append_left _ ht,hc⟩
theorem oriR_cs (m:Mesh):((Zp m).2.2≠0)∨(m.check=0/\∃us,Y8 m.tris=some us/\Zp m=(⟨m.verts,us⟩,(difN m.tris us:Int),0)):=by
 by_cases h:m.check=0
 case neg =>
  left
  unfold Zp
  rw[if_pos h];exact h
 cases ho:Y8 m.tris with
 | none=>left;rw[oriR_err h ho];simp
 | some us=>exact .inr ⟨h,us,rfl,oriR_ok h ho⟩
theorem fillR_cases (m:Mesh):((Qu m).2.2≠0)∨(m.loops.2=0/\m.fillM.tris.length<=4096/\Qu m=(m.fillM,(m.loops.1.length:Int),0)):=by
 unfold Qu
 by_cases h:m.loops.2=0
 ·rw[if_pos h]
  by_cases h2:m.fillM.tris.length<=4096
  ·rw[if_pos h2];exact .inr ⟨h,h2,rfl⟩
  ·rw[if_neg h2];left;simp
 ·rw[if_neg h];exact .inl h
theorem repR_cases (m:Mesh):((J5 m).2.2≠0/\J5 m=(Zc,Rep.zero,(J5 m).2.2)) ∨
  ((J5 m).2.2=0/\Wld (J5 m).1/\Snd (J5 m).1/\(J5 m).2.1.sh=((J5 m).1.shells.length:Int)):=by
 unfold J5
 simp only[]
 rcases weldR_cases m with⟨h,hz⟩ | ⟨hz,h1⟩
 ·rw[if_pos h];exact .inl ⟨h,rfl⟩
 rw[h1]
 simp only[ne_eq,not_true_eq_false,if_false]
 by_cases h2:(Qg m.weldM).2.2.2=0
 case neg=>rw[if_pos h2];exact .inl ⟨h2,rfl⟩
 rw[if_neg (by simpa using h2)]
 rcases weldR_cases (Qg m.weldM).1 with⟨h,hz⟩ | ⟨hz3,h3⟩
 ·rw[if_pos h];exact .inl ⟨h,rfl⟩
 rw[h3]
 simp only[not_true_eq_false,if_false]
 have hw:=weldM_wld hz3
 rcases oriR_cs (Qg m.weldM).1.weldM with h | ⟨hz4,us,ho,h4⟩
 ·rw[if_pos h];exact .inl ⟨h,rfl⟩
 rw[h4]
 simp only[not_true_eq_false,if_false]
 have hw4:=hw.fl (by obtain⟨L,hL⟩:=Uw (Qg m.weldM).1.weldM.tris;exact(orientL_good hL ho).fl)
 generalize (⟨(Qg m.weldM).1.weldM.verts,us⟩:Mesh)=d at *
 rcases fillR_cases d with h | ⟨hl,hlen,h5⟩
 ·rw[if_pos h];exact .inl ⟨h,rfl⟩
 rw[h5]
 simp only[not_true_eq_false,if_false]
 have hw5:Wld d.fillM:=hw4.more _
 generalize d.fillM=g at *
 rcases outR_cases g with⟨h,_⟩ | ⟨h6,hok⟩
 ·rw[if_pos h];exact .inl ⟨h,rfl⟩
 rw[h6]
 simp only[not_true_eq_false,if_false]
 have hw6:Wld g.outw:=hw5.fl (flp_Fl _ _)
 by_cases h7:Ky g.outw=0
 case neg=>rw[if_pos h7];exact .inl ⟨h7,rfl⟩
 rw[if_neg (by simpa using h7)]
 exact .inr ⟨rfl,hw6,snd_iff.1 h7,rfl⟩
end Go.Abs
