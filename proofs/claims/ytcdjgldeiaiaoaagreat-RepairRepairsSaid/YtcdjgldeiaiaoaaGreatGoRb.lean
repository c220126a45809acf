/- Part of the library on which the proof stands: an abstract machine, its values and its soundness against the model; or what functions of the program do to such values. -/
import Derived.Test.YtcdjgldeiaiaoaaGreatGoWeC
import Derived.Test.YtcdjgldeiaiaoaaGreatGoOriA
import Derived.Test.YtcdjgldeiaiaoaaGreatGoToB
import Derived.Test.YtcdjgldeiaiaoaaGreatGoDet
set_option linter.unusedVariables false
set_option linter.unusedSimpArgs false
namespace Go.Abs
def findV (l:List V3) (v:V3):Int:=if v∈l then Jt l v else -1
def FindC (P:Program) (f:FuncId):Prop:=∀(l:List V3) (v:V3),l.length<=1000000->CallIs P f [vsV l,v.enc] (.i .i64 (findV l v))
def usedB (m:Mesh) (v:V3):Bool:=m.tris.any λt=>decide (v∈m.cor t)
def UsedBC (P:Program) (f:FuncId):Prop:=∀(m:Mesh) (v:V3),m.check=0->CallIs P f [m.enc,v.enc] (.b (usedB m v))
def InsertC (P:Program) (f:FuncId):Prop:=∀(l:List V3) (v:V3),l.length<=1000000->l.Pairwise V3.lt->v∉l->CallIs P f [vsV l,v.enc] (vsV (insG V3.lt v l))
def Xf (l:List V3) (v:V3):Nat:=l.countP λx=>decide (V3.lt x v)
theorem posV_le (l:List V3) (v:V3):Xf l v<=l.length:=List.countP_le_length
theorem Wc {v:V3}:∀{l:List V3},l.Pairwise V3.lt->∀{j:Nat} {u:V3},l[j]?=some u->(V3.lt u v↔j<Xf l v)
 | [],_,j,u,h=>by simp at h
 | x::r,ha,j,u,h=>by
   have hc:=List.pairwise_cons.1 ha
   by_cases hx:V3.lt x v
   ·have hp:Xf (x::r) v=Xf r v+1:=by simp[Xf,List.countP_cons,hx]
    cases j with
    | zero=>simp at h;subst h;simp[hp,hx]
    | succ j=>simp at h;rw[Wc hc.2 h,hp];omega
   ·have h0:Xf r v=0:=by
     unfold Xf
     rw[List.countP_eq_zero]
     intro w hw
     simp only[decide_eq_true_eq]
     exact λh1=>hx (V3.ltO.tr (hc.1 w hw) h1)
    have hp:Xf (x::r) v=0:=by unfold Xf at h0 ⊢;simp[List.countP_cons,hx,h0]
    rw[hp]
    simp only[Nat.not_lt_zero,iff_false]
    cases j with
    | zero=>simp at h;subst h;exact hx
    | succ j =>
      simp at h
      rw[Wc hc.2 h,h0];omega
theorem insG_pos {v:V3} {l:List V3} (h:l.Pairwise V3.lt) (hv:v∉l):insG V3.lt v l=l.take (Xf l v)++v::l.drop (Xf l v):=by
 have h':(l.take (Xf l v)++l.drop (Xf l v)).Pairwise V3.lt:=by rw[List.take_append_drop];exact h
 have hp:=List.pairwise_append.1 h'
 refine Xr V3.ltO (insG_asc V3.ltO h) ?_ λa=>?_
 ·rw[List.pairwise_append]
  have hlow:∀u∈l.take (Xf l v),V3.lt u v:=by
   intro u hu
   obtain⟨j,hj⟩:=List.getElem?_of_mem hu
   rw[List.getElem?_take]at hj
   split at hj
   ·rename_i hjl
    exact(Wc h hj).2 hjl
   ·simp at hj
  have hhigh:∀u∈l.drop (Xf l v),V3.lt v u:=by
   intro u hu
   obtain⟨j,hj⟩:=List.getElem?_of_mem hu
   rw[List.getElem?_drop]at hj
   refine Decidable.byContradiction λhc=>?_
   have h1:¬ V3.lt u v:=λh2=>by have:=(Wc h hj).1 h2;omega
   have h2:u=v:=V3.ltO.tot h1 hc
   exact hv (by rw[<- h2];exact List.mem_of_getElem? hj)
  refine⟨hp.1,List.pairwise_cons.2 ⟨hhigh,hp.2.1⟩,λa ha b hb=>?_⟩
  rcases List.mem_cons.1 hb with rfl | hb
  ·exact hlow a ha
  ·exact hp.2.2 a ha b hb
 ·rw[mem_insG,List.mem_append,List.mem_cons]
  have:a∈l↔a∈l.take (Xf l v)∨a∈l.drop (Xf l v):=by rw[<- List.mem_append,List.take_append_drop]
  rw[this]
  constructor
  ·rintro (h1 | h1 | h1)<;>simp[h1]
  ·rintro (h1 | h1 | h1)<;>simp[h1]
def Wf (l:List V3) (v:V3) (k:Nat):List V3:=if Xf l v<k then l.take (Xf l v)++v::(l.take k).drop (Xf l v) else l.take k
theorem insK_end {v:V3} {l:List V3} (h:l.Pairwise V3.lt) (hv:v∉l):(if Xf l v<l.length then Wf l v l.length else Wf l v l.length++[v])=insG V3.lt v l:=by
 rw[insG_pos h hv]
 have hle:=posV_le l v
 unfold Wf
 by_cases hp:Xf l v<l.length
 ·rw[if_pos hp,if_pos hp,List.take_length]
 ·have he:Xf l v=l.length:=by omega
  rw[if_neg hp,if_neg hp,he,List.take_length,List.drop_length]
theorem insK_len (l:List V3) (v:V3) (k:Nat) (hk:k<=l.length):(Wf l v k).length=if Xf l v<k then k+1 else k:=by
 unfold Wf
 split
 ·rename_i h
  simp;omega
 ·simp;omega
theorem insK_succ (l:List V3) (v:V3) {k:Nat} {u:V3} (h:l[k]?=some u):Wf l v (k+1)=Wf l v k++(if Xf l v=k then [v,u] else [u]):=by
 have hk:=(List.getElem?_eq_some_iff.1 h).1
 have e1:l.take (k+1)=l.take k++[u]:=by rw[List.take_add_one,h];rfl
 have e2:(l.take k).length=k:=by simp;omega
 unfold Wf
 rcases Nat.lt_trichotomy (Xf l v) k with hp | hp | hp
 ·rw[if_pos (by omega),if_pos hp,if_neg (by omega),e1,List.drop_append_of_le_length (by omega)]
  simp
 ·rw[if_pos (by omega),if_neg (by omega),if_pos hp,e1,hp,List.drop_append_of_le_length (by omega),List.drop_of_length_le (by omega)]
  simp
 ·rw[if_neg (by omega),if_neg (by omega),if_neg (by omega),e1]
theorem idxOf_first:∀{l:List V3} {k:Nat} {v:V3},l[k]?=some v->v∉l.take k->l.idxOf v=k
 | [],k,v,h,_=>by simp at h
 | x::r,0,v,h,_=>by simp at h;subst h;simp[List.idxOf_cons]
 | x::r,k+1,v,h,hn=>by
   simp only[List.getElem?_cons_succ]at h
   simp only[List.take_succ_cons,List.mem_cons,not_or]at hn
   have hb:(x == v)=false:=by simp;exact λh=>hn.1 h.symm
   rw[List.idxOf_cons,hb,idxOf_first h hn.2];rfl
theorem v3_beq {a b:V3} (h:a≠b):((a.x == b.x) && ((a.y == b.y) && (a.z == b.z)))=false:=by
 rw[Bool.eq_false_iff]
 intro hh
 simp only[Bool.and_eq_true,beq_iff_eq]at hh
 exact h (by cases a;cases b;simp_all)
section
variable {P:Program} (hm:P.follows .mixedOrders=true)
include hm
set_option maxHeartbeats 1000000 in
theorem ref09_find_ok {f:FuncId} (hf:Q9 P f ref09_find.c ref09_find.r ref09_find.n):FindC P f:=by
 intro l v hl
 refine PureC.is (Q7 hm hf (Nat.le_of_ble_eq_true rfl) ?_) rfl
 unfold ref09_find.c
 simp[go_sem,V3.enc,vcs,vsV]
 refine Qe (α:=Nat) (λk=>k<=l.length/\v∉l.take k) (λk=>⟨[(0,vsV l),(3,.p 0 1 0 0),(5,.i .i64 k)],[.arr 1 3 [v.cs]]⟩) (λk=>l.length-k) 0 ⟨Nat.zero_le _,by simp⟩ ?_ ?_
 ·simp[go_sem,vsV,vcs]
 ·rintro k ⟨hk,hnot⟩
  by_cases hkl:k=l.length
  ·subst hkl
   rw[List.take_length]at hnot
   simp[go_sem,vsV,vcs,ref09_find.r,findV,hnot]
  ·have hlt:k<l.length:=by omega
   have hp:l[k]?=some l[k]:=List.getElem?_eq_getElem hlt
   generalize l[k]=u at hp
   obtain⟨_,hp'⟩:=List.getElem?_eq_some_iff.1 hp
   by_cases hu:u=v
   ·subst hu
    have hmem:=List.mem_of_getElem? hp
    have hidx:Jt l u=k:=by
     have h1:l.idxOf u=k:=idxOf_first hp hnot
     unfold Jt;omega
    simp (disch:=omega) [go_sem,vsV,vcs,hlt,hp,hp',ref09_find.r,findV,hmem,hidx,Q0]
   ·have hne:¬ (u.x=v.x/\u.y=v.y/\u.z=v.z):=by
     rintro⟨h1,h2,h3⟩
     exact hu (by cases u;cases v;simp_all)
    simp (disch:=omega) [go_sem,vsV,vcs,hlt,hp,hp',hne,Q0]
    intro _
    refine⟨k+1,⟨by omega,?_⟩,by omega,rfl⟩
    rw[List.take_add_one,hp,List.mem_append]
    rintro (h | h)
    ·exact hnot h
    ·simp at h;exact hu h.symm
set_option maxRecDepth 20000 in
set_option maxHeartbeats 4000000 in
theorem ref09_used_ok {f:FuncId} (hf:Q9 P f ref09_used.c ref09_used.r ref09_used.n):UsedBC P f:=by
 intro m v hz
 obtain⟨z1,z2,z3,z4⟩:=Mesh.check_zero.1 hz
 refine PureC.is (Q7 hm hf (Nat.le_of_ble_eq_true rfl) ?_) rfl
 unfold ref09_used.c
 simp[go_sem,V3.enc,vcs,Mesh.enc,Mesh.cs,vsV,tsV]
 refine Qe (α:=Nat) (λk=>k<=m.tris.length/\∀t∈m.tris.take k,v∉m.cor t) (λk=>⟨[(2,.p 0 1 0 0),(3,.p 1 1 0 0),(5,.i .i64 k)],[.arr 1 2 [m.cs],.arr 1 3 [v.cs]]⟩) (λk=>m.tris.length-k) 0 ⟨Nat.zero_le _,by simp⟩ ?_ ?_
 ·simp[go_sem,Mesh.cs,vsV,tsV,vcs]
 ·rintro k ⟨hk,hnot⟩
  by_cases hkl:k=m.tris.length
  ·subst hkl
   rw[List.take_length]at hnot
   have hb:usedB m v=false:=by
    rw[Bool.eq_false_iff]
    intro h
    obtain⟨t,ht,h2⟩:=List.any_eq_true.1 h
    exact hnot t ht (of_decide_eq_true h2)
   simp[go_sem,Mesh.cs,vsV,tsV,vcs,ref09_used.r,hb]
  ·have hlt:k<m.tris.length:=by omega
   have hp:m.tris[k]?=some m.tris[k]:=List.getElem?_eq_getElem hlt
   have htm:m.tris[k]∈m.tris:=List.getElem_mem _
   generalize m.tris[k]=t at hp htm
   obtain⟨_,hp'⟩:=List.getElem?_eq_some_iff.1 hp
   obtain⟨i0,i1,j0,j1,l0,l1⟩:=tok hz htm
   have g1:=J8 i0 i1
   have g2:=J8 j0 j1
   have g3:=J8 l0 l1
   obtain⟨q1,r1⟩:=List.getElem?_eq_some_iff.1 g1
   obtain⟨q2,r2⟩:=List.getElem?_eq_some_iff.1 g2
   obtain⟨q3,r3⟩:=List.getElem?_eq_some_iff.1 g3
   have hcor:m.cor t=[m.v t.a,m.v t.b,m.v t.c]:=rfl
   generalize m.v t.a=va at *
   generalize m.v t.b=vb at *
   generalize m.v t.c=vc at *
   by_cases hu:v∈m.cor t
   ·have hb:usedB m v=true:=List.any_eq_true.2 ⟨t,htm,by simpa using hu⟩
    rw[hcor]at hu
    by_cases e1:va=v
    ·subst e1
     simp (disch:=omega) [go_sem,Mesh.cs,vsV,tsV,hlt,hp,hp',tcs,vcs,i0,j0,l0,q1,q2,q3,g1,g2,g3,r1,r2,r3,ref09_used.r,hb]
    ·have d1:((va.x == v.x) && ((va.y == v.y) && (va.z == v.z)))=false:=v3_beq e1
     by_cases e2:vb=v
     ·subst e2
      simp (disch:=omega) [go_sem,Mesh.cs,vsV,tsV,hlt,hp,hp',tcs,vcs,i0,j0,l0,q1,q2,q3,g1,g2,g3,r1,r2,r3,ref09_used.r,hb,d1]
     ·have d2:((vb.x == v.x) && ((vb.y == v.y) && (vb.z == v.z)))=false:=v3_beq e2
      have e3:vc=v:=by
       simp only[List.mem_cons,List.not_mem_nil,or_false]at hu
       rcases hu with h | h | h
       ·exact absurd h.symm e1
       ·exact absurd h.symm e2
       ·exact h.symm
      subst e3
      simp (disch:=omega) [go_sem,Mesh.cs,vsV,tsV,hlt,hp,hp',tcs,vcs,i0,j0,l0,q1,q2,q3,g1,g2,g3,r1,r2,r3,ref09_used.r,hb,d1,d2]
   ·have hu':=hu
    rw[hcor]at hu'
    simp only[List.mem_cons,List.not_mem_nil,or_false,not_or]at hu'
    have d1:((va.x == v.x) && ((va.y == v.y) && (va.z == v.z)))=false:=v3_beq (λh=>hu'.1 h.symm)
    have d2:((vb.x == v.x) && ((vb.y == v.y) && (vb.z == v.z)))=false:=v3_beq (λh=>hu'.2.1 h.symm)
    have d3:((vc.x == v.x) && ((vc.y == v.y) && (vc.z == v.z)))=false:=v3_beq (λh=>hu'.2.2 h.symm)
    simp (disch:=omega) [go_sem,Mesh.cs,vsV,tsV,hlt,hp,hp',tcs,vcs,i0,j0,l0,q1,q2,q3,g1,g2,g3,r1,r2,r3,d1,d2,d3,Q0]
    refine⟨k+1,⟨by omega,?_⟩,by omega,rfl⟩
    rw[List.take_add_one,hp]
    intro s hs
    rcases List.mem_append.1 hs with h | h
    ·exact hnot s h
    ·simp at h;subst h;exact hu
set_option maxHeartbeats 4000000 in
theorem ref09_insert_ok {f fl:FuncId} (hf:Q9 P f (ref09_insert.c fl) ref09_insert.r ref09_insert.n) (hL:LessC P fl):InsertC P f:=by
 intro l v hl ha hv
 refine PureC.is (Q7 hm hf (Nat.le_of_ble_eq_true rfl) ?_) rfl
 unfold ref09_insert.c
 simp[go_sem,V3.enc,vcs,vsV]
 refine Qq [.t 5 3] (α:=Nat) (λk=>k<=l.length)
  (λk=>⟨[(0,vsV l),(3,.p 0 1 0 0),(5,.own 1 ((Wf l v k).length+1) 0 (Wf l v k).length),(6,.b (decide (Xf l v<k))),(7,.i .i64 k)],[.arr 1 3 [v.cs],.arr ((Wf l v k).length+1) 3 ((Wf l v k).map V3.cs)]⟩) (λk=>l.length-k) 0 (Nat.zero_le _) ?_ ?_
 ·simp[go_sem,vsV,vcs,Wf]
 ·intro k hk
  have hil:(Wf l v k).length<=k+1:=by rw[insK_len l v k hk];split<;>omega
  have hend:=insK_end ha hv
  have hple:=posV_le l v
  have ht:List.take (Wf l v k).length ((Wf l v k).map V3.cs)=(Wf l v k).map V3.cs:=List.take_of_length_le (by simp)
  by_cases hkl:k=l.length
  ·subst hkl
   by_cases hd:Xf l v<l.length
   ·rw[if_pos hd]at hend
    rw[hend]at *
    simp[go_sem,vsV,vcs,hd,ref09_insert.r,ht]
   ·rw[if_neg hd]at hend
    rw[<- hend]
    simp (disch:=omega) [go_sem,vsV,vcs,hd,ref09_insert.r,ht]
    have ht2:List.take ((Wf l v l.length).length+1) ((Wf l v l.length).map V3.cs++[[.i .i64 v.x,.i .i64 v.y,.i .i64 v.z]])=(Wf l v l.length).map V3.cs++[[.i .i64 v.x,.i .i64 v.y,.i .i64 v.z]]:=List.take_of_length_le (by simp)
    refine⟨⟨by omega,by omega⟩,?_⟩
    rw[ht2,if_pos]
    ·rfl
    ·intro x hx y hy
     rcases List.mem_append.1 hx with h | h
     ·obtain⟨q,_,rfl⟩:=List.mem_map.1 h
      exact of_eq_true (Y7 q) y hy
     ·simp at h;subst h
      exact of_eq_true (Y7 v) y hy
  ·have hlt:k<l.length:=by omega
   have hp:l[k]?=some l[k]:=List.getElem?_eq_getElem hlt
   have hsp:=Wc (v:=v) ha hp
   generalize l[k]=u at hp hsp
   obtain⟨_,hp'⟩:=List.getElem?_eq_some_iff.1 hp
   have hne:u≠v:=by rintro rfl;exact hv (List.mem_of_getElem? hp)
   by_cases hd:Xf l v<k
   ·simp (disch:=omega) [go_sem,vsV,vcs,hd,hlt,hp,hp',ht,Q0]
    have hs:=insK_succ l v hp
    rw[if_neg (by omega)]at hs
    exact⟨⟨by omega,by omega⟩,k+1,by omega,by omega,⟨by rw[hs];simp,by omega,rfl⟩,by rw[hs];simp,by rw[hs,List.map_append];rfl⟩
   ·simp (disch:=omega) [go_sem,vsV,vcs,hd,hlt,hp,hp',ht]
    refine Qf (hL v u) ?_
    by_cases hpk:Xf l v=k
    ·have h1:V3.lt v u:=Decidable.byContradiction λh=>hne (V3.ltO.tot (λh2=>by have:=hsp.1 h2;omega) h)
     simp (disch:=omega) [go_sem,vsV,vcs,hd,hlt,hp,hp',ht,h1,Q0]
     have hs:=insK_succ l v hp
     rw[if_pos hpk]at hs
     refine⟨⟨by omega,by omega⟩,⟨by omega,by omega⟩,k+1,by omega,by omega,⟨by rw[hs];simp,by omega,rfl⟩,by rw[hs];simp,?_⟩
     rw[hs,List.map_append,List.take_of_length_le (by simp),List.append_assoc];rfl
    ·have h1:¬ V3.lt v u:=λh=>V3.ltO.asymm h (hsp.2 (by omega))
     simp (disch:=omega) [go_sem,vsV,vcs,hd,hlt,hp,hp',ht,h1,Q0]
     have hs:=insK_succ l v hp
     rw[if_neg hpk]at hs
     exact⟨⟨by omega,by omega⟩,k+1,by omega,by omega,⟨by rw[hs];simp,by omega,rfl⟩,by rw[hs];simp,by rw[hs,List.map_append];rfl⟩
def rvK (m:Mesh) (k:Nat):List V3:=ascG V3.lt ((m.verts.take k).filter (usedB m))
omit hm in
theorem rvK_mem {m:Mesh} {k:Nat} {v:V3}:v∈rvK m k↔v∈m.verts.take k/\usedB m v=true:=by unfold rvK;rw[Uu,List.mem_filter]
omit hm in
theorem Wz (m:Mesh) (k:Nat):(rvK m k).Pairwise V3.lt:=Ee V3.ltO _
omit hm in
theorem rvK_len (m:Mesh) (k:Nat):(rvK m k).length<=k:=by
 have:=B7 (Kt V3.ltO (Wz m k)) (k:=m.verts.take k) λa ha=>(rvK_mem.1 ha).1
 simp at this;omega
omit hm in
theorem rvK_succ {m:Mesh} {k:Nat} {v:V3} (h:m.verts[k]?=some v):rvK m (k+1)=if v∉rvK m k/\usedB m v=true then insG V3.lt v (rvK m k) else rvK m k:=by
 have hs:m.verts.take (k+1)=m.verts.take k++[v]:=by rw[List.take_add_one,h];rfl
 split
 ·rename_i hc
  refine Xr V3.ltO (Wz _ _) (insG_asc V3.ltO (Wz _ _)) λa=>?_
  rw[mem_insG,rvK_mem,rvK_mem,hs,List.mem_append,List.mem_singleton]
  constructor
  ·rintro⟨h1 | rfl,h2⟩
   ·exact .inr ⟨h1,h2⟩
   ·exact .inl rfl
  ·rintro (rfl | ⟨h1,h2⟩)
   ·exact⟨.inr rfl,hc.2⟩
   ·exact⟨.inl h1,h2⟩
 ·rename_i hc
  refine Xr V3.ltO (Wz _ _) (Wz _ _) λa=>?_
  rw[rvK_mem,rvK_mem,hs,List.mem_append,List.mem_singleton]
  constructor
  ·rintro⟨h1 | rfl,h2⟩
   ·exact⟨h1,h2⟩
   ·refine Decidable.byContradiction λhn=>hc ⟨λhm=>hn (rvK_mem.1 hm),h2⟩
  ·rintro⟨h1,h2⟩
   exact⟨.inl h1,h2⟩
omit hm in
theorem rvK_end {m:Mesh} (hz:m.check=0):rvK m m.verts.length=m.wverts:=by
 refine Xr V3.ltO (Wz _ _) (Yi m) λa=>?_
 rw[rvK_mem,List.take_length,mem_wverts]
 constructor
 ·rintro⟨_,h⟩
  obtain⟨t,ht,h2⟩:=List.any_eq_true.1 h
  exact⟨t,ht,of_decide_eq_true h2⟩
 ·rintro⟨t,ht,hv⟩
  refine⟨?_,List.any_eq_true.2 ⟨t,ht,by simpa using hv⟩⟩
  obtain⟨h1,h2,h3,h4,h5,h6⟩:=tok hz ht
  simp only[Mesh.cor,List.mem_cons,List.not_mem_nil,or_false]at hv
  rcases hv with rfl | rfl | rfl
  ·exact Mesh.v_mem h1 h2
  ·exact Mesh.v_mem h3 h4
  ·exact Mesh.v_mem h5 h6
def nlV (l:List V3):V:=apV 3 (l.map V3.cs)
omit hm in
theorem nlV_le (l:List V3):Le (nlV l) (vsV l):=.inl (.inl (apV_le 3 _))
omit hm in
theorem nlV_cl (l:List V3) (n:Nat):V.cl n (nlV l)=true:=by unfold nlV apV;split<;>rfl
omit hm in
theorem nlV_ne {l:List V3} (h:l≠[]):nlV l=.l 3 (l.map V3.cs):=by unfold nlV apV;cases l<;>simp_all
omit hm in
theorem insG_ne (v:V3) (l:List V3):insG V3.lt v l≠[]:=List.ne_nil_of_mem (mem_insG.2 (.inl rfl))
set_option maxRecDepth 20000 in
set_option maxHeartbeats 8000000 in
theorem ref09_Weld_ok {f fc ff fu fi:FuncId} (hf:Q9 P f (ref09_Weld.c fc ff fu fi) ref09_Weld.r ref09_Weld.n) (hc:Z8 P fc) (hF:FindC P ff) (hu:UsedBC P fu) (hi:InsertC P fi):WeldC P f:=by
 intro m
 by_cases hz:m.check=0
 case neg =>
  have he:Qb m=(Zc,0,m.check):=by simp[Qb,hz]
  rw[he]
  refine CallIs.res (r:=.t [.a [.nil,.nil],.i .i64 0,.i .i64 m.check]) ?_ (weldV_no 0 m.check)
  refine PureC.is (Q7 hm hf (Nat.le_of_ble_eq_true rfl) ?_) rfl
  unfold ref09_Weld.c
  simp[go_sem,Mesh.enc,Mesh.cs,vsV,tsV]
  refine Q3 (hc m) ?_
  simp[go_sem,hz,ref09_Weld.r]
 have he:Qb m=(m.weldM,(m.verts.length:Int)-m.wverts.length,0):=by simp[Qb,hz]
 rw[he]
 obtain⟨z1,z2,z3,z4⟩:=Mesh.check_zero.1 hz
 have hwl:=Ih hz
 refine CallIs.res (r:=.t [.a [nlV m.wverts,tsV m.weldM.tris],.i .i64 ((m.verts.length:Int)-m.wverts.length),.i .i64 0]) ?_ (.inr ⟨_,_,rfl,rfl,.inr ⟨_,_,rfl,rfl,apV_le 3 _,Le0.refl _,trivial⟩,Le1.refl _,Le1.refl _,trivial⟩)
 refine PureC.is (Q7 hm hf (Nat.le_of_ble_eq_true rfl) ?_) rfl
 unfold ref09_Weld.c
 simp[go_sem,Mesh.enc,Mesh.cs,vsV,tsV]
 refine Q3 (hc m) ?_
 simp[go_sem,hz]
 refine Qe (α:=Nat) (λk=>k<=m.verts.length)
  (λk=>⟨[(1,.p 0 1 0 0),(2,.p 1 1 0 0),(6,nlV (rvK m k)),(7,.i .i64 k)],[.arr 1 2 [m.cs],.arr 1 2 [[.nil,.nil]]]⟩)
  (λk=>m.verts.length-k) 0 (Nat.zero_le _) ?_ ?_
 ·simp[go_sem,Mesh.cs,vsV,tsV,rvK,nlV,apV,ascG]
 ·intro k hk
  by_cases hkl:k=m.verts.length
  ·subst hkl
   rw[rvK_end hz]
   simp[go_sem,Mesh.cs,vsV,tsV]
   refine Qq [.t 8 3] (α:=Nat) (λk=>k<=m.tris.length)
    (λk=>⟨[(1,.p 0 1 0 0),(2,.p 1 1 0 0),(6,nlV m.wverts),(8,.own 2 (k+1) 0 k),(9,.i .i64 k)],
     [.arr 1 2 [m.cs],.arr 1 2 [[.nil,.nil]],.arr (k+1) 3 (((m.tris.take k).map (Wt m m.wverts)).map T3.cs)]⟩)
    (λk=>m.tris.length-k) 0 (Nat.zero_le _) ?_ ?_
   ·simp[go_sem,Mesh.cs,vsV,tsV]
    exact .inr (nlV_cl _ _)
   ·intro k hk
    by_cases hkl:k=m.tris.length
    ·subst hkl
     by_cases h0:m.wverts=[]
     ·have hn:nlV m.wverts=.nil:=by rw[h0];rfl
      have hl0:m.wverts.length=0:=by rw[h0];rfl
      simp (disch:=omega) [go_sem,Mesh.cs,vsV,tsV,Q0,ref09_Weld.r,hn,hl0,Mesh.weldM,V.okA,T3.cs]
     ·have hn:=nlV_ne h0
      simp (disch:=omega) [go_sem,Mesh.cs,vsV,tsV,Q0,ref09_Weld.r,hn,Mesh.weldM,V.okA,T3.cs]
    ·have hlt:k<m.tris.length:=by omega
     have hp:m.tris[k]?=some m.tris[k]:=List.getElem?_eq_getElem hlt
     have htm:m.tris[k]∈m.tris:=List.getElem_mem _
     generalize m.tris[k]=t at hp htm
     obtain⟨_,hp'⟩:=List.getElem?_eq_some_iff.1 hp
     obtain⟨i0,i1,j0,j1,l0,l1⟩:=tok hz htm
     obtain⟨c1,c2,c3⟩:=cor_mem htm
     have g1:=J8 i0 i1
     have g2:=J8 j0 j1
     have g3:=J8 l0 l1
     obtain⟨q1,r1⟩:=List.getElem?_eq_some_iff.1 g1
     obtain⟨q2,r2⟩:=List.getElem?_eq_some_iff.1 g2
     obtain⟨q3,r3⟩:=List.getElem?_eq_some_iff.1 g3
     have hwt:Wt m m.wverts t=⟨Jt m.wverts (m.v t.a),Jt m.wverts (m.v t.b),Jt m.wverts (m.v t.c)⟩:=rfl
     have f1:=(hF m.wverts (m.v t.a) (by omega)).le (us:=[nlV m.wverts,(m.v t.a).enc]) ⟨nlV_le _,Le.refl _,trivial⟩ (Le.refl _)
     have f2:=(hF m.wverts (m.v t.b) (by omega)).le (us:=[nlV m.wverts,(m.v t.b).enc]) ⟨nlV_le _,Le.refl _,trivial⟩ (Le.refl _)
     have f3:=(hF m.wverts (m.v t.c) (by omega)).le (us:=[nlV m.wverts,(m.v t.c).enc]) ⟨nlV_le _,Le.refl _,trivial⟩ (Le.refl _)
     simp only[findV,c1,c2,c3,if_true,V3.enc,V3.cs]at f1 f2 f3
     generalize m.v t.a=va at *
     generalize m.v t.b=vb at *
     generalize m.v t.c=vc at *
     simp (disch:=omega) [go_sem,Mesh.cs,vsV,tsV,hlt,hp,hp',tcs,vcs,i0,j0,l0,q1,q2,q3,g1,g2,g3,r1,r2,r3]
     refine Qf f1 ?_
     simp (disch:=omega) [go_sem,Mesh.cs,vsV,tsV,hlt,hp,hp',tcs,vcs,i0,j0,l0,q1,q2,q3,g1,g2,g3,r1,r2,r3]
     refine Qf f2 ?_
     simp (disch:=omega) [go_sem,Mesh.cs,vsV,tsV,hlt,hp,hp',tcs,vcs,i0,j0,l0,q1,q2,q3,g1,g2,g3,r1,r2,r3]
     refine Qf f3 ?_
     simp (disch:=omega) [go_sem,Q0]
     refine⟨⟨by omega,by omega⟩,k+1,by omega,by omega,⟨.inr (nlV_cl _ _),rfl,rfl⟩,⟨rfl,?_⟩,?_⟩
     ·rw[List.take_take,Nat.min_self,List.take_add_one,List.getElem?_map,hp]
      simp[hwt,tcs]
     ·intro el hel x hx
      obtain⟨s,_,rfl⟩:=List.mem_map.1 (List.mem_of_mem_take hel)
      exact of_eq_true (Qp _ 3) x hx
  ·have hlt:k<m.verts.length:=by omega
   have hp:m.verts[k]?=some m.verts[k]:=List.getElem?_eq_getElem hlt
   have hsu:=rvK_succ hp
   generalize m.verts[k]=v at hp hsu
   obtain⟨_,hp'⟩:=List.getElem?_eq_some_iff.1 hp
   have hrl:=rvK_len m k
   have q1:=(hF (rvK m k) v (by omega)).le (us:=[nlV (rvK m k),v.enc]) ⟨nlV_le _,Le.refl _,trivial⟩ (Le.refl _)
   have q2:=hu m v hz
   simp only[V3.enc,V3.cs,Mesh.enc,Mesh.cs,vsV,tsV]at q1 q2
   simp (disch:=omega) [go_sem,Mesh.cs,vsV,tsV,hlt,hp,hp',vcs]
   refine Qf q1 ?_
   by_cases hmem:v∈rvK m k
   ·have h0:=idxV_range hmem
    rw[if_neg (λh=>h.1 hmem)]at hsu
    simp (disch:=omega) [go_sem,Mesh.cs,vsV,tsV,hlt,hp,hp',vcs,findV,hmem,h0,show ¬ Jt (rvK m k) v<0 by omega,Q0]
    exact⟨k+1,by omega,by omega,.inr ⟨by rw[hsu],nlV_cl _ _⟩,rfl⟩
   ·simp (disch:=omega) [go_sem,Mesh.cs,vsV,tsV,hlt,hp,hp',vcs,findV,hmem,Q0]
    refine Qf q2 ?_
    cases hub:usedB m v
    ·rw[if_neg (λh=>by rw[hub]at h;simp at h)]at hsu
     simp (disch:=omega) [go_sem,Mesh.cs,vsV,tsV,hlt,hp,hp',vcs,Q0]
     exact⟨k+1,by omega,by omega,.inr ⟨by rw[hsu],nlV_cl _ _⟩,rfl⟩
    ·rw[if_pos ⟨hmem,hub⟩]at hsu
     have q3:=(hi (rvK m k) v (by omega) (Wz m k) hmem).le (us:=[nlV (rvK m k),v.enc]) ⟨nlV_le _,Le.refl _,trivial⟩ (Le.refl _)
     simp only[V3.enc,V3.cs]at q3
     simp (disch:=omega) [go_sem,Mesh.cs,vsV,tsV,hlt,hp,hp',vcs]
     refine Q3 q3 ?_
     simp (disch:=omega) [go_sem,Q0,vsV]
     exact⟨k+1,by omega,by omega,.inr ⟨by rw[hsu,nlV_ne (insG_ne _ _)],nlV_cl _ _⟩,rfl⟩
end
end Go.Abs
set_option linter.unusedVariables false
set_option linter.unusedSimpArgs false
namespace Go.Abs
def Mesh.degI (m:Mesh) (i:Int):Bool:=if 0<=i/\i<m.tris.length/\m.check=0 then match m.tris[i.toNat]? with
    | some t=>m.deg t
    | none=>false
 else false
def DegC (P:Program) (f:FuncId):Prop:=∀(m:Mesh) (i:Int),CallIs P f [m.enc,.i .i64 i] (.b (m.degI i))
def TwinsC (P:Program) (f:FuncId):Prop:=∀a b:T3,CallIs P f [a.enc,b.enc] (.b (a.twins b))
def Qg (m:Mesh):Mesh × Int × Int × Int:=if m.check=0 then (m.cleanM,((Z0 m.deg m.tris).deg:Nat),((Z0 m.deg m.tris).twin:Nat),0) else (Zc,0,0,m.check)
def Ju (r:Mesh × Int × Int × Int):V:=.t [r.1.enc,.i .i64 r.2.1,.i .i64 r.2.2.1,.i .i64 r.2.2.2]
def CleanC (P:Program) (f:FuncId):Prop:=∀m:Mesh,CallIs P f [m.enc] (Ju (Qg m))
theorem cleanV_no (e:Int):Le (.t [.a [.nil,.nil],.i .i64 0,.i .i64 0,.i .i64 e]) (Ju (Zc,0,0,e)) :=
 .inr ⟨_,_,rfl,rfl,.inr ⟨_,_,rfl,rfl,Le0.nil 3,Le0.nil 3,trivial⟩,Le1.refl _,Le1.refl _,Le1.refl _,trivial⟩
theorem degI_get {m:Mesh} (hz:m.check=0) {k:Nat} {t:T3} (h:m.tris[k]?=some t):m.degI k=m.deg t:=by
 have hlt:=(List.getElem?_eq_some_iff.1 h).1
 unfold Mesh.degI
 rw[if_pos ⟨by omega,by omega,hz⟩,Int.toNat_natCast,h]
theorem mem_turned {l:List T3} {t:T3}:(t.turned∈l.map T3.turned)↔l.any (T3.twins t)=true:=by
 rw[List.mem_map,List.any_eq_true]
 constructor
 ·rintro⟨a,h1,h2⟩;exact⟨a,h1,turned_iff.1 h2.symm⟩
 ·rintro⟨a,h1,h2⟩;exact⟨a,h1,(turned_iff.2 h2).symm⟩
section
variable {P:Program} (hm:P.follows .mixedOrders=true)
include hm
theorem ref09_Twins_ok {f:FuncId} (hf:Q9 P f ref09_Twins.c ref09_Twins.r ref09_Twins.n):TwinsC P f:=by
 intro a b
 refine PureC.is (Q7 hm hf (Nat.le_of_ble_eq_true rfl) ?_) rfl
 unfold ref09_Twins.c
 have e1:decide (a=b)=(a.a == b.a && (a.b == b.b && a.c == b.c)):=by cases a;cases b;rw[Bool.eq_iff_iff];simp[T3.mk.injEq]
 have e2:decide (a=b.rot)=(a.a == b.b && (a.b == b.c && a.c == b.a)):=by cases a;cases b;rw[Bool.eq_iff_iff];simp[T3.mk.injEq,T3.rot]
 have e3:decide (a=b.rot.rot)=(a.a == b.c && (a.b == b.a && a.c == b.b)):=by cases a;cases b;rw[Bool.eq_iff_iff];simp[T3.mk.injEq,T3.rot]
 rw[T3.twins,e1,e2,e3]
 cases q1:(a.a == b.a && (a.b == b.b && a.c == b.c))
 ·cases q2:(a.a == b.b && (a.b == b.c && a.c == b.a))
  ·cases q3:(a.a == b.c && (a.b == b.a && a.c == b.b))<;>simp[go_sem,T3.enc,tcs,ref09_Twins.r,q1,q2,q3]
  ·simp[go_sem,T3.enc,tcs,ref09_Twins.r,q1,q2]
 ·simp[go_sem,T3.enc,tcs,ref09_Twins.r,q1]
theorem In {f fv fs fc:FuncId} (hf:Q9 P f (ref04_Collinear.c fv fs fc) ref04_Collinear.r ref04_Collinear.n) (hv:W6 P fv) (hs:SubVC P fs) (hc:CrossWC P fc):CollC P f:=by
 intro a b c
 refine PureC.is (Q7 hm hf (Nat.le_of_ble_eq_true rfl) ?_) rfl
 unfold ref04_Collinear.c
 simp[go_sem,V3.enc,vcs]
 refine Q3 (hv a) ?_
 cases h1:a.valid
 ·simp[go_sem,ref04_Collinear.r,Kq,h1]
 simp[go_sem]
 refine Q3 (hv b) ?_
 cases h2:b.valid
 ·simp[go_sem,ref04_Collinear.r,Kq,h1,h2]
 simp[go_sem]
 refine Q3 (hv c) ?_
 cases h3:c.valid
 ·simp[go_sem,ref04_Collinear.r,Kq,h1,h2,h3]
 simp[go_sem]
 refine Qf (hs b a h2 h1) ?_
 simp[go_sem]
 refine Qf (hs c a h3 h1) ?_
 simp[go_sem]
 refine Qf (hc _ _ (Wy h2 h1) (Wy h3 h1)) ?_
 simp[go_sem,V3.enc,vcs,ref04_Collinear.r,Kq,h1,h2,h3,v3_zero]
set_option maxRecDepth 4000 in
set_option maxHeartbeats 1000000 in
theorem ref07_Corners_ok {f fc:FuncId} (hf:Q9 P f (ref07_Corners.c fc) ref07_Corners.r ref07_Corners.n) (hc:Z8 P fc):Wq P f:=by
 intro m i
 refine PureC.is (Q7 hm hf (Nat.le_of_ble_eq_true rfl) ?_) rfl
 unfold ref07_Corners.c
 simp[go_sem,Mesh.enc,Mesh.cs,vsV,tsV]
 refine Q3 (hc m) ?_
 by_cases hz:m.check=0
 case neg =>
  have hb:(m.check != 0)=true:=by simp[hz]
  simp[go_sem,hb,hz,ref07_Corners.r,Mesh.corners,zV3]
 by_cases h:0<=i/\i<m.tris.length
 ·obtain⟨h0,h1⟩:=h
  have hlt:i.toNat<m.tris.length:=by omega
  obtain⟨z1,z2,z3,z4⟩:=Mesh.check_zero.1 hz
  obtain⟨t,hp⟩:∃t,m.tris[i.toNat]?=some t:=⟨_,List.getElem?_eq_getElem hlt⟩
  obtain⟨hlt',hp'⟩:=List.getElem?_eq_some_iff.1 hp
  obtain⟨t1,t2,t3,t4,t5,t6⟩:=T3.ok_iff.1 (Bm z4 hp)
  have ga:=Mesh.v_get t2 (by omega)
  have gb:=Mesh.v_get t4 (by omega)
  have gc:=Mesh.v_get t6 (by omega)
  have hr:m.corners i=.t [(m.v t.a).enc,(m.v t.b).enc,(m.v t.c).enc,.b true]:=by
   simp only[Mesh.corners,h0,h1,hz,and_self,if_true,hp]
  rw[hr]
  simp[go_sem,show ¬ i<0 by omega,show ¬ (m.tris.length:Int)<=i by omega,hz,h0,h1,hlt,hp',tcs,vcs,t1,t2,t3,t4,t5,t6,show t.a.toNat<m.verts.length by omega,show t.b.toNat<m.verts.length by omega,show t.c.toNat<m.verts.length by omega,ga,gb,gc,ref07_Corners.r,V3.enc]
 ·have:i<0∨(m.tris.length:Int)<=i:=by omega
  have hr:m.corners i=.t [zV3,zV3,zV3,.b false]:=by
   unfold Mesh.corners;rw[if_neg (by omega)]
  rw[hr]
  by_cases h0:i<0
  ·simp[go_sem,hz,h0,ref07_Corners.r,zV3]
  ·simp[go_sem,hz,h0,show (m.tris.length:Int)<=i by omega,ref07_Corners.r,zV3]
theorem Kc {f fc fv:FuncId} (hf:Q9 P f (weld_Degenerate.c fc fv) weld_Degenerate.r weld_Degenerate.n) (hc:Wq P fc) (hv:CollC P fv):DegC P f:=by
 intro m i
 refine PureC.is (Q7 hm hf (Nat.le_of_ble_eq_true rfl) ?_) rfl
 unfold weld_Degenerate.c
 simp[go_sem,Mesh.enc,Mesh.cs]
 refine Q3 (hc m i) ?_
 by_cases h:0<=i/\i<m.tris.length/\m.check=0
 ·obtain⟨t,ht⟩:∃t,m.tris[i.toNat]?=some t:=⟨_,List.getElem?_eq_getElem (show i.toNat<m.tris.length by omega)⟩
  have e1:m.corners i=.t [(m.v t.a).enc,(m.v t.b).enc,(m.v t.c).enc,.b true]:=by unfold Mesh.corners;rw[if_pos h,ht]
  have e2:m.degI i=m.deg t:=by unfold Mesh.degI;rw[if_pos h,ht]
  rw[e1,e2]
  simp[go_sem,V3.enc,vcs]
  refine Q3 (hv (m.v t.a) (m.v t.b) (m.v t.c)) ?_
  simp[go_sem,weld_Degenerate.r,Mesh.deg]
 ·have e1:m.corners i=.t [zV3,zV3,zV3,.b false]:=by unfold Mesh.corners;rw[if_neg h]
  have e2:m.degI i=false:=by unfold Mesh.degI;rw[if_neg h]
  rw[e1,e2]
  simp[go_sem,zV3,weld_Degenerate.r]
theorem I2 {f fc fv:FuncId} (hf:Q9 P f (ref09_Degenerate.c fc fv) ref09_Degenerate.r ref09_Degenerate.n) (hc:Wq P fc) (hv:CollC P fv):DegC P f:=Kc hm hf hc hv
set_option maxRecDepth 20000 in
set_option maxHeartbeats 4000000 in
theorem weld_Clean_ok {f fc fl ft fv:FuncId} (hf:Q9 P f (weld_Clean.c fc fl ft fv) weld_Clean.r weld_Clean.n) (hc:Z8 P fc) (hl:Kw P fl 3) (ht:TurnedC P ft) (hv:CollC P fv):CleanC P f:=by
 intro m
 by_cases hz:m.check=0
 case neg =>
  have he:Qg m=(Zc,0,0,m.check):=by simp[Qg,hz]
  rw[he]
  refine CallIs.res (r:=.t [.a [.nil,.nil],.i .i64 0,.i .i64 0,.i .i64 m.check]) ?_ (cleanV_no m.check)
  refine PureC.is (Q7 hm hf (Nat.le_of_ble_eq_true rfl) ?_) rfl
  unfold weld_Clean.c
  simp[go_sem,Mesh.enc,Mesh.cs,vsV,tsV]
  refine Q3 (hc m) ?_
  simp[go_sem,hz,weld_Clean.r]
 have he:Qg m=(m.cleanM,(((Z0 m.deg m.tris).deg:Nat):Int),(((Z0 m.deg m.tris).twin:Nat):Int),0):=by simp[Qg,hz]
 rw[he]
 obtain⟨z1,z2,z3,z4⟩:=Mesh.check_zero.1 hz
 refine PureC.is (Q7 hm hf (Nat.le_of_ble_eq_true rfl) ?_) rfl
 unfold weld_Clean.c
 simp[go_sem,Mesh.enc,Mesh.cs,vsV,tsV]
 refine Q3 (hc m) ?_
 simp[go_sem,hz]
 refine Ws (hl (m.verts.map V3.cs) (by simp[List.all_eq_true,vcs,V.isD]) (by simp;omega)) (by simp[go_sem,V.cl,V.cl1,V.cl0]) ?_
 simp[go_sem,vsV]
 refine Qq [.c 3 0 1 3] (α:=Nat) (λk=>k<=m.tris.length)
  (λk=>⟨[(1,.p 0 1 0 0),(2,.p 1 1 0 0),(7,.p 3 1 0 0),(8,.mp 4),(9,.i .i64 (Z0 m.deg (m.tris.take k)).deg),(10,.i .i64 (Z0 m.deg (m.tris.take k)).twin),(26,tsV m.tris),(27,.i .i64 m.tris.length),(28,.i .i64 k)],
   [.arr 1 2 [m.cs],.arr 1 2 [[.nil,.nil]],.arr 1 3 (m.verts.map V3.cs),.arr 1 2 [[.own 2 1 0 m.verts.length,.own 5 ((Z0 m.deg (m.tris.take k)).out.length+1) 0 (Z0 m.deg (m.tris.take k)).out.length]],
    .mp (((Z0 m.deg (m.tris.take k)).out.map T3.turned).map (kt T3.enc)),.arr ((Z0 m.deg (m.tris.take k)).out.length+1) 3 ((Z0 m.deg (m.tris.take k)).out.map T3.cs)]⟩)
  (λk=>m.tris.length-k) 0 (Nat.zero_le _) ?_ ?_
 ·simp[go_sem,Mesh.cs,vsV,tsV,Z0]
  exact λa _=>by simp[vcs,V.sh1,V.sh0]
 ·intro k hk
  by_cases hkl:k=m.tris.length
  ·subst hkl
   rw[List.take_length]
   simp (disch:=omega) [go_sem,Mesh.cs,vsV,tsV,Q0,weld_Clean.r]
   simp[Ju,Mesh.cleanM,Mesh.enc,Mesh.cs,vsV,tsV]
  ·have hlt:k<m.tris.length:=by omega
   have hp:m.tris[k]?=some m.tris[k]:=List.getElem?_eq_getElem hlt
   have htm:m.tris[k]∈m.tris:=List.getElem_mem _
   generalize m.tris[k]=t at hp htm
   obtain⟨_,hp'⟩:=List.getElem?_eq_some_iff.1 hp
   obtain⟨i0,i1,j0,j1,l0,l1⟩:=tok hz htm
   have g1:=J8 i0 i1
   have g2:=J8 j0 j1
   have g3:=J8 l0 l1
   obtain⟨q1,r1⟩:=List.getElem?_eq_some_iff.1 g1
   obtain⟨q2,r2⟩:=List.getElem?_eq_some_iff.1 g2
   obtain⟨q3,r3⟩:=List.getElem?_eq_some_iff.1 g3
   have hst:=cleanL_succ m.deg hp
   have hok:=cleanL_ok m.deg (m.tris.take k)
   have hsum:=hok.sum
   have hkl2:(m.tris.take k).length=k:=by simp;omega
   rw[hkl2]at hsum
   have hdeg:m.deg t=Kq (m.v t.a) (m.v t.b) (m.v t.c):=rfl
   generalize Z0 m.deg (m.tris.take k)=s at *
   simp (disch:=omega) [go_sem,Mesh.cs,vsV,tsV,hlt,hp,hp',tcs]
   refine Q3 (ht t) ?_
   simp (disch:=omega) [go_sem,Mesh.cs,vsV,tsV,T3.enc,tcs,vcs,i0,j0,l0,q1,q2,q3,g1,g2,g3,r1,r2,r3]
   refine Qf (hv (m.v t.a) (m.v t.b) (m.v t.c)) ?_
   rw[<- hdeg]
   unfold Cl.step at hst
   have hfe:Qm [1,1,1] (V.a [.i .i64 t.turned.a,.i .i64 t.turned.b,.i .i64 t.turned.c]) ((s.out.map T3.turned).map (kt T3.enc))=_:=Eq key_T3 t.turned (s.out.map T3.turned)
   cases hd:m.deg t
   ·rw[hd]at hst
    simp only[Bool.false_eq_true,if_false]at hst
    by_cases hany:s.out.any (T3.twins t)=true
    ·rw[if_pos (mem_turned.2 hany)]at hfe
     rw[if_pos hany]at hst
     rw[List.map_map]at hfe
     simp (disch:=omega) [go_sem,Mesh.cs,vsV,tsV,hfe,Q0]
     refine⟨k+1,by omega,by omega,?_⟩
     rw[hst]
     simp[kt,Qp,T3.enc,tcs,V.cl,V.cl1,V.cl0]
    ·rw[if_neg (λh=>hany (mem_turned.1 h))]at hfe
     rw[if_neg hany]at hst
     rw[List.map_map]at hfe
     simp (disch:=omega) [go_sem,Mesh.cs,vsV,tsV,hfe,Q0]
     refine⟨⟨by omega,by omega⟩,k+1,by omega,by omega,?_⟩
     rw[hst]
     simp[kt,Qp,T3.enc,tcs,V.cl,V.cl1,V.cl0]
   ·rw[hd]at hst
    simp only[if_true]at hst
    simp (disch:=omega) [go_sem,Mesh.cs,vsV,tsV,Q0]
    refine⟨k+1,by omega,by omega,?_⟩
    rw[hst]
    simp[kt,Qp,T3.enc,tcs,V.cl,V.cl1,V.cl0]
end
end Go.Abs
set_option linter.unusedVariables false
set_option linter.unusedSimpArgs false
namespace Go.Abs
def SameMC (P:Program) (f:FuncId):Prop:=∀m:Mesh,m.verts.length<=1000000->m.tris.length<=1000000->CallIs P f [m.enc,m.enc] (.b true)
section
variable {P:Program} (hm:P.follows .mixedOrders=true)
include hm
set_option maxHeartbeats 4000000 in
theorem ref07_Same_ok {f:FuncId} (hf:Q9 P f ref07_Same.c ref07_Same.r ref07_Same.n):SameMC P f:=by
 intro m hl1 hl2
 refine PureC.is (Q7 hm hf (Nat.le_of_ble_eq_true rfl) ?_) rfl
 unfold ref07_Same.c
 simp[go_sem,Mesh.enc,Mesh.cs,vsV,tsV]
 refine Qe (α:=Nat) (λk=>k<=m.verts.length)
  (λk=>⟨[(2,.p 0 1 0 0),(3,.p 1 1 0 0),(25,.i .i64 m.verts.length),(26,.i .i64 k)],[.arr 1 2 [m.cs],.arr 1 2 [m.cs]]⟩)
  (λk=>m.verts.length-k) 0 (Nat.zero_le _) ?_ ?_
 ·simp[go_sem,Mesh.cs,vsV,tsV]
 ·intro k hk
  cases hp:m.verts[k]? with
  | none =>
    have:¬ k<m.verts.length:=by simpa using hp
    obtain rfl:k=m.verts.length:=by omega
    simp[go_sem,vsV,tsV,Mesh.cs]
    refine Qe (α:=Nat) (λk=>k<=m.tris.length)
     (λk=>⟨[(2,.p 0 1 0 0),(3,.p 1 1 0 0),(43,.i .i64 m.tris.length),(44,.i .i64 k)],[.arr 1 2 [m.cs],.arr 1 2 [m.cs]]⟩)
     (λk=>m.tris.length-k) 0 (Nat.zero_le _) ?_ ?_
    ·simp[go_sem,Mesh.cs,vsV,tsV]
    ·intro k hk
     cases hp:m.tris[k]? with
     | none =>
       have:¬ k<m.tris.length:=by simpa using hp
       obtain rfl:k=m.tris.length:=by omega
       simp[go_sem,vsV,tsV,Mesh.cs,ref07_Same.r]
     | some p =>
       obtain⟨hlt,hp'⟩:=List.getElem?_eq_some_iff.1 hp
       simp[go_sem,vsV,tsV,Mesh.cs,hlt,hp',tcs]
       refine⟨k+1,by omega,by omega,?_⟩
       simp (disch:=omega) [go_sem,vsV,tsV,Mesh.cs,Q0]
  | some p =>
    obtain⟨hlt,hp'⟩:=List.getElem?_eq_some_iff.1 hp
    simp[go_sem,vsV,tsV,Mesh.cs,hlt,hp',vcs]
    refine⟨k+1,by omega,by omega,?_⟩
    simp (disch:=omega) [go_sem,vsV,tsV,Mesh.cs,Q0]
end
end Go.Abs
set_option linter.unusedVariables false
set_option linter.unusedSimpArgs false
namespace Go.Abs
def P2.valid (p:P2):Bool:=decide (-16777216<=p.x) && decide (p.x<=16777216) && decide (-16777216<=p.y) && decide (p.y<=16777216)
theorem P2.valid_iff {p:P2}:p.valid=true↔(-16777216<=p.x/\p.x<=16777216/\-16777216<=p.y/\p.y<=16777216):=by simp[P2.valid,and_assoc]
end Go.Abs
set_option linter.unusedVariables false
set_option linter.unusedSimpArgs false
namespace Go.Abs
def bottomT (k:Nat):T3:=⟨0,(k:Int)+2,(k:Int)+1⟩
def bottomTs (n:Nat):List T3:=(List.range n).map bottomT
def BottomC (P:Program) (f:FuncId):Prop:=∀n:Nat,n<=1000->NewC P f [.i .i64 ((n:Int)+2)] (λr h=>r=.own 0 (n+1) 0 n/\h=[.arr (n+1) 3 ((bottomTs n).map T3.cs)])
end Go.Abs
set_option linter.unusedVariables false
set_option linter.unusedSimpArgs false
namespace Go.Abs
theorem BottomC.of {P:Program} {f:FuncId} (hb:BottomC P f) {n k:Nat} (hn:n=k+2) (hk:k<=1000):NewC P f [.i .i64 n] (λr h=>r=.own 0 (k+1) 0 k/\h=[.arr (k+1) 3 ((bottomTs k).map T3.cs)]):=by
 subst hn;exact hb k hk
end Go.Abs
set_option linter.unusedVariables false
set_option linter.unusedSimpArgs false
namespace Go.Abs
def mixed {α:Type} (l:List α) (g:α->α) (k:Nat):List α:=(l.take k).map g++l.drop k
end Go.Abs
set_option linter.unusedVariables false
set_option linter.unusedSimpArgs false
namespace Go.Abs
theorem CallIs.pure {P:Program} {f:FuncId} {vs:List V} {r:V} (h:CallIs P f vs r):PureC P f vs (·=r):=h []
end Go.Abs
set_option linter.unusedVariables false
set_option linter.unusedSimpArgs false
namespace Go.Abs
def V3.neg (d:V3):V3:=⟨IntKind.i64.wrap (0-d.x),IntKind.i64.wrap (0-d.y),IntKind.i64.wrap (0-d.z)⟩
end Go.Abs
