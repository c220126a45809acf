/- Part of the library on which the proof stands: an abstract machine, its values and its soundness against the model; or what functions of the program do to such values. -/
import Derived.Test.YtcdjgldeiaiaoaaGreatGoQh
import Derived.Test.YtcdjgldeiaiaoaaGreatGoWeA
import Derived.Test.YtcdjgldeiaiaoaaGreatGoRb
import Derived.Test.YtcdjgldeiaiaoaaGreatGoRevC
set_option linter.unusedVariables false
set_option linter.unusedSimpArgs false
namespace Go.Abs
noncomputable def Mesh.inv (m:Mesh):Bool:=m.shells.any fun sh=>decide (volL m.verts (partOf m.tris sh) < 0)
noncomputable def chkR (m:Mesh):Int :=
 if m.check ≠ 0 then m.check else if m.closed = false then 12 else if cohB m.tris = false then 13 else if m.tris.any m.deg = true then 1 else if m.inv = true then 1 else 0
structure Rep where
 me:Int
 de:Int
 du:Int
 fl:Int
 ho:Int
 iv:Int
 sh:Int
def Rep.zero:Rep:=⟨0,0,0,0,0,0,0⟩
noncomputable def repR (m:Mesh):Mesh × Rep × Int :=
 if (weldR m).2.2 ≠ 0 then (noMesh,Rep.zero,(weldR m).2.2) else
 let a:=weldR m
 if (cleanR a.1).2.2.2 ≠ 0 then (noMesh,Rep.zero,(cleanR a.1).2.2.2) else
 let b:=cleanR a.1
 if (weldR b.1).2.2 ≠ 0 then (noMesh,Rep.zero,(weldR b.1).2.2) else
 let c:=weldR b.1
 if (oriR c.1).2.2 ≠ 0 then (noMesh,Rep.zero,(oriR c.1).2.2) else
 let d:=oriR c.1
 if (fillR d.1).2.2 ≠ 0 then (noMesh,Rep.zero,(fillR d.1).2.2) else
 let g:=fillR d.1
 if (outR g.1).2.2 ≠ 0 then (noMesh,Rep.zero,(outR g.1).2.2) else
 let o:=outR g.1
 if chkR o.1 ≠ 0 then (noMesh,Rep.zero,chkR o.1) else
 (o.1,⟨a.2.1 + c.2.1,b.2.1,b.2.2.1,d.2.1,g.2.1,o.2.1,(o.1.shells.length:Int)⟩,0)
structure Snd (m:Mesh):Prop where
 z:m.check = 0
 clo:m.closed = true
 coh:Coh m.tris
 deg:∀ t ∈ m.tris,m.deg t = false
 vol:∀ sh ∈ m.shells,0 ≤ volL m.verts (partOf m.tris sh)
theorem snd_iff {m:Mesh}:chkR m = 0 ↔ Snd m:=by
 unfold chkR
 constructor
 ·intro h
  by_cases h1:m.check = 0
  case neg=>rw [if_pos h1] at h;exact absurd h h1
  rw [if_neg (by simpa using h1)] at h
  by_cases h2:m.closed = false
  case pos=>rw [if_pos h2] at h;simp at h
  rw [if_neg h2] at h
  by_cases h3:cohB m.tris = false
  case pos=>rw [if_pos h3] at h;simp at h
  rw [if_neg h3] at h
  by_cases h4:m.tris.any m.deg = true
  case pos=>rw [if_pos h4] at h;simp at h
  rw [if_neg h4] at h
  by_cases h5:m.inv = true
  case pos=>rw [if_pos h5] at h;simp at h
  refine⟨h1,by simpa using h2,cohB_iff.1 (by simpa using h3),?_,?_⟩
  ·intro t ht
   cases hd:m.deg t with
   | false=>rfl
   | true=>exact absurd (List.any_eq_true.2 ⟨t,ht,hd⟩) h4
  ·intro sh hs
   by_cases hn:volL m.verts (partOf m.tris sh) < 0
   ·exact absurd (List.any_eq_true.2 ⟨sh,hs,by simpa using hn⟩) h5
   ·omega
 ·intro h
  have h4:m.tris.any m.deg = false:=by
   rw [List.any_eq_false];intro t ht;rw [h.deg t ht];simp
  have h5:m.inv = false:=by
   unfold Mesh.inv
   rw [List.any_eq_false];intro sh hs;have:=h.vol sh hs;simp;omega
  rw [if_neg (by simpa using h.z),if_neg (by rw [h.clo];simp),if_neg (by rw [cohB_iff.2 h.coh];simp),if_neg (by rw [h4];simp),if_neg (by rw [h5];simp)]
theorem Snd.out {m:Mesh} (h:Snd m):OutOk m:=⟨h.z,h.clo,cohB_iff.2 h.coh,h.vol⟩
theorem Snd.border {m:Mesh} (h:Snd m):m.border = []:=by
 have:=h.clo
 unfold Mesh.closed at this
 simp only [Bool.and_eq_true,decide_eq_true_eq] at this
 exact this.2
theorem Snd.len {m:Mesh} (h:Snd m):m.tris.length ≤ 4096:=(Mesh.check_zero.1 h.z).2.1
theorem T3.ext' {a b:T3} (h1:a.a = b.a) (h2:a.b = b.b) (h3:a.c = b.c):a = b:=by cases a;cases b;simp_all
theorem Snd.orient {m:Mesh} (h:Snd m):oriR m = (m,0,0):=by
 obtain⟨L,hL⟩:=lab_ex m.tris
 rw [oriR_ok h.z (orientL_some hL (good_self h.coh)),difN_self];rfl
theorem Snd.fill {m:Mesh} (h:Snd m):fillR m = (m,0,0):=by
 have hl:=loops_closed h.z h.border
 have hm:m.fillM = m:=by
  unfold Mesh.fillM
  rw [hl];simp
 unfold fillR
 rw [hm,hl]
 rw [if_pos rfl,if_pos h.len];rfl
theorem Snd.outw {m:Mesh} (h:Snd m):outR m = (m,0,0):=outR_again h.out
structure Wld (m:Mesh):Prop where
 asc:m.verts.Pairwise V3.lt
 used:∀ v ∈ m.verts,∃ t ∈ m.tris,v ∈ m.cor t
theorem Wld.weld {m:Mesh} (h:Wld m) (hz:m.check = 0):weldR m = (m,0,0):=by
 have hv:m.wverts = m.verts:=by
  refine ascG_ext V3.ltO (wverts_asc _) h.asc fun v=>?_
  rw [mem_wverts]
  constructor
  ·rintro⟨t,ht,hv⟩
   obtain⟨a0,a1,b0,b1,c0,c1⟩:=tok hz ht
   simp only [Mesh.cor,List.mem_cons,List.not_mem_nil,or_false] at hv
   rcases hv with rfl | rfl | rfl
   ·exact Mesh.v_mem a0 a1
   ·exact Mesh.v_mem b0 b1
   ·exact Mesh.v_mem c0 c1
  ·exact h.used v
 have hnd:m.verts.Nodup:=by
  exact ascG_nodup V3.ltO h.asc
 have hi:∀ i:Int,0 ≤ i→i < m.verts.length→idxV m.verts (m.v i) = i:=by
  intro i h0 h1
  have:=idxV_of_get hnd (i:=i.toNat) (v:=m.v i) (by
   have hlt:i.toNat < m.verts.length:=by omega
   rw [List.getElem?_eq_getElem hlt,m.v_get h1 hlt])
  omega
 have ht:m.tris.map (wtri m m.verts) = m.tris:=by
  conv=>rhs;rw [← List.map_id m.tris]
  refine List.map_congr_left fun t ht=>?_
  obtain⟨a0,a1,b0,b1,c0,c1⟩:=tok hz ht
  simp only [wtri,hi _ a0 a1,hi _ b0 b1,hi _ c0 c1];rfl
 unfold weldR Mesh.weldM
 rw [if_pos hz,hv,ht]
 simp
theorem weldR_cases (m:Mesh):((weldR m).2.2 ≠ 0∧m.check ≠ 0) ∨ (m.check = 0∧weldR m = (m.weldM,(m.verts.length:Int) - m.wverts.length,0)):=by
 unfold weldR
 by_cases h:m.check = 0
 ·rw [if_pos h];exact .inr ⟨h,rfl⟩
 ·rw [if_neg h];exact .inl ⟨h,h⟩
theorem weldM_wld {m:Mesh} (hz:m.check = 0):Wld m.weldM where
 asc:=wverts_asc m
 used v hv:=by
  have hv:v ∈ m.weldM.wverts:=by
   have h:=congrArg Mesh.verts (weld_weld hz)
   show v ∈ m.weldM.weldM.verts
   rw [h];exact hv
  exact mem_wverts.1 hv
theorem cor_rev (m:Mesh) (t:T3) (v:V3):v ∈ m.cor t.rev ↔ v ∈ m.cor t:=by
 simp only [Mesh.cor,T3.rev,List.mem_cons,List.not_mem_nil,or_false]
 constructor <;> rintro (h | h | h) <;> simp [h]
theorem Wld.fl {m:Mesh} (h:Wld m) {us:List T3} (hf:Fl m.tris us):Wld ⟨m.verts,us⟩ where
 asc:=h.asc
 used v hv:=by
  obtain⟨t,ht,hc⟩:=h.used v hv
  obtain⟨i,hi⟩:=List.getElem?_of_mem ht
  have hl:=(List.getElem?_eq_some_iff.1 hi).1
  rw [tAt_get hl] at hi
  obtain rfl:=Option.some.inj hi
  refine⟨tAt us i,List.mem_of_getElem? (tAt_get (by rw [hf.len];exact hl)),?_⟩
  show v ∈ m.cor _
  rcases hf.tat hl with h1 | h1
  ·rw [h1];exact hc
  ·rw [h1,cor_rev];exact hc
theorem Wld.more {m:Mesh} (h:Wld m) (k:List T3):Wld ⟨m.verts,m.tris ++ k⟩ where
 asc:=h.asc
 used v hv:=by
  obtain⟨t,ht,hc⟩:=h.used v hv
  exact⟨t,List.mem_append_left _ ht,hc⟩
theorem oriR_cs (m:Mesh):((oriR m).2.2 ≠ 0) ∨ (m.check = 0∧∃ us,orientL m.tris = some us∧oriR m = (⟨m.verts,us⟩,(difN m.tris us:Int),0)):=by
 by_cases h:m.check = 0
 case neg =>
  left
  unfold oriR
  rw [if_pos h];exact h
 cases ho:orientL m.tris with
 | none=>left;rw [oriR_err h ho];simp
 | some us=>exact .inr ⟨h,us,rfl,oriR_ok h ho⟩
theorem fillR_cases (m:Mesh):((fillR m).2.2 ≠ 0) ∨ (m.loops.2 = 0∧m.fillM.tris.length ≤ 4096∧fillR m = (m.fillM,(m.loops.1.length:Int),0)):=by
 unfold fillR
 by_cases h:m.loops.2 = 0
 ·rw [if_pos h]
  by_cases h2:m.fillM.tris.length ≤ 4096
  ·rw [if_pos h2];exact .inr ⟨h,h2,rfl⟩
  ·rw [if_neg h2];left;simp
 ·rw [if_neg h];exact .inl h
theorem repR_cases (m:Mesh):((repR m).2.2 ≠ 0∧repR m = (noMesh,Rep.zero,(repR m).2.2)) ∨
  ((repR m).2.2 = 0∧Wld (repR m).1∧Snd (repR m).1∧(repR m).2.1.sh = ((repR m).1.shells.length:Int)):=by
 unfold repR
 simp only []
 rcases weldR_cases m with⟨h,hz⟩ | ⟨hz,h1⟩
 ·rw [if_pos h];exact .inl ⟨h,rfl⟩
 rw [h1]
 simp only [ne_eq,not_true_eq_false,if_false]
 by_cases h2:(cleanR m.weldM).2.2.2 = 0
 case neg=>rw [if_pos h2];exact .inl ⟨h2,rfl⟩
 rw [if_neg (by simpa using h2)]
 rcases weldR_cases (cleanR m.weldM).1 with⟨h,hz⟩ | ⟨hz3,h3⟩
 ·rw [if_pos h];exact .inl ⟨h,rfl⟩
 rw [h3]
 simp only [not_true_eq_false,if_false]
 have hw:=weldM_wld hz3
 rcases oriR_cs (cleanR m.weldM).1.weldM with h | ⟨hz4,us,ho,h4⟩
 ·rw [if_pos h];exact .inl ⟨h,rfl⟩
 rw [h4]
 simp only [not_true_eq_false,if_false]
 have hw4:=hw.fl (by obtain⟨L,hL⟩:=lab_ex (cleanR m.weldM).1.weldM.tris;exact (orientL_good hL ho).fl)
 generalize (⟨(cleanR m.weldM).1.weldM.verts,us⟩:Mesh) = d at *
 rcases fillR_cases d with h | ⟨hl,hlen,h5⟩
 ·rw [if_pos h];exact .inl ⟨h,rfl⟩
 rw [h5]
 simp only [not_true_eq_false,if_false]
 have hw5:Wld d.fillM:=hw4.more _
 generalize d.fillM = g at *
 rcases outR_cases g with⟨h,_⟩ | ⟨h6,hok⟩
 ·rw [if_pos h];exact .inl ⟨h,rfl⟩
 rw [h6]
 simp only [not_true_eq_false,if_false]
 have hw6:Wld g.outw:=hw5.fl (flp_Fl _ _)
 by_cases h7:chkR g.outw = 0
 case neg=>rw [if_pos h7];exact .inl ⟨h7,rfl⟩
 rw [if_neg (by simpa using h7)]
 exact .inr ⟨rfl,hw6,snd_iff.1 h7,rfl⟩
end Go.Abs
set_option linter.unusedVariables false
set_option linter.unusedSimpArgs false
namespace Go.Abs
def repair_Check.c (mesh_Check topo_Closed orient_Coherent weld_Degenerate repair_inverted:FuncId):C :=(.seq (.reg [⟨some 1,none,.box (.t 0)⟩,⟨some 2,none,.mv (.c (.i .i64 0))⟩]) (.seq (.seq (.reg [⟨some 5,none,.ld (some 2) (.t 1)⟩,⟨some 6,none,.call mesh_Check [.t 5]⟩,⟨some 3,none,.mv (.t 6)⟩]) (.seq (.reg [⟨some 7,none,.mv (.t 3)⟩,⟨some 8,none,.bin .neq (.t 7) (.c (.i .i64 0))⟩]) (.ite (.t 8) (.seq (.reg [⟨some 9,none,.mv (.t 3)⟩,⟨some 2,none,.mv (.t 9)⟩]) .ret) .skip))) (.seq (.seq (.reg [⟨some 10,none,.ld (some 2) (.t 1)⟩,⟨some 11,none,.call topo_Closed [.t 10]⟩,⟨some 12,none,.un .not (.t 11)⟩])
 (.ite (.t 12) (.seq (.reg [⟨some 2,none,.mv (.c (.i .i64 12))⟩]) .ret) .skip)) (.seq (.seq (.reg [⟨some 13,none,.ld (some 2) (.t 1)⟩,⟨some 14,none,.call orient_Coherent [.t 13]⟩,⟨some 15,none,.un .not (.t 14)⟩]) (.ite (.t 15) (.seq (.reg [⟨some 2,none,.mv (.c (.i .i64 13))⟩]) .ret) .skip)) (.seq (.seq (.reg [⟨some 16,none,.fa 1 (.t 1)⟩,⟨some 17,none,.ld none (.t 16)⟩,⟨some 18,none,.len 0 (.t 17)⟩,⟨some 19,none,.mv (.c (.i .i64 0))⟩]) (.blk 0 (.loop (.seq (.reg [⟨some 20,none,.bin .lss (.t 19) (.t 18)⟩]) (.seq (.ite (.t 20) .skip (.exit 0)) (.seq (.blk 1 (.seq (.reg [⟨some 21,none,.mv (.t 19)⟩,
 ⟨some 4,none,.mv (.t 21)⟩]) (.seq (.reg [⟨some 22,none,.ld (some 2) (.t 1)⟩,⟨some 23,none,.mv (.t 4)⟩,⟨some 24,none,.call weld_Degenerate [.t 22,.t 23]⟩]) (.ite (.t 24) (.seq (.reg [⟨some 2,none,.mv (.c (.i .i64 1))⟩]) .ret) .skip)))) (.reg [⟨some 25,none,.bin .add (.t 19) (.c (.i .i64 1))⟩,⟨some 19,none,.mv (.t 25)⟩]))))))) (.seq (.seq (.reg [⟨some 26,none,.ld (some 2) (.t 1)⟩,⟨some 27,none,.call repair_inverted [.t 26]⟩]) (.ite (.t 27) (.seq (.reg [⟨some 2,none,.mv (.c (.i .i64 1))⟩]) .ret) .skip)) (.seq (.reg [⟨some 2,none,.mv (.c (.i .i64 0))⟩]) .ret)))))))
def repair_Check.r:List Rr:=[.tmp 2]
abbrev repair_Check.n:Nat:=28
def repair_Repair.c (repair_job_weld repair_job_clean repair_job_orient repair_job_fill repair_job_outward repair_job_check:FuncId):C :=(.seq (.reg [⟨some 1,none,.box (.t 0)⟩,⟨some 2,none,.alloc [.nil,.nil]⟩,⟨some 3,none,.alloc [(.i .i64 0),(.i .i64 0),(.i .i64 0),(.i .i64 0),(.i .i64 0),(.i .i64 0),(.i .i64 0)]⟩,⟨some 4,none,.mv (.c (.i .i64 0))⟩]) (.seq (.reg [⟨some 10,none,.bso 1 7 [.any] [(0,(.c (.f repair_job_weld []))),(1,(.c (.f repair_job_clean []))),(2,(.c (.f repair_job_weld []))),(3,(.c (.f repair_job_orient []))),(4,(.c (.f repair_job_fill []))),(5,(.c (.f repair_job_outward []))),(6,(.c (.f repair_job_check [])))]⟩,
 ⟨some 5,none,.mv (.t 10)⟩]) (.seq (.reg [⟨some 11,none,.ld (some 2) (.t 1)⟩,⟨some 12,none,.build [.nil,.nil,(.i .i64 0),(.i .i64 0),(.i .i64 0),(.i .i64 0),(.i .i64 0),(.i .i64 0),(.i .i64 0)] [(0,2,(.t 11))]⟩,⟨some 13,none,.box (.t 12)⟩,⟨some 6,none,.mv (.t 13)⟩]) (.seq (.seq (.reg [⟨some 14,none,.mv (.t 5)⟩,⟨some 15,none,.len 0 (.t 14)⟩,⟨some 16,none,.mv (.c (.i .i64 0))⟩]) (.blk 0 (.loop (.seq (.reg [⟨some 17,none,.bin .lss (.t 16) (.t 15)⟩]) (.seq (.ite (.t 17) .skip (.exit 0)) (.seq (.blk 1 (.seq (.reg [⟨some 18,none,.ia 1 (.t 14) (.t 16)⟩,⟨some 19,none,.ld none (.t 18)⟩,⟨some 8,none,.mv (.t 19)⟩])
 (.seq (.reg [⟨some 20,none,.mv (.t 8)⟩,⟨some 21,none,.mv (.t 6)⟩,⟨some 22,none,.callv (.t 20) [.t 21]⟩,⟨some 9,none,.mv (.t 22)⟩]) (.seq (.reg [⟨some 23,none,.mv (.t 9)⟩,⟨some 24,none,.bin .neq (.t 23) (.c (.i .i64 0))⟩]) (.ite (.t 24) (.seq (.reg [⟨some 25,none,.build [.nil,.nil] []⟩,⟨some 26,none,.build [(.i .i64 0),(.i .i64 0),(.i .i64 0),(.i .i64 0),(.i .i64 0),(.i .i64 0),(.i .i64 0)] []⟩,⟨some 27,none,.mv (.t 9)⟩,⟨none,none,.st 2 (.t 2) (.t 25)⟩,⟨none,none,.st 7 (.t 3) (.t 26)⟩,⟨some 4,none,.mv (.t 27)⟩]) .ret) .skip))))) (.reg [⟨some 28,none,.bin .add (.t 16) (.c (.i .i64 1))⟩,⟨some 16,none,.mv (.t 28)⟩])))))))
 (.seq (.drw [⟨some 29,none,.mv (.t 6)⟩,⟨some 30,none,.nck (.t 29)⟩,⟨some 31,none,.fa 0 (.t 30)⟩,⟨some 32,none,.ld (some 2) (.t 31)⟩,⟨some 33,none,.mv (.t 6)⟩,⟨some 34,none,.nck (.t 33)⟩,⟨some 35,none,.fa 2 (.t 34)⟩,⟨some 36,none,.ld (some 7) (.t 35)⟩,⟨none,none,.st 2 (.t 2) (.t 32)⟩,⟨none,none,.st 7 (.t 3) (.t 36)⟩,⟨some 4,none,.mv (.c (.i .i64 0))⟩] [[],[],[],[],[],[],[],[],[5,6,7],[],[]]) .ret)))))
def repair_Repair.r:List Rr:=[.cell 2 (some 2),.cell 3 (some 7),.tmp 4]
abbrev repair_Repair.n:Nat:=37
def repair_inverted.c (topo_Shells mesh_Volume6:FuncId):C :=(.seq (.reg [⟨some 1,none,.box (.t 0)⟩,⟨some 2,none,.mv (.c (.b false))⟩]) (.seq (.seq (.reg [⟨some 8,none,.ld (some 2) (.t 1)⟩,⟨some 9,none,.call topo_Shells [.t 8]⟩,⟨some 10,none,.len 0 (.t 9)⟩,⟨some 11,none,.mv (.c (.i .i64 0))⟩]) (.blk 0 (.loop (.seq (.reg [⟨some 12,none,.bin .lss (.t 11) (.t 10)⟩]) (.seq (.ite (.t 12) .skip (.exit 0)) (.seq (.blk 1 (.seq (.reg [⟨some 13,none,.ia 1 (.t 9) (.t 11)⟩,⟨some 14,none,.ld none (.t 13)⟩,⟨some 4,none,.mv (.t 14)⟩]) (.seq (.reg [⟨some 15,none,.fa 0 (.t 1)⟩,⟨some 16,none,.ld none (.t 15)⟩,⟨some 17,none,.build [.nil,.nil] [(0,1,(.t 16))]⟩,
 ⟨some 5,none,.alloc [.nil,.nil]⟩,⟨none,none,.st 2 (.t 5) (.t 17)⟩]) (.seq (.seq (.reg [⟨some 18,none,.mv (.t 4)⟩,⟨some 19,none,.len 0 (.t 18)⟩,⟨some 20,none,.mv (.c (.i .i64 0))⟩]) (.blk 2 (.loop (.seq (.reg [⟨some 21,none,.bin .lss (.t 20) (.t 19)⟩]) (.seq (.ite (.t 21) .skip (.exit 2)) (.seq (.blk 3 (.seq (.reg [⟨some 22,none,.ia 1 (.t 18) (.t 20)⟩,⟨some 23,none,.ld none (.t 22)⟩,⟨some 7,none,.mv (.t 23)⟩]) (.drw [⟨some 24,none,.fa 1 (.t 5)⟩,⟨some 25,none,.ld none (.t 24)⟩,⟨some 26,none,.fa 1 (.t 1)⟩,⟨some 27,none,.ld none (.t 26)⟩,⟨some 28,none,.mv (.t 7)⟩,⟨some 29,none,.ia 3 (.t 27) (.t 28)⟩,
 ⟨some 30,none,.ld (some 3) (.t 29)⟩,⟨some 31,none,.bsi 3 1 [(.i .i64 0),(.i .i64 0),(.i .i64 0)] [(0,(.t 30))]⟩,⟨some 32,none,.app 3 24 (.t 25) (.t 31)⟩,⟨some 33,none,.fa 1 (.t 5)⟩,⟨none,none,.st 1 (.t 33) (.t 32)⟩] []))) (.reg [⟨some 34,none,.bin .add (.t 20) (.c (.i .i64 1))⟩,⟨some 20,none,.mv (.t 34)⟩]))))))) (.seq (.reg [⟨some 35,none,.ld (some 2) (.t 5)⟩,⟨some 36,none,.call mesh_Volume6 [.t 35]⟩,⟨some 37,none,.bin .lss (.t 36) (.c (.i .i64 0))⟩]) (.ite (.t 37) (.seq (.reg [⟨some 2,none,.mv (.c (.b true))⟩]) .ret) .skip)))))) (.reg [⟨some 38,none,.bin .add (.t 11) (.c (.i .i64 1))⟩,⟨some 11,none,.mv (.t 38)⟩])))))))
 (.seq (.reg [⟨some 2,none,.mv (.c (.b false))⟩]) .ret)))
def repair_inverted.r:List Rr:=[.tmp 2]
abbrev repair_inverted.n:Nat:=39
def repair_job_check.c (topo_Shells repair_Check:FuncId):C :=(.seq (.reg [⟨some 2,none,.mv (.c (.i .i64 0))⟩]) (.seq (.reg [⟨some 3,none,.mv (.t 0)⟩,⟨some 4,none,.mv (.t 0)⟩,⟨some 5,none,.nck (.t 4)⟩,⟨some 6,none,.fa 0 (.t 5)⟩,⟨some 7,none,.ld (some 2) (.t 6)⟩,⟨some 8,none,.call topo_Shells [.t 7]⟩,⟨some 9,none,.len 0 (.t 8)⟩,⟨some 10,none,.nck (.t 3)⟩,⟨some 11,none,.fa 2 (.t 10)⟩,⟨some 12,none,.fa 6 (.t 11)⟩,⟨none,none,.st 1 (.t 12) (.t 9)⟩]) (.seq (.reg [⟨some 13,none,.mv (.t 0)⟩,⟨some 14,none,.nck (.t 13)⟩,⟨some 15,none,.fa 0 (.t 14)⟩,⟨some 16,none,.ld (some 2) (.t 15)⟩,⟨some 17,none,.call repair_Check [.t 16]⟩,
 ⟨some 2,none,.mv (.t 17)⟩]) .ret)))
def repair_job_check.r:List Rr:=[.tmp 2]
abbrev repair_job_check.n:Nat:=18
def repair_job_clean.c (weld_Clean:FuncId):C :=(.seq (.reg [⟨some 2,none,.mv (.c (.i .i64 0))⟩]) (.seq (.reg [⟨some 8,none,.mv (.t 0)⟩,⟨some 9,none,.nck (.t 8)⟩,⟨some 10,none,.fa 0 (.t 9)⟩,⟨some 11,none,.ld (some 2) (.t 10)⟩,⟨some 12,none,.call weld_Clean [.t 11]⟩,⟨some 7,none,.mv (.t 12)⟩,⟨some 13,none,.ext (.t 7) 0⟩,⟨some 14,none,.ext (.t 7) 1⟩,⟨some 15,none,.ext (.t 7) 2⟩,⟨some 16,none,.ext (.t 7) 3⟩,⟨some 3,none,.alloc [.nil,.nil]⟩,⟨none,none,.st 2 (.t 3) (.t 13)⟩,⟨some 4,none,.mv (.t 14)⟩,⟨some 5,none,.mv (.t 15)⟩,⟨some 6,none,.mv (.t 16)⟩]) (.seq (.reg [⟨some 17,none,.mv (.t 0)⟩,⟨some 18,none,.ld (some 2) (.t 3)⟩,
 ⟨some 19,none,.nck (.t 17)⟩,⟨some 20,none,.fa 0 (.t 19)⟩,⟨none,none,.st 2 (.t 20) (.t 18)⟩]) (.seq (.reg [⟨some 21,none,.mv (.t 0)⟩,⟨some 22,none,.mv (.t 4)⟩,⟨some 23,none,.nck (.t 21)⟩,⟨some 24,none,.fa 2 (.t 23)⟩,⟨some 25,none,.fa 1 (.t 24)⟩,⟨none,none,.st 1 (.t 25) (.t 22)⟩]) (.seq (.reg [⟨some 26,none,.mv (.t 0)⟩,⟨some 27,none,.mv (.t 5)⟩,⟨some 28,none,.nck (.t 26)⟩,⟨some 29,none,.fa 2 (.t 28)⟩,⟨some 30,none,.fa 2 (.t 29)⟩,⟨none,none,.st 1 (.t 30) (.t 27)⟩]) (.seq (.reg [⟨some 31,none,.mv (.t 6)⟩,⟨some 2,none,.mv (.t 31)⟩]) .ret))))))
def repair_job_clean.r:List Rr:=[.tmp 2]
abbrev repair_job_clean.n:Nat:=32
def repair_job_fill.c (holes_Fill:FuncId):C :=(.seq (.reg [⟨some 2,none,.mv (.c (.i .i64 0))⟩]) (.seq (.reg [⟨some 7,none,.mv (.t 0)⟩,⟨some 8,none,.nck (.t 7)⟩,⟨some 9,none,.fa 0 (.t 8)⟩,⟨some 10,none,.ld (some 2) (.t 9)⟩,⟨some 11,none,.call holes_Fill [.t 10]⟩,⟨some 6,none,.mv (.t 11)⟩,⟨some 12,none,.ext (.t 6) 0⟩,⟨some 13,none,.ext (.t 6) 1⟩,⟨some 14,none,.ext (.t 6) 2⟩,⟨some 3,none,.alloc [.nil,.nil]⟩,⟨none,none,.st 2 (.t 3) (.t 12)⟩,⟨some 4,none,.mv (.t 13)⟩,⟨some 5,none,.mv (.t 14)⟩]) (.seq (.reg [⟨some 15,none,.mv (.t 0)⟩,⟨some 16,none,.ld (some 2) (.t 3)⟩,⟨some 17,none,.nck (.t 15)⟩,⟨some 18,none,.fa 0 (.t 17)⟩,
 ⟨none,none,.st 2 (.t 18) (.t 16)⟩]) (.seq (.reg [⟨some 19,none,.mv (.t 0)⟩,⟨some 20,none,.mv (.t 4)⟩,⟨some 21,none,.nck (.t 19)⟩,⟨some 22,none,.fa 2 (.t 21)⟩,⟨some 23,none,.fa 4 (.t 22)⟩,⟨none,none,.st 1 (.t 23) (.t 20)⟩]) (.seq (.reg [⟨some 24,none,.mv (.t 5)⟩,⟨some 2,none,.mv (.t 24)⟩]) .ret)))))
def repair_job_fill.r:List Rr:=[.tmp 2]
abbrev repair_job_fill.n:Nat:=25
def repair_job_orient.c (orient_Orient:FuncId):C :=(.seq (.reg [⟨some 2,none,.mv (.c (.i .i64 0))⟩]) (.seq (.reg [⟨some 7,none,.mv (.t 0)⟩,⟨some 8,none,.nck (.t 7)⟩,⟨some 9,none,.fa 0 (.t 8)⟩,⟨some 10,none,.ld (some 2) (.t 9)⟩,⟨some 11,none,.call orient_Orient [.t 10]⟩,⟨some 6,none,.mv (.t 11)⟩,⟨some 12,none,.ext (.t 6) 0⟩,⟨some 13,none,.ext (.t 6) 1⟩,⟨some 14,none,.ext (.t 6) 2⟩,⟨some 3,none,.alloc [.nil,.nil]⟩,⟨none,none,.st 2 (.t 3) (.t 12)⟩,⟨some 4,none,.mv (.t 13)⟩,⟨some 5,none,.mv (.t 14)⟩]) (.seq (.reg [⟨some 15,none,.mv (.t 0)⟩,⟨some 16,none,.ld (some 2) (.t 3)⟩,⟨some 17,none,.nck (.t 15)⟩,
 ⟨some 18,none,.fa 0 (.t 17)⟩,⟨none,none,.st 2 (.t 18) (.t 16)⟩]) (.seq (.reg [⟨some 19,none,.mv (.t 0)⟩,⟨some 20,none,.mv (.t 4)⟩,⟨some 21,none,.nck (.t 19)⟩,⟨some 22,none,.fa 2 (.t 21)⟩,⟨some 23,none,.fa 3 (.t 22)⟩,⟨none,none,.st 1 (.t 23) (.t 20)⟩]) (.seq (.reg [⟨some 24,none,.mv (.t 5)⟩,⟨some 2,none,.mv (.t 24)⟩]) .ret)))))
def repair_job_orient.r:List Rr:=[.tmp 2]
abbrev repair_job_orient.n:Nat:=25
def repair_job_outward.c (orient_Outward:FuncId):C :=(.seq (.reg [⟨some 2,none,.mv (.c (.i .i64 0))⟩]) (.seq (.reg [⟨some 7,none,.mv (.t 0)⟩,⟨some 8,none,.nck (.t 7)⟩,⟨some 9,none,.fa 0 (.t 8)⟩,⟨some 10,none,.ld (some 2) (.t 9)⟩,⟨some 11,none,.call orient_Outward [.t 10]⟩,⟨some 6,none,.mv (.t 11)⟩,⟨some 12,none,.ext (.t 6) 0⟩,⟨some 13,none,.ext (.t 6) 1⟩,⟨some 14,none,.ext (.t 6) 2⟩,⟨some 3,none,.alloc [.nil,.nil]⟩,⟨none,none,.st 2 (.t 3) (.t 12)⟩,⟨some 4,none,.mv (.t 13)⟩,⟨some 5,none,.mv (.t 14)⟩]) (.seq (.reg [⟨some 15,none,.mv (.t 0)⟩,⟨some 16,none,.ld (some 2) (.t 3)⟩,⟨some 17,none,.nck (.t 15)⟩,
 ⟨some 18,none,.fa 0 (.t 17)⟩,⟨none,none,.st 2 (.t 18) (.t 16)⟩]) (.seq (.reg [⟨some 19,none,.mv (.t 0)⟩,⟨some 20,none,.mv (.t 4)⟩,⟨some 21,none,.nck (.t 19)⟩,⟨some 22,none,.fa 2 (.t 21)⟩,⟨some 23,none,.fa 5 (.t 22)⟩,⟨none,none,.st 1 (.t 23) (.t 20)⟩]) (.seq (.reg [⟨some 24,none,.mv (.t 5)⟩,⟨some 2,none,.mv (.t 24)⟩]) .ret)))))
def repair_job_outward.r:List Rr:=[.tmp 2]
abbrev repair_job_outward.n:Nat:=25
def repair_job_weld.c (weld_Weld:FuncId):C :=(.seq (.reg [⟨some 2,none,.mv (.c (.i .i64 0))⟩]) (.seq (.reg [⟨some 7,none,.mv (.t 0)⟩,⟨some 8,none,.nck (.t 7)⟩,⟨some 9,none,.fa 0 (.t 8)⟩,⟨some 10,none,.ld (some 2) (.t 9)⟩,⟨some 11,none,.call weld_Weld [.t 10]⟩,⟨some 6,none,.mv (.t 11)⟩,⟨some 12,none,.ext (.t 6) 0⟩,⟨some 13,none,.ext (.t 6) 1⟩,⟨some 14,none,.ext (.t 6) 2⟩,⟨some 3,none,.alloc [.nil,.nil]⟩,⟨none,none,.st 2 (.t 3) (.t 12)⟩,⟨some 4,none,.mv (.t 13)⟩,⟨some 5,none,.mv (.t 14)⟩]) (.seq (.reg [⟨some 15,none,.mv (.t 0)⟩,⟨some 16,none,.ld (some 2) (.t 3)⟩,⟨some 17,none,.nck (.t 15)⟩,⟨some 18,none,.fa 0 (.t 17)⟩,
 ⟨none,none,.st 2 (.t 18) (.t 16)⟩]) (.seq (.reg [⟨some 19,none,.mv (.t 0)⟩,⟨some 20,none,.nck (.t 19)⟩,⟨some 21,none,.fa 2 (.t 20)⟩,⟨some 22,none,.fa 0 (.t 21)⟩,⟨some 23,none,.ld none (.t 22)⟩,⟨some 24,none,.mv (.t 4)⟩,⟨some 25,none,.bin .add (.t 23) (.t 24)⟩,⟨some 26,none,.nck (.t 19)⟩,⟨some 27,none,.fa 2 (.t 26)⟩,⟨some 28,none,.fa 0 (.t 27)⟩,⟨none,none,.st 1 (.t 28) (.t 25)⟩]) (.seq (.reg [⟨some 29,none,.mv (.t 5)⟩,⟨some 2,none,.mv (.t 29)⟩]) .ret)))))
def repair_job_weld.r:List Rr:=[.tmp 2]
abbrev repair_job_weld.n:Nat:=30
def ref14_Check.c (ref07_Check ref10_Closed ref11_Coherent ref09_Degenerate ref10_Shells ref14_part ref07_Volume6:FuncId):C :=(.seq (.reg [⟨some 1,none,.box (.t 0)⟩,⟨some 2,none,.mv (.c (.i .i64 0))⟩]) (.seq (.seq (.reg [⟨some 7,none,.ld (some 2) (.t 1)⟩,⟨some 8,none,.call ref07_Check [.t 7]⟩,⟨some 3,none,.mv (.t 8)⟩]) (.seq (.reg [⟨some 9,none,.mv (.t 3)⟩,⟨some 10,none,.bin .neq (.t 9) (.c (.i .i64 0))⟩]) (.ite (.t 10) (.seq (.reg [⟨some 11,none,.mv (.t 3)⟩,⟨some 2,none,.mv (.t 11)⟩]) .ret) .skip))) (.seq (.seq (.reg [⟨some 12,none,.ld (some 2) (.t 1)⟩,⟨some 13,none,.call ref10_Closed [.t 12]⟩,
 ⟨some 14,none,.un .not (.t 13)⟩]) (.ite (.t 14) (.seq (.reg [⟨some 2,none,.mv (.c (.i .i64 12))⟩]) .ret) .skip)) (.seq (.seq (.reg [⟨some 15,none,.ld (some 2) (.t 1)⟩,⟨some 16,none,.call ref11_Coherent [.t 15]⟩,⟨some 17,none,.un .not (.t 16)⟩]) (.ite (.t 17) (.seq (.reg [⟨some 2,none,.mv (.c (.i .i64 13))⟩]) .ret) .skip)) (.seq (.seq (.reg [⟨some 4,none,.mv (.c (.i .i64 0))⟩]) (.blk 0 (.loop (.seq (.seq (.reg [⟨some 18,none,.mv (.t 4)⟩,⟨some 19,none,.fa 1 (.t 1)⟩,⟨some 20,none,.ld none (.t 19)⟩,⟨some 21,none,.len 0 (.t 20)⟩,⟨some 22,none,.bin .lss (.t 18) (.t 21)⟩]) (.ite (.t 22) .skip (.exit 0)))
 (.seq (.blk 1 (.seq (.reg [⟨some 25,none,.ld (some 2) (.t 1)⟩,⟨some 26,none,.mv (.t 4)⟩,⟨some 27,none,.call ref09_Degenerate [.t 25,.t 26]⟩]) (.ite (.t 27) (.seq (.reg [⟨some 2,none,.mv (.c (.i .i64 1))⟩]) .ret) .skip))) (.reg [⟨some 23,none,.mv (.t 4)⟩,⟨some 24,none,.bin .add (.t 23) (.c (.i .i64 1))⟩,⟨some 4,none,.mv (.t 24)⟩])))))) (.seq (.reg [⟨some 28,none,.ld (some 2) (.t 1)⟩,⟨some 29,none,.call ref10_Shells [.t 28]⟩,⟨some 5,none,.mv (.t 29)⟩]) (.seq (.seq (.reg [⟨some 6,none,.mv (.c (.i .i64 0))⟩]) (.blk 2 (.loop (.seq (.seq (.reg [⟨some 30,none,.mv (.t 6)⟩,⟨some 31,none,.mv (.t 5)⟩,⟨some 32,none,.len 0 (.t 31)⟩,
 ⟨some 33,none,.bin .lss (.t 30) (.t 32)⟩]) (.ite (.t 33) .skip (.exit 2))) (.seq (.blk 3 (.seq (.drw [⟨some 36,none,.ld (some 2) (.t 1)⟩,⟨some 37,none,.mv (.t 5)⟩,⟨some 38,none,.mv (.t 6)⟩,⟨some 39,none,.ia 1 (.t 37) (.t 38)⟩,⟨some 40,none,.ld none (.t 39)⟩,⟨some 41,none,.call ref14_part [.t 36,.t 40]⟩,⟨some 42,none,.call ref07_Volume6 [.t 41]⟩,⟨some 43,none,.bin .lss (.t 42) (.c (.i .i64 0))⟩] []) (.ite (.t 43) (.seq (.reg [⟨some 2,none,.mv (.c (.i .i64 1))⟩]) .ret) .skip))) (.reg [⟨some 34,none,.mv (.t 6)⟩,⟨some 35,none,.bin .add (.t 34) (.c (.i .i64 1))⟩,⟨some 6,none,.mv (.t 35)⟩])))))) (.seq
 (.reg [⟨some 2,none,.mv (.c (.i .i64 0))⟩]) .ret))))))))
def ref14_Check.r:List Rr:=[.tmp 2]
abbrev ref14_Check.n:Nat:=44
def ref14_part.c:C :=(.seq (.reg [⟨some 2,none,.box (.t 0)⟩,⟨some 4,none,.alloc [.nil,.nil]⟩]) (.seq (.reg [⟨some 7,none,.fa 0 (.t 2)⟩,⟨some 8,none,.ld none (.t 7)⟩,⟨some 9,none,.build [.nil,.nil] [(0,1,(.t 8))]⟩,⟨some 5,none,.alloc [.nil,.nil]⟩,⟨none,none,.st 2 (.t 5) (.t 9)⟩]) (.seq (.seq (.reg [⟨some 6,none,.mv (.c (.i .i64 0))⟩]) (.blk 0 (.loop (.seq (.seq (.reg [⟨some 10,none,.mv (.t 6)⟩,⟨some 11,none,.mv (.t 1)⟩,⟨some 12,none,.len 0 (.t 11)⟩,⟨some 13,none,.bin .lss (.t 10) (.t 12)⟩]) (.ite (.t 13) .skip (.exit 0))) (.seq (.blk 1 (.drw [⟨some 16,none,.fa 1 (.t 5)⟩,⟨some 17,none,.ld none (.t 16)⟩,
 ⟨some 18,none,.fa 1 (.t 2)⟩,⟨some 19,none,.ld none (.t 18)⟩,⟨some 20,none,.mv (.t 1)⟩,⟨some 21,none,.mv (.t 6)⟩,⟨some 22,none,.ia 1 (.t 20) (.t 21)⟩,⟨some 23,none,.ld none (.t 22)⟩,⟨some 24,none,.ia 3 (.t 19) (.t 23)⟩,⟨some 25,none,.ld (some 3) (.t 24)⟩,⟨some 26,none,.bsi 3 1 [(.i .i64 0),(.i .i64 0),(.i .i64 0)] [(0,(.t 25))]⟩,⟨some 27,none,.app 3 24 (.t 17) (.t 26)⟩,⟨some 28,none,.fa 1 (.t 5)⟩,⟨none,none,.st 1 (.t 28) (.t 27)⟩] [])) (.reg [⟨some 14,none,.mv (.t 6)⟩,⟨some 15,none,.bin .add (.t 14) (.c (.i .i64 1))⟩,⟨some 6,none,.mv (.t 15)⟩])))))) (.seq (.reg [⟨some 29,none,.ld (some 2) (.t 5)⟩,
 ⟨none,none,.st 2 (.t 4) (.t 29)⟩]) .ret))))
def ref14_part.r:List Rr:=[.cell 4 (some 2)]
abbrev ref14_part.n:Nat:=30
def law14_few.c:C :=(.seq (.reg [⟨some 1,none,.box (.t 0)⟩,⟨some 2,none,.mv (.c (.b false))⟩]) (.seq (.reg [⟨some 3,none,.fa 0 (.t 1)⟩,⟨some 4,none,.ld none (.t 3)⟩,⟨some 5,none,.len 0 (.t 4)⟩,⟨some 6,none,.bin .leq (.t 5) (.c (.i .i64 60))⟩,⟨some 7,none,.mv (.t 6)⟩,⟨some 8,(some (7,true)),.fa 1 (.t 1)⟩,⟨some 9,(some (7,true)),.ld none (.t 8)⟩,⟨some 10,(some (7,true)),.len 0 (.t 9)⟩,⟨some 11,(some (7,true)),.bin .leq (.t 10) (.c (.i .i64 60))⟩,⟨some 12,none,.pick (.t 7) (.t 11) (.c (.b false))⟩,⟨some 2,none,.mv (.t 12)⟩]) .ret))
def law14_few.r:List Rr:=[.tmp 2]
abbrev law14_few.n:Nat:=13
def law14_works.c (repair_Repair repair_Check:FuncId):C :=(.seq (.reg [⟨some 0,none,.mv (.c (.b false))⟩]) (.seq (.reg [⟨some 6,none,.build [(.i .i64 0),(.i .i64 0),(.i .i64 0)] []⟩,⟨some 7,none,.build [(.i .i64 0),(.i .i64 0),(.i .i64 0)] [(0,1,(.c (.i .i64 1)))]⟩,⟨some 8,none,.build [(.i .i64 0),(.i .i64 0),(.i .i64 0)] [(0,1,(.c (.i .i64 2)))]⟩,⟨some 9,none,.bso 3 3 [(.i .i64 0),(.i .i64 0),(.i .i64 0)] [(0,(.t 6)),(1,(.t 7)),(2,(.t 8))]⟩,⟨some 1,none,.mv (.t 9)⟩]) (.seq (.reg [⟨some 10,none,.build [(.i .i64 0),(.i .i64 0),(.i .i64 0)] [(0,1,(.c (.i .i64 0))),(1,1,(.c (.i .i64 1))),(2,1,(.c (.i .i64 2)))]⟩,
 ⟨some 11,none,.bso 3 1 [(.i .i64 0),(.i .i64 0),(.i .i64 0)] [(0,(.t 10))]⟩,⟨some 2,none,.mv (.t 11)⟩]) (.seq (.reg [⟨some 13,none,.mv (.t 1)⟩,⟨some 14,none,.mv (.t 2)⟩,⟨some 15,none,.build [.nil,.nil] [(0,1,(.t 13)),(1,1,(.t 14))]⟩,⟨some 16,none,.call repair_Repair [.t 15]⟩,⟨some 12,none,.mv (.t 16)⟩,⟨some 17,none,.ext (.t 12) 0⟩,⟨some 18,none,.ext (.t 12) 1⟩,⟨some 19,none,.ext (.t 12) 2⟩,⟨some 3,none,.alloc [.nil,.nil]⟩,⟨some 4,none,.alloc [(.i .i64 0),(.i .i64 0),(.i .i64 0),(.i .i64 0),(.i .i64 0),(.i .i64 0),(.i .i64 0)]⟩,⟨none,none,.st 2 (.t 3) (.t 17)⟩,⟨none,none,.st 7 (.t 4) (.t 18)⟩,
 ⟨some 5,none,.mv (.t 19)⟩]) (.seq (.reg [⟨some 20,none,.build [.nil,.nil] []⟩,⟨some 21,none,.call repair_Check [.t 20]⟩,⟨some 22,none,.bin .eql (.t 21) (.c (.i .i64 0))⟩,⟨some 23,none,.mv (.t 22)⟩,⟨some 24,(some (23,true)),.build [(.i .i64 0),(.i .i64 0),(.i .i64 0)] []⟩,⟨some 25,(some (23,true)),.build [(.i .i64 0),(.i .i64 0),(.i .i64 0)] [(0,1,(.c (.i .i64 1)))]⟩,⟨some 26,(some (23,true)),.build [(.i .i64 0),(.i .i64 0),(.i .i64 0)] [(1,1,(.c (.i .i64 1)))]⟩,⟨some 27,(some (23,true)),.bso 3 3 [(.i .i64 0),(.i .i64 0),(.i .i64 0)] [(0,(.t 24)),(1,(.t 25)),(2,(.t 26))]⟩,⟨some 28,(some (23,true)),.mv (.t 2)⟩,
 ⟨some 29,(some (23,true)),.build [.nil,.nil] [(0,1,(.t 27)),(1,1,(.t 28))]⟩,⟨some 30,(some (23,true)),.call repair_Check [.t 29]⟩,⟨some 31,(some (23,true)),.bin .eql (.t 30) (.c (.i .i64 12))⟩,⟨some 32,none,.pick (.t 23) (.t 31) (.c (.b false))⟩,⟨some 33,none,.mv (.t 32)⟩,⟨some 34,(some (33,true)),.mv (.t 5)⟩,⟨some 35,(some (33,true)),.bin .eql (.t 34) (.c (.i .i64 0))⟩,⟨some 36,none,.pick (.t 33) (.t 35) (.c (.b false))⟩,⟨some 37,none,.mv (.t 36)⟩,⟨some 38,(some (37,true)),.fa 0 (.t 3)⟩,⟨some 39,(some (37,true)),.ld none (.t 38)⟩,⟨some 40,(some (37,true)),.len 0 (.t 39)⟩,⟨some 41,(some (37,true)),.bin .eql (.t 40) (.c (.i .i64 0))⟩,
 ⟨some 42,none,.pick (.t 37) (.t 41) (.c (.b false))⟩,⟨some 43,none,.mv (.t 42)⟩,⟨some 44,(some (43,true)),.fa 1 (.t 3)⟩,⟨some 45,(some (43,true)),.ld none (.t 44)⟩,⟨some 46,(some (43,true)),.len 0 (.t 45)⟩,⟨some 47,(some (43,true)),.bin .eql (.t 46) (.c (.i .i64 0))⟩,⟨some 48,none,.pick (.t 43) (.t 47) (.c (.b false))⟩,⟨some 49,none,.mv (.t 48)⟩,⟨some 50,(some (49,true)),.ld (some 7) (.t 4)⟩,⟨some 51,(some (49,true)),.build [(.i .i64 0),(.i .i64 0),(.i .i64 0),(.i .i64 0),(.i .i64 0),(.i .i64 0),(.i .i64 0)] [(0,1,(.c (.i .i64 3))),(1,1,(.c (.i .i64 1)))]⟩,⟨some 52,(some (49,true)),.eqa [1,1,1,1,1,1,1] false (.t 50) (.t 51)⟩,
 ⟨some 53,none,.pick (.t 49) (.t 52) (.c (.b false))⟩,⟨some 0,none,.mv (.t 53)⟩]) .ret)))))
def law14_works.r:List Rr:=[.tmp 0]
abbrev law14_works.n:Nat:=54
def law14_RepairChecks.c (law14_few law14_works repair_Check ref14_Check:FuncId):C :=(.seq (.reg [⟨some 1,none,.box (.t 0)⟩,⟨some 2,none,.mv (.c (.b false))⟩]) (.seq (.seq (.reg [⟨some 3,none,.ld (some 2) (.t 1)⟩,⟨some 4,none,.call law14_few [.t 3]⟩,⟨some 5,none,.un .not (.t 4)⟩]) (.ite (.t 5) (.seq (.reg [⟨some 6,none,.call law14_works []⟩,⟨some 2,none,.mv (.t 6)⟩]) .ret) .skip)) (.seq (.drw [⟨some 7,none,.ld (some 2) (.t 1)⟩,⟨some 8,none,.call repair_Check [.t 7]⟩,⟨some 9,none,.ld (some 2) (.t 1)⟩,⟨some 10,none,.call ref14_Check [.t 9]⟩,⟨some 11,none,.bin .eql (.t 8) (.t 10)⟩,⟨some 12,none,.mv (.t 11)⟩,
 ⟨some 13,(some (12,true)),.call law14_works []⟩,⟨some 14,none,.pick (.t 12) (.t 13) (.c (.b false))⟩,⟨some 2,none,.mv (.t 14)⟩] [[],[],[1],[],[],[],[],[],[]]) .ret)))
def law14_RepairChecks.r:List Rr:=[.tmp 2]
abbrev law14_RepairChecks.n:Nat:=15
end Go.Abs
