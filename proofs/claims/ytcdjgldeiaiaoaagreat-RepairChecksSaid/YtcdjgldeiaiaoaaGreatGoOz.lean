/- Part of the library on which the proof stands: an abstract machine, its values and its soundness against the model; or what functions of the program do to such values. -/
import Derived.Test.YtcdjgldeiaiaoaaGreatGoOriA
import Derived.Test.YtcdjgldeiaiaoaaGreatGoQh
import Derived.Test.YtcdjgldeiaiaoaaGreatGoClone
import Derived.Test.YtcdjgldeiaiaoaaGreatGoRevC
set_option linter.unusedVariables false
set_option linter.unusedSimpArgs false
namespace Go.Abs
def orient_Outward.c (mesh_Check topo_Closed orient_coherent slices_Clone_api_Vec_api_Vec slices_Clone_api_Tri_api_Tri topo_Shells mesh_Volume6 orient_reversed:FuncId):C :=(.seq (.reg [⟨some 1,none,.box (.t 0)⟩,⟨some 2,none,.alloc [.nil,.nil]⟩,⟨some 3,none,.mv (.c (.i .i64 0))⟩,⟨some 4,none,.mv (.c (.i .i64 0))⟩]) (.seq (.reg [⟨some 15,none,.ld (some 2) (.t 1)⟩,⟨some 16,none,.call mesh_Check [.t 15]⟩,⟨some 5,none,.mv (.t 16)⟩]) (.seq (.blk 0 (.seq (.reg [⟨some 18,none,.mv (.t 5)⟩,⟨some 19,none,.bin .neq (.t 18) (.c (.i .i64 0))⟩,⟨some 17,none,.mv (.t 19)⟩]) (.ite (.t 17) (.seq (.reg [⟨some 20,none,.build [.nil,.nil] []⟩,
 ⟨some 21,none,.mv (.t 5)⟩,⟨none,none,.st 2 (.t 2) (.t 20)⟩,⟨some 3,none,.mv (.c (.i .i64 0))⟩,⟨some 4,none,.mv (.t 21)⟩]) .ret) (.seq (.reg [⟨some 23,none,.ld (some 2) (.t 1)⟩,⟨some 24,none,.call topo_Closed [.t 23]⟩,⟨some 25,none,.un .not (.t 24)⟩,⟨some 22,none,.mv (.t 25)⟩]) (.ite (.t 22) (.seq (.reg [⟨some 26,none,.build [.nil,.nil] []⟩,⟨none,none,.st 2 (.t 2) (.t 26)⟩,⟨some 3,none,.mv (.c (.i .i64 0))⟩,⟨some 4,none,.mv (.c (.i .i64 12))⟩]) .ret) (.seq (.reg [⟨some 28,none,.fa 1 (.t 1)⟩,⟨some 29,none,.ld none (.t 28)⟩,⟨some 30,none,.call orient_coherent [.t 29]⟩,⟨some 31,none,.un .not (.t 30)⟩,
 ⟨some 27,none,.mv (.t 31)⟩]) (.ite (.t 27) (.seq (.reg [⟨some 32,none,.build [.nil,.nil] []⟩,⟨none,none,.st 2 (.t 2) (.t 32)⟩,⟨some 3,none,.mv (.c (.i .i64 0))⟩,⟨some 4,none,.mv (.c (.i .i64 13))⟩]) .ret) .skip))))))) (.seq (.drw [⟨some 33,none,.fa 0 (.t 1)⟩,⟨some 34,none,.ld none (.t 33)⟩,⟨some 35,none,.call slices_Clone_api_Vec_api_Vec [.t 34]⟩,⟨some 36,none,.fa 1 (.t 1)⟩,⟨some 37,none,.ld none (.t 36)⟩,⟨some 38,none,.call slices_Clone_api_Tri_api_Tri [.t 37]⟩,⟨some 39,none,.build [.nil,.nil] [(0,1,(.t 35)),(1,1,(.t 38))]⟩,⟨some 6,none,.alloc [.nil,.nil]⟩,⟨none,none,.st 2 (.t 6) (.t 39)⟩] [[],[],[],[2],[2],[],[],[],[]])
 (.seq (.reg [⟨some 7,none,.mv (.c (.i .i64 0))⟩]) (.seq (.seq (.reg [⟨some 40,none,.ld (some 2) (.t 1)⟩,⟨some 41,none,.call topo_Shells [.t 40]⟩,⟨some 42,none,.len 0 (.t 41)⟩,⟨some 43,none,.mv (.c (.i .i64 0))⟩]) (.blk 1 (.loop (.seq (.reg [⟨some 44,none,.bin .lss (.t 43) (.t 42)⟩]) (.seq (.ite (.t 44) .skip (.exit 1)) (.seq (.blk 2 (.seq (.reg [⟨some 45,none,.ia 1 (.t 41) (.t 43)⟩,⟨some 46,none,.ld none (.t 45)⟩,⟨some 9,none,.mv (.t 46)⟩]) (.seq (.reg [⟨some 47,none,.fa 0 (.t 1)⟩,⟨some 48,none,.ld none (.t 47)⟩,⟨some 49,none,.build [.nil,.nil] [(0,1,(.t 48))]⟩,⟨some 10,none,.alloc [.nil,.nil]⟩,
 ⟨none,none,.st 2 (.t 10) (.t 49)⟩]) (.seq (.seq (.reg [⟨some 50,none,.mv (.t 9)⟩,⟨some 51,none,.len 0 (.t 50)⟩,⟨some 52,none,.mv (.c (.i .i64 0))⟩]) (.blk 3 (.loop (.seq (.reg [⟨some 53,none,.bin .lss (.t 52) (.t 51)⟩]) (.seq (.ite (.t 53) .skip (.exit 3)) (.seq (.blk 4 (.seq (.reg [⟨some 54,none,.ia 1 (.t 50) (.t 52)⟩,⟨some 55,none,.ld none (.t 54)⟩,⟨some 12,none,.mv (.t 55)⟩]) (.drw [⟨some 56,none,.fa 1 (.t 10)⟩,⟨some 57,none,.ld none (.t 56)⟩,⟨some 58,none,.fa 1 (.t 1)⟩,⟨some 59,none,.ld none (.t 58)⟩,⟨some 60,none,.mv (.t 12)⟩,⟨some 61,none,.ia 3 (.t 59) (.t 60)⟩,⟨some 62,none,.ld (some 3) (.t 61)⟩,
 ⟨some 63,none,.bsi 3 1 [(.i .i64 0),(.i .i64 0),(.i .i64 0)] [(0,(.t 62))]⟩,⟨some 64,none,.app 3 24 (.t 57) (.t 63)⟩,⟨some 65,none,.fa 1 (.t 10)⟩,⟨none,none,.st 1 (.t 65) (.t 64)⟩] []))) (.reg [⟨some 66,none,.bin .add (.t 52) (.c (.i .i64 1))⟩,⟨some 52,none,.mv (.t 66)⟩]))))))) (.seq (.seq (.reg [⟨some 67,none,.ld (some 2) (.t 10)⟩,⟨some 68,none,.call mesh_Volume6 [.t 67]⟩,⟨some 69,none,.bin .geq (.t 68) (.c (.i .i64 0))⟩]) (.ite (.t 69) (.exit 2) .skip)) (.seq (.reg [⟨some 70,none,.mv (.t 7)⟩,⟨some 71,none,.bin .add (.t 70) (.c (.i .i64 1))⟩,⟨some 7,none,.mv (.t 71)⟩]) (.seq (.reg [⟨some 72,none,.mv (.t 9)⟩,
 ⟨some 73,none,.len 0 (.t 72)⟩,⟨some 74,none,.mv (.c (.i .i64 0))⟩]) (.blk 5 (.loop (.seq (.reg [⟨some 75,none,.bin .lss (.t 74) (.t 73)⟩]) (.seq (.ite (.t 75) .skip (.exit 5)) (.seq (.blk 6 (.seq (.reg [⟨some 76,none,.ia 1 (.t 72) (.t 74)⟩,⟨some 77,none,.ld none (.t 76)⟩,⟨some 14,none,.mv (.t 77)⟩]) (.drw [⟨some 78,none,.fa 1 (.t 6)⟩,⟨some 79,none,.ld none (.t 78)⟩,⟨some 80,none,.mv (.t 14)⟩,⟨some 81,none,.fa 1 (.t 1)⟩,⟨some 82,none,.ld none (.t 81)⟩,⟨some 83,none,.mv (.t 14)⟩,⟨some 84,none,.ia 3 (.t 82) (.t 83)⟩,⟨some 85,none,.ld (some 3) (.t 84)⟩,⟨some 86,none,.call orient_reversed [.t 85]⟩,
 ⟨some 87,none,.ia 3 (.t 79) (.t 80)⟩,⟨none,none,.st 3 (.t 87) (.t 86)⟩] [[],[],[],[],[],[],[],[],[0,1],[],[]]))) (.reg [⟨some 88,none,.bin .add (.t 74) (.c (.i .i64 1))⟩,⟨some 74,none,.mv (.t 88)⟩]))))))))))))) (.reg [⟨some 89,none,.bin .add (.t 43) (.c (.i .i64 1))⟩,⟨some 43,none,.mv (.t 89)⟩]))))))) (.seq (.reg [⟨some 90,none,.ld (some 2) (.t 6)⟩,⟨some 91,none,.mv (.t 7)⟩,⟨none,none,.st 2 (.t 2) (.t 90)⟩,⟨some 3,none,.mv (.t 91)⟩,⟨some 4,none,.mv (.c (.i .i64 0))⟩]) .ret)))))))
def orient_Outward.r:List Rr:=[.cell 2 (some 2),.tmp 3,.tmp 4]
abbrev orient_Outward.n:Nat:=92
def ref11_part.c:C :=(.seq (.reg [⟨some 2,none,.box (.t 0)⟩,⟨some 4,none,.alloc [.nil,.nil]⟩]) (.seq (.reg [⟨some 7,none,.fa 0 (.t 2)⟩,⟨some 8,none,.ld none (.t 7)⟩,⟨some 9,none,.build [.nil,.nil] [(0,1,(.t 8))]⟩,⟨some 5,none,.alloc [.nil,.nil]⟩,⟨none,none,.st 2 (.t 5) (.t 9)⟩]) (.seq (.seq (.reg [⟨some 6,none,.mv (.c (.i .i64 0))⟩]) (.blk 0 (.loop (.seq (.seq (.reg [⟨some 10,none,.mv (.t 6)⟩,⟨some 11,none,.mv (.t 1)⟩,⟨some 12,none,.len 0 (.t 11)⟩,⟨some 13,none,.bin .lss (.t 10) (.t 12)⟩]) (.ite (.t 13) .skip (.exit 0))) (.seq (.blk 1 (.drw [⟨some 16,none,.fa 1 (.t 5)⟩,⟨some 17,none,.ld none (.t 16)⟩,
 ⟨some 18,none,.fa 1 (.t 2)⟩,⟨some 19,none,.ld none (.t 18)⟩,⟨some 20,none,.mv (.t 1)⟩,⟨some 21,none,.mv (.t 6)⟩,⟨some 22,none,.ia 1 (.t 20) (.t 21)⟩,⟨some 23,none,.ld none (.t 22)⟩,⟨some 24,none,.ia 3 (.t 19) (.t 23)⟩,⟨some 25,none,.ld (some 3) (.t 24)⟩,⟨some 26,none,.bsi 3 1 [(.i .i64 0),(.i .i64 0),(.i .i64 0)] [(0,(.t 25))]⟩,⟨some 27,none,.app 3 24 (.t 17) (.t 26)⟩,⟨some 28,none,.fa 1 (.t 5)⟩,⟨none,none,.st 1 (.t 28) (.t 27)⟩] [])) (.reg [⟨some 14,none,.mv (.t 6)⟩,⟨some 15,none,.bin .add (.t 14) (.c (.i .i64 1))⟩,⟨some 6,none,.mv (.t 15)⟩])))))) (.seq (.reg [⟨some 29,none,.ld (some 2) (.t 5)⟩,
 ⟨none,none,.st 2 (.t 4) (.t 29)⟩]) .ret))))
def ref11_part.r:List Rr:=[.cell 4 (some 2)]
abbrev ref11_part.n:Nat:=30
def ref07_Volume6.c (ref07_Check ref04_Det:FuncId):C :=(.seq (.reg [⟨some 1,none,.box (.t 0)⟩,⟨some 2,none,.mv (.c (.i .i64 0))⟩]) (.seq (.seq (.reg [⟨some 6,none,.ld (some 2) (.t 1)⟩,⟨some 7,none,.call ref07_Check [.t 6]⟩,⟨some 8,none,.bin .neq (.t 7) (.c (.i .i64 0))⟩]) (.ite (.t 8) (.seq (.reg [⟨some 2,none,.mv (.c (.i .i64 0))⟩]) .ret) .skip)) (.seq (.reg [⟨some 3,none,.mv (.c (.i .i64 0))⟩]) (.seq (.seq (.reg [⟨some 9,none,.fa 1 (.t 1)⟩,⟨some 10,none,.ld none (.t 9)⟩,⟨some 11,none,.len 0 (.t 10)⟩,⟨some 12,none,.mv (.c (.i .i64 0))⟩]) (.blk 0 (.loop (.seq (.reg [⟨some 13,none,.bin .lss (.t 12) (.t 11)⟩])
 (.seq (.ite (.t 13) .skip (.exit 0)) (.seq (.blk 1 (.seq (.reg [⟨some 14,none,.ia 3 (.t 10) (.t 12)⟩,⟨some 15,none,.ld (some 3) (.t 14)⟩,⟨some 5,none,.alloc [(.i .i64 0),(.i .i64 0),(.i .i64 0)]⟩,⟨none,none,.st 3 (.t 5) (.t 15)⟩]) (.drw [⟨some 16,none,.mv (.t 3)⟩,⟨some 17,none,.fa 0 (.t 1)⟩,⟨some 18,none,.ld none (.t 17)⟩,⟨some 19,none,.fa 0 (.t 5)⟩,⟨some 20,none,.ld none (.t 19)⟩,⟨some 21,none,.ia 3 (.t 18) (.t 20)⟩,⟨some 22,none,.ld (some 3) (.t 21)⟩,⟨some 23,none,.fa 0 (.t 1)⟩,⟨some 24,none,.ld none (.t 23)⟩,⟨some 25,none,.fa 1 (.t 5)⟩,⟨some 26,none,.ld none (.t 25)⟩,⟨some 27,none,.ia 3 (.t 24) (.t 26)⟩,
 ⟨some 28,none,.ld (some 3) (.t 27)⟩,⟨some 29,none,.fa 0 (.t 1)⟩,⟨some 30,none,.ld none (.t 29)⟩,⟨some 31,none,.fa 2 (.t 5)⟩,⟨some 32,none,.ld none (.t 31)⟩,⟨some 33,none,.ia 3 (.t 30) (.t 32)⟩,⟨some 34,none,.ld (some 3) (.t 33)⟩,⟨some 35,none,.call ref04_Det [.t 22,.t 28,.t 34]⟩,⟨some 36,none,.bin .add (.t 16) (.t 35)⟩,⟨some 3,none,.mv (.t 36)⟩] []))) (.reg [⟨some 37,none,.bin .add (.t 12) (.c (.i .i64 1))⟩,⟨some 12,none,.mv (.t 37)⟩]))))))) (.seq (.reg [⟨some 38,none,.mv (.t 3)⟩,⟨some 2,none,.mv (.t 38)⟩]) .ret)))))
def ref07_Volume6.r:List Rr:=[.tmp 2]
abbrev ref07_Volume6.n:Nat:=39
end Go.Abs
set_option linter.unusedVariables false
set_option linter.unusedSimpArgs false
namespace Go.Abs
def SmallVC (P:Program) (f:FuncId):Prop:=∀ v:V3,CallIs P f [v.enc] (.b (v.within 131072))
def CrossVC (P:Program) (f:FuncId):Prop:=∀ b c:V3,b.valid = true→c.valid = true→CallIs P f [b.enc,c.enc] (crs b c).enc
def DotVC (P:Program) (f:FuncId):Prop:=∀ a b:V3,a.valid = true→b.within 8589934592 = true→CallIs P f [a.enc,b.enc] (.i .i64 (dot3 a b))
theorem valid_small {v:V3} (h:v.valid = true):v.within 131072 = true:=by
 have:=V3.valid_iff.1 h
 simp [V3.within];omega
theorem within_mono {v:V3} {a b:Int} (hab:a ≤ b) (h:v.within a = true):v.within b = true:=by
 simp [V3.within] at h ⊢;omega
theorem crs_within {b c:V3} (hb:b.valid = true) (hc:c.valid = true):(crs b c).within 8589934592 = true:=by
 have:=crs_b hb hc
 simp [V3.within];omega
section
variable {P:Program} (hm:P.follows .mixedOrders = true)
include hm
theorem vec_small_ok {f fw:FuncId} (hf:FnOk P f (vec_small.c fw) vec_small.r vec_small.n) (hw:WithinC P fw):SmallVC P f:=by
 intro v
 refine PureC.is (pure_of hm hf (Nat.le_of_ble_eq_true rfl) ?_) rfl
 unfold vec_small.c
 simp [go_sem,V3.enc,V3.cs]
 refine ACall_is ((hw v 131072 (by omega) (by omega)).is rfl) ?_
 simp [go_sem,vec_small.r]
set_option maxHeartbeats 4000000 in
theorem vec_Cross_ok {f fs:FuncId} (hf:FnOk P f (vec_Cross.c fs) vec_Cross.r vec_Cross.n) (hs:SmallVC P fs):CrossVC P f:=by
 intro b c hb hc
 refine PureC.is (pure_of hm hf (Nat.le_of_ble_eq_true rfl) ?_) rfl
 unfold vec_Cross.c
 have h1:=hs b
 have h2:=hs c
 rw [valid_small hb] at h1
 rw [valid_small hc] at h2
 obtain⟨b1,b2,b3,b4,b5,b6⟩:=V3.valid_iff.1 hb
 obtain⟨c1,c2,c3,c4,c5,c6⟩:=V3.valid_iff.1 hc
 have m1:=mul16 b3 b4 c5 c6
 have m2:=mul16 b5 b6 c3 c4
 have m3:=mul16 b5 b6 c1 c2
 have m4:=mul16 b1 b2 c5 c6
 have m5:=mul16 b1 b2 c3 c4
 have m6:=mul16 b3 b4 c1 c2
 have hcr:crs b c = ⟨b.y * c.z - b.z * c.y,b.z * c.x - b.x * c.z,b.x * c.y - b.y * c.x⟩:=rfl
 rw [hcr]
 simp [go_sem,V3.enc,V3.cs] at h1 h2 ⊢
 refine ACall_is h1 ?_
 simp [go_sem]
 refine ACall_is h2 ?_
 simp (disch:=omega) [go_sem,wrap64_small,vec_Cross.r]
set_option maxHeartbeats 4000000 in
theorem vec_Dot_ok {f fs fw:FuncId} (hf:FnOk P f (vec_Dot.c fs fw) vec_Dot.r vec_Dot.n) (hs:SmallVC P fs) (hw:WithinC P fw):DotVC P f:=by
 intro a b ha hb
 refine PureC.is (pure_of hm hf (Nat.le_of_ble_eq_true rfl) ?_) rfl
 unfold vec_Dot.c
 have h1:=hs a
 have h2:=(hw b 1099511627776 (by omega) (by omega)).is rfl
 rw [valid_small ha] at h1
 rw [within_mono (by omega) hb] at h2
 obtain⟨b1,b2,b3,b4,b5,b6⟩:=V3.valid_iff.1 ha
 simp only [V3.within,Bool.and_eq_true,decide_eq_true_eq] at hb
 obtain⟨⟨⟨⟨⟨c1,c2⟩,c3⟩,c4⟩,c5⟩,c6⟩:=hb
 have m1:=mulB b1 b2 c1 c2
 have m2:=mulB b3 b4 c3 c4
 have m3:=mulB b5 b6 c5 c6
 have hd:dot3 a b = a.x * b.x + a.y * b.y + a.z * b.z:=rfl
 rw [hd]
 simp [go_sem,V3.enc,V3.cs] at h1 h2 ⊢
 refine ACall_is h1 ?_
 simp [go_sem]
 refine ACall_is h2 ?_
 simp (disch:=omega) [go_sem,wrap64_small,vec_Dot.r]
theorem vec_Det_ok {f fs fc fd:FuncId} (hf:FnOk P f (vec_Det.c fs fc fd) vec_Det.r vec_Det.n) (hs:SmallVC P fs) (hc:CrossVC P fc) (hd:DotVC P fd):DetC P f:=by
 intro x y z hx hy hz
 refine PureC.is (pure_of hm hf (Nat.le_of_ble_eq_true rfl) ?_) rfl
 unfold vec_Det.c
 have h1:=hs y
 have h2:=hs z
 rw [valid_small hy] at h1
 rw [valid_small hz] at h2
 simp [go_sem,V3.enc,V3.cs] at h1 h2 ⊢
 refine ACall_is h1 ?_
 simp [go_sem]
 refine ACall_is h2 ?_
 simp [go_sem]
 refine DCall_is (hc y z hy hz) ?_
 simp [go_sem]
 refine DCall_is (hd x (crs y z) hx (crs_within hy hz)) ?_
 simp [go_sem,vec_Det.r,det3]
set_option maxHeartbeats 4000000 in
theorem mesh_Volume6_ok {f fc fd:FuncId} (hf:FnOk P f (mesh_Volume6.c fc fd) mesh_Volume6.r mesh_Volume6.n) (hc:CheckC P fc) (hd:DetC P fd):VolC P f:=by
 intro m
 refine PureC.is (pure_of hm hf (Nat.le_of_ble_eq_true rfl) ?_) rfl
 unfold mesh_Volume6.c
 have hv:m.vol6 = if m.check = 0 then volL m.verts m.tris else 0:=rfl
 by_cases hz:m.check = 0
 case neg =>
  rw [hv,if_neg hz]
  simp [go_sem,Mesh.enc,Mesh.cs]
  refine ACall_is (hc m) ?_
  simp [go_sem,hz,mesh_Volume6.r]
 rw [hv,if_pos hz]
 obtain⟨z1,z2,z3,z4⟩:=Mesh.check_zero.1 hz
 simp [go_sem,Mesh.enc,Mesh.cs]
 refine ACall_is (hc m) ?_
 simp [go_sem,hz,vsV,tsV]
 refine AS_loop (α:=Nat) (fun k=>k ≤ m.tris.length)
  (fun k=>⟨[(1,.p 0 1 0 0),(3,.i .i64 (volL m.verts (m.tris.take k))),(10,tsV m.tris),(11,.i .i64 m.tris.length),(12,.i .i64 k)],[.arr 1 2 [m.cs]]⟩)
  (fun k=>m.tris.length - k) 0 (Nat.zero_le _) ?_ ?_
 ·simp [go_sem,Mesh.cs,vsV,tsV,volL_nil]
 ·intro k hk
  by_cases hkl:k = m.tris.length
  ·subst hkl
   rw [List.take_length]
   simp [go_sem,Mesh.cs,vsV,tsV,mesh_Volume6.r]
  ·have hlt:k < m.tris.length:=by omega
   have hp:m.tris[k]? = some m.tris[k]:=List.getElem?_eq_getElem hlt
   generalize m.tris[k] = t at hp
   obtain⟨_,hp'⟩:=List.getElem?_eq_some_iff.1 hp
   have hok:=tsOk_get z4 hp
   obtain⟨a1,a2,b1,b2,c1,c2⟩:=T3.ok_iff.1 hok
   have ga:=vAt_get a1 a2
   have gb:=vAt_get b1 b2
   have gc:=vAt_get c1 c2
   have va:=vAt_valid z3 a1 a2
   have vb:=vAt_valid z3 b1 b2
   have vc:=vAt_valid z3 c1 c2
   have hb1:=volL_b z3 (ts:=m.tris.take k) (by
    simp only [tsOk,List.all_eq_true] at z4 ⊢
    exact fun x hx=>z4 x (List.mem_of_mem_take hx))
   have hb2:=volT_b z3 hok
   have hln:((m.tris.take k).length:Int) ≤ 4096:=by rw [List.length_take];omega
   have hs:volL m.verts (m.tris.take (k + 1)) = volL m.verts (m.tris.take k) + volT m.verts t:=by
    rw [List.take_add_one,hp,volL_app,Option.toList_some,volL_cons,volL_nil];omega
   have hvt:volT m.verts t = det3 (vAt m.verts t.a) (vAt m.verts t.b) (vAt m.verts t.c):=rfl
   have hdd:=hd _ _ _ va vb vc
   rw [← hvt] at hdd
   clear hvt
   generalize vAt m.verts t.a = A at *
   generalize vAt m.verts t.b = B at *
   generalize vAt m.verts t.c = C at *
   generalize volL m.verts (m.tris.take k) = S at *
   generalize volT m.verts t = T at *
   obtain⟨ia,ga'⟩:=List.getElem?_eq_some_iff.1 ga
   obtain⟨ib,gb'⟩:=List.getElem?_eq_some_iff.1 gb
   obtain⟨ic,gc'⟩:=List.getElem?_eq_some_iff.1 gc
   simp [go_sem,Mesh.cs,vsV,tsV,hlt,hp,hp',tcs,a1,b1,c1,ga,gb,gc,ia,ib,ic,ga',gb',gc',vcs]
   simp [go_sem,V3.enc,vcs] at hdd
   refine DCall_is hdd ?_
   simp (disch:=omega) [go_sem,wrap64_small]
   refine⟨k + 1,by omega,by omega,?_⟩
   exact⟨hs.symm,by omega⟩
end
end Go.Abs
set_option linter.unusedVariables false
set_option linter.unusedSimpArgs false
namespace Go.Abs
def RevTC (P:Program) (f:FuncId):Prop:=∀ t:T3,CallIs P f [t.enc] t.rev.enc
section
variable {P:Program} (hm:P.follows .mixedOrders = true)
include hm
theorem orient_reversed_ok {f:FuncId} (hf:FnOk P f orient_reversed.c orient_reversed.r orient_reversed.n):RevTC P f:=by
 intro t
 refine PureC.is (pure_of hm hf (Nat.le_of_ble_eq_true rfl) ?_) rfl
 unfold orient_reversed.c
 simp [go_sem,T3.enc,T3.cs,T3.rev,orient_reversed.r]
end
end Go.Abs
set_option linter.unusedVariables false
set_option linter.unusedSimpArgs false
namespace Go.Abs
theorem partOf_succ {ts:List T3} {sh:List Int} {j:Nat} {v:Int} (h:sh[j]? = some v):partOf ts (sh.take (j + 1)) = partOf ts (sh.take j) ++ [tAt ts v.toNat]:=by
 unfold partOf;rw [take_succ_get h,List.map_append];rfl
theorem partOf_len (ts:List T3) (sh:List Int):(partOf ts sh).length = sh.length:=by simp [partOf]
section
variable {P:Program} (hm:P.follows .mixedOrders = true)
include hm
set_option maxRecDepth 20000 in
set_option maxHeartbeats 8000000 in
theorem orient_Outward_ok {f fc fl fh fcv fct fs fv fr:FuncId} (hf:FnOk P f (orient_Outward.c fc fl fh fcv fct fs fv fr) orient_Outward.r orient_Outward.n) (hc:CheckC P fc) (hl:ClosedC P fl) (hh:CohC P fh) (hcv:CloneC P fcv 3) (hct:CloneC P fct 3) (hs:ShellsC P fs) (hv:VolC P fv) (hr:RevTC P fr):OutwardC P f:=by
 intro m
 by_cases hz:m.check = 0
 case neg =>
  have hR:outR m = (⟨[],[]⟩,0,m.check):=by unfold outR;rw [if_pos hz]
  rw [hR]
  refine CallIs.res ?_ (mieV_no _)
  refine PureC.is (pure_of hm hf (Nat.le_of_ble_eq_true rfl) ?_) rfl
  unfold orient_Outward.c
  simp [go_sem,Mesh.enc,Mesh.cs]
  refine ACall_is (hc m) ?_
  simp [go_sem,hz,orient_Outward.r]
 have hl1:=hl m
 by_cases hcl:m.closed = false
 case pos =>
  have hR:outR m = (⟨[],[]⟩,0,12):=by unfold outR;rw [if_neg (by simpa using hz),if_pos hcl]
  rw [hR]
  rw [hcl] at hl1
  refine CallIs.res ?_ (mieV_no _)
  refine PureC.is (pure_of hm hf (Nat.le_of_ble_eq_true rfl) ?_) rfl
  unfold orient_Outward.c
  simp [go_sem,Mesh.enc,Mesh.cs]
  refine ACall_is (hc m) ?_
  simp [go_sem,hz]
  refine ACall_is hl1 ?_
  simp [go_sem,orient_Outward.r]
 have hcl':m.closed = true:=by simpa using hcl
 obtain⟨z1,z2,z3,z4⟩:=Mesh.check_zero.1 hz
 have hh1:=hh m.tris (by omega)
 rw [hcl'] at hl1
 by_cases hco:cohB m.tris = false
 case pos =>
  have hR:outR m = (⟨[],[]⟩,0,13):=by unfold outR;rw [if_neg (by simpa using hz),if_neg hcl,if_pos hco]
  rw [hR]
  rw [hco] at hh1
  refine CallIs.res ?_ (mieV_no _)
  refine PureC.is (pure_of hm hf (Nat.le_of_ble_eq_true rfl) ?_) rfl
  unfold orient_Outward.c
  simp [go_sem,Mesh.enc,Mesh.cs]
  refine ACall_is (hc m) ?_
  simp [go_sem,hz]
  refine ACall_is hl1 ?_
  simp [go_sem]
  refine ACall_is hh1 ?_
  simp [go_sem,orient_Outward.r]
 have hco':cohB m.tris = true:=by simpa using hco
 rw [hco'] at hh1
 have hR:outR m = (⟨m.verts,flp m.tris (negsOf m.verts m.tris m.shells).flatten⟩,((negsOf m.verts m.tris m.shells).length:Int),0):=by unfold outR;rw [if_neg (by simpa using hz),if_neg hcl,if_neg hco];rfl
 rw [hR]
 have hok:=shells_ok hz
 have hs1:=hs m
 generalize m.shells = shs at *
 refine PureC.is (pure_of hm hf (Nat.le_of_ble_eq_true rfl) ?_) rfl
 unfold orient_Outward.c
 simp [go_sem,Mesh.enc,Mesh.cs,vsV,tsV]
 refine ACall_is (hc m) ?_
 simp [go_sem,hz]
 refine ACall_is hl1 ?_
 simp [go_sem]
 refine ACall_is hh1 ?_
 simp [go_sem]
 refine DCall_new (hcv (m.verts.map V3.cs) (by simp [vcs_isD]) (by simp;omega)) (by simp [V.cl,V.cl1,V.cl0]) ?_
 simp [go_sem]
 refine DCall_new (hct (m.tris.map T3.cs) (by simp [tcs_isD]) (by simp;omega)) (by simp [V.cl,V.cl1,V.cl0]) ?_
 have hsv:∀ (n:Nat) (a:V3),List.map (V.sh1 n) a.cs = a.cs:=fun n a=>by simp [vcs,V.sh1,V.sh0]
 have hst:∀ (n:Nat) (a:T3),List.map (V.sh1 n) a.cs = a.cs:=fun n a=>by simp [tcs,V.sh1,V.sh0]
 simp [go_sem,hsv,hst]
 refine ACall_is hs1 ?_
 simp [go_sem,lsV]
 refine AS_loop (α:=Nat) (fun k=>k ≤ shs.length)
  (fun k=>⟨[(1,.p 0 1 0 0),(2,.p 1 1 0 0),(6,.p 4 1 0 0),(7,.i .i64 (negsOf m.verts m.tris (shs.take k)).length),(41,lsV shs),(42,.i .i64 shs.length),(43,.i .i64 k)],
   [.arr 1 2 [m.cs],.arr 1 2 [[.nil,.nil]],.arr 1 3 (m.verts.map V3.cs),.arr 1 3 ((flp m.tris (negsOf m.verts m.tris (shs.take k)).flatten).map T3.cs),.arr 1 2 [[.own 2 1 0 m.verts.length,.own 3 1 0 m.tris.length]]]⟩)
  (fun k=>shs.length - k) 0 (Nat.zero_le _) ?_ ?_
 ·simp [go_sem,lsV,negsOf,flp_nil,Mesh.cs,vsV,tsV,v3_cl,t3c_cl,hsv,hst]
 ·intro k hk
  by_cases hkl:k = shs.length
  ·subst hkl
   rw [List.take_length]
   have hfl:=flp_len m.tris (negsOf m.verts m.tris shs).flatten
   generalize flp m.tris (negsOf m.verts m.tris shs).flatten = T at *
   have htk:List.take m.tris.length (T.map T3.cs) = T.map T3.cs:=List.take_of_length_le (by simp;omega)
   simp [go_sem,lsV,orient_Outward.r,mieV,Mesh.enc,Mesh.cs,vsV,tsV,vcs_isD,tcs_isD,htk,hfl]
  ·have hlt:k < shs.length:=by omega
   have hp:shs[k]? = some shs[k]:=List.getElem?_eq_getElem hlt
   have hmw:shs[k] ∈ shs:=List.getElem_mem _
   have htk:=take_succ_get hp
   generalize shs[k] = sh at hp hmw htk
   obtain⟨_,hp'⟩:=List.getElem?_eq_some_iff.1 hp
   have hshl:=hok.len sh hmw
   have hshm:=hok.mem sh hmw
   have hnl:=negsOf_len m.verts m.tris (shs.take k)
   have hnl2:(shs.take k).length = k:=by rw [List.length_take];omega
   have hnum:=hok.num
   have hsn:=negsOf_snoc m.verts m.tris (shs.take k) sh
   rw [← htk] at hsn
   generalize hN:negsOf m.verts m.tris (shs.take k) = N at *
   have hfl:=flp_len m.tris N.flatten
   simp [go_sem,lsV,hlt,hp,hp',Mesh.cs,vsV,tsV,isV]
   have hmcs:m.cs = [vsV m.verts,.l 3 (m.tris.map T3.cs)]:=rfl
   refine AS_loopG [.c 5 0 1 3] (α:=Nat) (fun j=>j ≤ sh.length)
    (fun j=>⟨[(1,.p 0 1 0 0),(2,.p 1 1 0 0),(6,.p 4 1 0 0),(7,.i .i64 N.length),(9,isV sh),(10,.p 5 1 0 0),(41,lsV shs),(42,.i .i64 shs.length),(43,.i .i64 k),(50,isV sh),(51,.i .i64 sh.length),(52,.i .i64 j)],
     [.arr 1 2 [m.cs],.arr 1 2 [[.nil,.nil]],.arr 1 3 (m.verts.map V3.cs),.arr 1 3 ((flp m.tris N.flatten).map T3.cs),.arr 1 2 [[.own 2 1 0 m.verts.length,.own 3 1 0 m.tris.length]],
      .arr 1 2 [[vsV m.verts,.own 6 (j + 1) 0 j]],.arr (j + 1) 3 ((partOf m.tris (sh.take j)).map T3.cs)]⟩)
    (fun j=>sh.length - j) 0 (Nat.zero_le _) ?_ ?_
   ·simp [go_sem,lsV,isV,partOf,Mesh.cs,vsV,tsV,v3_cl,t3c_cl]
   ·intro j hj
    by_cases hjl:j = sh.length
    ·subst hjl
     rw [List.take_length]
     have hpl:=partOf_len m.tris sh
     have hvol:=hv ⟨m.verts,partOf m.tris sh⟩
     have hve:(Mesh.mk m.verts (partOf m.tris sh)).vol6 = volL m.verts (partOf m.tris sh):=by unfold Mesh.vol6;rw [if_pos (part_check hz hshl hshm)]
     rw [hve] at hvol
     generalize partOf m.tris sh = PT at *
     have htkp:List.take sh.length (PT.map T3.cs) = PT.map T3.cs:=List.take_of_length_le (by simp;omega)
     simp [go_sem,lsV,isV]
     refine ACall_frz (vs:=[(Mesh.mk m.verts PT).enc]) ?_ hvol ?_
     ·simp [go_sem,frzAll,frz,frz0,Mesh.enc,Mesh.cs,vsV,tsV,tcs_isD,htkp,hpl]
     ·by_cases hneg:volL m.verts PT < 0
      ·rw [if_pos hneg] at hsn
       simp (disch:=omega) [go_sem,vsV,tsV,show ¬ (0 ≤ volL m.verts PT) by omega,wrap64_small]
       refine AS_loop (α:=Nat) (fun j=>j ≤ sh.length)
        (fun j=>⟨[(1,.p 0 1 0 0),(2,.p 1 1 0 0),(6,.p 4 1 0 0),(7,.i .i64 (N.length + 1:Nat)),(41,lsV shs),(42,.i .i64 shs.length),(43,.i .i64 k),(72,isV sh),(73,.i .i64 sh.length),(74,.i .i64 j)],
         [.arr 1 2 [m.cs],.arr 1 2 [[.nil,.nil]],.arr 1 3 (m.verts.map V3.cs),.arr 1 3 ((flp m.tris (N.flatten ++ sh.take j)).map T3.cs),.arr 1 2 [[.own 2 1 0 m.verts.length,.own 3 1 0 m.tris.length]]]⟩)
        (fun j=>sh.length - j) 0 (Nat.zero_le _) ?_ ?_
       ·simp [go_sem,lsV,isV,Mesh.cs,vsV,tsV,v3_cl,t3c_cl]
       ·intro j hj
        by_cases hjl:j = sh.length
        ·subst hjl
         rw [List.take_length]
         simp (disch:=omega) [go_sem,lsV,isV,wrap64_small]
         refine⟨k + 1,by omega,by omega,?_⟩
         rw [hsn]
         simp [go_sem,Mesh.cs,vsV,tsV,v3_cl,t3c_cl]
        ·have hjlt:j < sh.length:=by omega
         have hq:sh[j]? = some sh[j]:=List.getElem?_eq_getElem hjlt
         have hqm:sh[j] ∈ sh:=List.getElem_mem _
         have htj:=take_succ_get hq
         generalize sh[j] = v at hq hqm htj
         obtain⟨_,hq'⟩:=List.getElem?_eq_some_iff.1 hq
         obtain⟨v0,v1⟩:=hshm v hqm
         have v2:v.toNat < m.tris.length:=by omega
         have ht:=tAt_get v2
         have hset:=flp_set (ts:=m.tris) (F:=N.flatten ++ sh.take j) v2
         rw [Int.toNat_of_nonneg v0,List.append_assoc,← htj] at hset
         have hfl2:=flp_len m.tris (N.flatten ++ sh.take j)
         generalize tAt m.tris v.toNat = t at ht hset
         obtain⟨_,ht'⟩:=List.getElem?_eq_some_iff.1 ht
         generalize hF:flp m.tris (N.flatten ++ sh.take j) = FT at *
         have hFi:v.toNat < FT.length:=by omega
         have hFg:FT[v.toNat]? = some FT[v.toNat]:=List.getElem?_eq_getElem hFi
         generalize FT[v.toNat] = t2 at hFg
         obtain⟨_,hFg'⟩:=List.getElem?_eq_some_iff.1 hFg
         have hr1:=hr t
         simp [go_sem,T3.enc,tcs] at hr1
         simp (disch:=omega) [go_sem,lsV,isV,Mesh.cs,vsV,tsV,hjlt,hq,hq',v0,v1,v2,ht,ht',hFi,hFg,hFg',tcs,wrap64_small]
         refine DCall_is hr1 ?_
         simp (disch:=omega) [go_sem,lsV,isV,Mesh.cs,vsV,tsV,hjlt,hq,hq',v0,v1,v2,ht,ht',hFi,hFg,hFg',tcs,wrap64_small]
         refine⟨j + 1,by omega,by omega,?_⟩
         exact⟨by omega,by rw [← hset,List.map_set];rfl⟩
      ·rw [if_neg hneg,List.append_nil] at hsn
       simp (disch:=omega) [go_sem,vsV,tsV,show 0 ≤ volL m.verts PT by omega,wrap64_small]
       refine⟨k + 1,by omega,by omega,?_⟩
       rw [hsn]
       simp [go_sem,lsV,Mesh.cs,vsV,tsV,v3_cl,t3c_cl]
    ·have hjlt:j < sh.length:=by omega
     have hq:sh[j]? = some sh[j]:=List.getElem?_eq_getElem hjlt
     have hqm:sh[j] ∈ sh:=List.getElem_mem _
     have hpj:=fun v (h:sh[j]? = some v)=>partOf_succ (ts:=m.tris) h
     generalize sh[j] = v at hq hqm
     have hpj:=hpj v hq
     obtain⟨_,hq'⟩:=List.getElem?_eq_some_iff.1 hq
     obtain⟨v0,v1⟩:=hshm v hqm
     have v2:v.toNat < m.tris.length:=by omega
     have ht:=tAt_get v2
     have hpl:=partOf_len m.tris (sh.take j)
     rw [List.length_take,Nat.min_eq_left (by omega)] at hpl
     generalize tAt m.tris v.toNat = t at ht hpj
     obtain⟨_,ht'⟩:=List.getElem?_eq_some_iff.1 ht
     generalize hPT:partOf m.tris (sh.take j) = PT at *
     have htkp:List.take j (PT.map T3.cs) = PT.map T3.cs:=List.take_of_length_le (by simp;omega)
     simp (disch:=omega) [go_sem,lsV,isV,Mesh.cs,vsV,tsV,hjlt,hq,hq',v0,v1,v2,ht,ht',tcs,htkp,hpl,wrap64_small]
     refine⟨⟨by omega,by omega⟩,j + 1,by omega,by omega,?_⟩
     rw [hpj]
     exact⟨by omega,rfl,by rw [List.map_append];rfl⟩
end
end Go.Abs
set_option linter.unusedVariables false
set_option linter.unusedSimpArgs false
namespace Go.Abs
def PartC (P:Program) (f:FuncId):Prop:=∀ (m:Mesh) (sh:List Int),sh.length ≤ 4096→(∀ v ∈ sh,0 ≤ v∧v < m.tris.length)→CallIs P f [m.enc,isV sh] (Mesh.mk m.verts (partOf m.tris sh)).enc
section
variable {P:Program} (hm:P.follows .mixedOrders = true)
include hm
set_option maxHeartbeats 4000000 in
theorem ref11_part_ok {f:FuncId} (hf:FnOk P f ref11_part.c ref11_part.r ref11_part.n):PartC P f:=by
 intro m sh hshl hshm
 refine PureC.is (pure_of hm hf (Nat.le_of_ble_eq_true rfl) ?_) rfl
 unfold ref11_part.c
 simp [go_sem,Mesh.enc,Mesh.cs,vsV,tsV,isV]
 refine AS_loopG [.c 2 0 1 3] (α:=Nat) (fun j=>j ≤ sh.length)
  (fun j=>⟨[(1,isV sh),(2,.p 0 1 0 0),(4,.p 1 1 0 0),(5,.p 2 1 0 0),(6,.i .i64 j)],
   [.arr 1 2 [m.cs],.arr 1 2 [[.nil,.nil]],.arr 1 2 [[vsV m.verts,.own 3 (j + 1) 0 j]],.arr (j + 1) 3 ((partOf m.tris (sh.take j)).map T3.cs)]⟩)
  (fun j=>sh.length - j) 0 (Nat.zero_le _) ?_ ?_
 ·simp [go_sem,isV,partOf,Mesh.cs,vsV,tsV]
 ·intro j hj
  by_cases hjl:j = sh.length
  ·subst hjl
   rw [List.take_length]
   have hpl:=partOf_len m.tris sh
   generalize partOf m.tris sh = PT at *
   have htkp:List.take sh.length (PT.map T3.cs) = PT.map T3.cs:=List.take_of_length_le (by simp;omega)
   simp [go_sem,isV,ref11_part.r,Mesh.enc,Mesh.cs,vsV,tsV,tcs_isD,vcs_isD,htkp,hpl]
  ·have hjlt:j < sh.length:=by omega
   have hq:sh[j]? = some sh[j]:=List.getElem?_eq_getElem hjlt
   have hqm:sh[j] ∈ sh:=List.getElem_mem _
   have hpj:=fun v (h:sh[j]? = some v)=>partOf_succ (ts:=m.tris) h
   generalize sh[j] = v at hq hqm
   have hpj:=hpj v hq
   obtain⟨_,hq'⟩:=List.getElem?_eq_some_iff.1 hq
   obtain⟨v0,v1⟩:=hshm v hqm
   have v2:v.toNat < m.tris.length:=by omega
   have ht:=tAt_get v2
   have hpl:=partOf_len m.tris (sh.take j)
   rw [List.length_take,Nat.min_eq_left (by omega)] at hpl
   generalize tAt m.tris v.toNat = t at ht hpj
   obtain⟨_,ht'⟩:=List.getElem?_eq_some_iff.1 ht
   generalize hPT:partOf m.tris (sh.take j) = PT at *
   have htkp:List.take j (PT.map T3.cs) = PT.map T3.cs:=List.take_of_length_le (by simp;omega)
   simp (disch:=omega) [go_sem,isV,Mesh.cs,vsV,tsV,hjlt,hq,hq',v0,v1,v2,ht,ht',tcs,htkp,hpl,wrap64_small]
   refine⟨⟨by omega,by omega⟩,j + 1,by omega,by omega,?_⟩
   rw [hpj]
   exact⟨by omega,rfl,by rw [List.map_append];rfl⟩
end
end Go.Abs
