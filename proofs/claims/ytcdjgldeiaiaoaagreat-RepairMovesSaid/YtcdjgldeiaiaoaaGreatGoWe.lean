/- Part of the library on which the proof stands: an abstract machine, its values and its soundness against the model; or what functions of the program do to such values. -/
import Derived.Test.YtcdjgldeiaiaoaaGreatGoRevC
import Derived.Test.YtcdjgldeiaiaoaaGreatGoSecH
import Derived.Test.YtcdjgldeiaiaoaaGreatGoClone
import Derived.Test.YtcdjgldeiaiaoaaGreatGoLq
import Derived.Test.YtcdjgldeiaiaoaaGreatGoTal
set_option linter.unusedVariables false
set_option linter.unusedSimpArgs false
namespace Go.Abs
structure LtOrd {α:Type} (lt:α→α→Prop):Prop where
 irr:∀ a,¬ lt a a
 tr:∀ {a b c},lt a b→lt b c→lt a c
 tot:∀ {a b},¬ lt a b→¬ lt b a→a = b
section
variable {α:Type} {lt:α→α→Prop} (O:LtOrd lt)
include O
theorem LtOrd.asymm {a b:α} (h1:lt a b):¬ lt b a:=fun h2=>O.irr a (O.tr h1 h2)
theorem ascG_ext:∀ {l1 l2:List α},l1.Pairwise lt→l2.Pairwise lt→(∀ a,a ∈ l1 ↔ a ∈ l2)→l1 = l2
 | [],[],_,_,_=>rfl
 | [],y :: l2,_,_,h=>by have:=(h y).2 (by simp);simp at this
 | x :: l1,[],_,_,h=>by have:=(h x).1 (by simp);simp at this
 | x :: l1,y :: l2,h1,h2,h=>by
   have p1:=List.pairwise_cons.1 h1
   have p2:=List.pairwise_cons.1 h2
   have hxy:x = y:=by
    rcases List.mem_cons.1 ((h x).1 (by simp)) with h3 | h3
    ·exact h3
    ·rcases List.mem_cons.1 ((h y).2 (by simp)) with h4 | h4
     ·exact h4.symm
     ·exact absurd (p2.1 x h3) (O.asymm (p1.1 y h4))
   subst hxy
   rw [ascG_ext p1.2 p2.2 fun a=>?_]
   constructor
   ·intro ha
    rcases List.mem_cons.1 ((h a).1 (by simp [ha])) with h3 | h3
    ·subst h3;exact absurd (p1.1 a ha) (O.irr a)
    ·exact h3
   ·intro ha
    rcases List.mem_cons.1 ((h a).2 (by simp [ha])) with h3 | h3
    ·subst h3;exact absurd (p2.1 a ha) (O.irr a)
    ·exact h3
theorem ascG_nodup {l:List α} (h:l.Pairwise lt):l.Nodup:=h.imp fun h1 h2=>by subst h2;exact O.irr _ h1
theorem ascG_of_sorted {ys:List α} (hs:ys.Pairwise fun a b=>¬ lt b a) (hn:ys.Nodup):ys.Pairwise lt :=
 (List.Pairwise.and hs hn).imp fun h=>Classical.byContradiction fun h3=>h.2 (O.tot h3 h.1)
end
section
variable {α:Type} [DecidableEq α] {lt:α→α→Prop} [DecidableRel lt]
def insG (lt:α→α→Prop) [DecidableRel lt] (e:α):List α→List α
 | []=>[e]
 | x :: l=>if e = x then x :: l else if lt e x then e :: x :: l else x :: insG lt e l
def ascG (lt:α→α→Prop) [DecidableRel lt] (l:List α):List α:=l.foldr (insG lt) []
theorem mem_insG {e a:α}:∀ {l:List α},a ∈ insG lt e l ↔ a = e ∨ a ∈ l
 | []=>by simp [insG]
 | x :: l=>by
   simp only [insG]
   split
   ·rename_i h;subst h;simp
   ·split
    ·simp
    ·simp [mem_insG];constructor <;> (rintro (h | h | h) <;> simp [h])
theorem insG_asc (O:LtOrd lt) {e:α}:∀ {l:List α},l.Pairwise lt→(insG lt e l).Pairwise lt
 | [],_=>by simp [insG]
 | x :: l,h=>by
   have hc:=List.pairwise_cons.1 h
   simp only [insG]
   split
   ·exact h
   ·split
    ·rename_i h1 h2
     refine List.pairwise_cons.2 ⟨fun b hb=>?_,h⟩
     rcases List.mem_cons.1 hb with rfl | hb
     ·exact h2
     ·exact O.tr h2 (hc.1 b hb)
    ·rename_i h1 h2
     refine List.pairwise_cons.2 ⟨fun b hb=>?_,insG_asc O hc.2⟩
     rcases mem_insG.1 hb with rfl | hb
     ·exact Decidable.byContradiction fun h3=>h1 (O.tot h2 h3)
     ·exact hc.1 b hb
theorem ascG_asc (O:LtOrd lt) (l:List α):(ascG lt l).Pairwise lt:=by
 induction l with
 | nil=>simp [ascG]
 | cons x l ih=>exact insG_asc O ih
theorem mem_ascG {l:List α} {a:α}:a ∈ ascG lt l ↔ a ∈ l:=by
 induction l with
 | nil=>simp [ascG]
 | cons x l ih=>simp only [ascG,List.foldr_cons,mem_insG,List.mem_cons];rw [← ih];rfl
theorem ascG_of_perm (O:LtOrd lt) {ys xs:List α} (hp:ys.Perm xs) (hn:xs.Nodup) (hs:ys.Pairwise fun a b=>¬ lt b a):ys = ascG lt xs:=by
 refine ascG_ext O (ascG_of_sorted O hs (hp.symm.nodup hn)) (ascG_asc O xs) fun a=>by rw [hp.mem_iff,mem_ascG]
end
def V3.lt (a b:V3):Prop:=a.x < b.x ∨ (a.x = b.x∧(a.y < b.y ∨ (a.y = b.y∧a.z < b.z)))
instance:DecidableRel V3.lt:=fun a b=>by unfold V3.lt;infer_instance
theorem V3.ltO:LtOrd V3.lt where
 irr a:=by unfold V3.lt;omega
 tr h1 h2:=by unfold V3.lt at *;omega
 tot {a b} h h':=by
  unfold V3.lt at *
  have h1:a.x = b.x:=by omega
  have h2:a.y = b.y:=by omega
  have h3:a.z = b.z:=by omega
  cases a;cases b;simp_all
end Go.Abs
set_option linter.unusedVariables false
set_option linter.unusedSimpArgs false
namespace Go.Abs
theorem nodup_lenW {α:Type} [DecidableEq α]:∀ {l k:List α},l.Nodup→(∀ a ∈ l,a ∈ k)→l.length ≤ k.length
 | [],k,_,_=>by simp
 | x :: l,k,hn,hs=>by
   have hc:=List.nodup_cons.1 hn
   have hx:=hs x (by simp)
   have:=nodup_lenW (l:=l) (k:=k.erase x) hc.2 (fun a ha=>by
    have hne:a ≠ x:=by rintro rfl;exact hc.1 ha
    exact (List.mem_erase_of_ne hne).2 (hs a (by simp [ha])))
   rw [List.length_erase_of_mem hx] at this
   have:=List.length_pos_of_mem hx
   simp only [List.length_cons];omega
def Mesh.cor (m:Mesh) (t:T3):List V3:=[m.v t.a,m.v t.b,m.v t.c]
def Mesh.usedL (m:Mesh) (ts:List T3):List V3:=ts.flatMap m.cor
def Mesh.wverts (m:Mesh):List V3:=ascG V3.lt (m.usedL m.tris)
def idxV (l:List V3) (v:V3):Int:=(l.idxOf v:Nat)
def wtri (m:Mesh) (W:List V3) (t:T3):T3:=⟨idxV W (m.v t.a),idxV W (m.v t.b),idxV W (m.v t.c)⟩
def Mesh.weldM (m:Mesh):Mesh:=⟨m.wverts,m.tris.map (wtri m m.wverts)⟩
theorem wverts_asc (m:Mesh):m.wverts.Pairwise V3.lt:=ascG_asc V3.ltO _
theorem mem_wverts {m:Mesh} {v:V3}:v ∈ m.wverts ↔ ∃ t ∈ m.tris,v ∈ m.cor t:=by
 unfold Mesh.wverts Mesh.usedL
 rw [mem_ascG,List.mem_flatMap]
theorem Mesh.v_mem {m:Mesh} {i:Int} (h0:0 ≤ i) (hi:i < m.verts.length):m.v i ∈ m.verts:=by
 have hlt:i.toNat < m.verts.length:=by omega
 have:m.verts[i.toNat]? = some (m.v i):=by rw [List.getElem?_eq_getElem hlt,m.v_get hi hlt]
 exact List.mem_of_getElem? this
theorem idxV_get {l:List V3} {v:V3} (h:v ∈ l):l[(idxV l v).toNat]? = some v:=by
 have hlt:=List.idxOf_lt_length_iff.2 h
 unfold idxV
 rw [Int.toNat_natCast,List.getElem?_eq_getElem hlt,List.getElem_idxOf hlt]
theorem idxV_range {l:List V3} {v:V3} (h:v ∈ l):0 ≤ idxV l v∧idxV l v < l.length:=by
 have hlt:=List.idxOf_lt_length_iff.2 h
 unfold idxV;omega
theorem idxV_of_get {l:List V3} (hn:l.Nodup) {i:Nat} {v:V3} (h:l[i]? = some v):idxV l v = i:=by
 obtain⟨hlt,rfl⟩:=List.getElem?_eq_some_iff.1 h
 unfold idxV
 rw [hn.idxOf_getElem]
theorem tok {m:Mesh} (h:m.check = 0) {t:T3} (ht:t ∈ m.tris):0 ≤ t.a∧t.a < m.verts.length∧0 ≤ t.b∧t.b < m.verts.length∧0 ≤ t.c∧t.c < m.verts.length :=
 T3.ok_iff.1 (List.all_eq_true.1 (Mesh.check_zero.1 h).2.2.2 t ht)
theorem wverts_len {m:Mesh} (h:m.check = 0):m.wverts.length ≤ m.verts.length:=by
 refine nodup_lenW (ascG_nodup V3.ltO (wverts_asc m)) fun a ha=>?_
 obtain⟨t,ht,hv⟩:=mem_wverts.1 ha
 obtain⟨h1,h2,h3,h4,h5,h6⟩:=tok h ht
 simp only [Mesh.cor,List.mem_cons,List.not_mem_nil,or_false] at hv
 rcases hv with rfl | rfl | rfl
 ·exact Mesh.v_mem h1 h2
 ·exact Mesh.v_mem h3 h4
 ·exact Mesh.v_mem h5 h6
theorem weld_v {m:Mesh} {v:V3} (h:v ∈ m.wverts):m.weldM.v (idxV m.wverts v) = v:=by
 show (m.wverts[(idxV m.wverts v).toNat]?).getD _ = v
 rw [idxV_get h];rfl
theorem cor_mem {m:Mesh} {t:T3} (ht:t ∈ m.tris):m.v t.a ∈ m.wverts∧m.v t.b ∈ m.wverts∧m.v t.c ∈ m.wverts:=by
 refine⟨mem_wverts.2 ⟨t,ht,?_⟩,mem_wverts.2 ⟨t,ht,?_⟩,mem_wverts.2 ⟨t,ht,?_⟩⟩ <;> simp [Mesh.cor]
theorem weld_cor {m:Mesh} {t:T3} (ht:t ∈ m.tris):m.weldM.cor (wtri m m.wverts t) = m.cor t:=by
 obtain⟨h1,h2,h3⟩:=cor_mem ht
 simp only [Mesh.cor,wtri,weld_v h1,weld_v h2,weld_v h3]
theorem weld_weld {m:Mesh} (h:m.check = 0):m.weldM.weldM = m.weldM:=by
 have hv:m.weldM.wverts = m.wverts:=by
  refine ascG_ext V3.ltO (wverts_asc _) (wverts_asc _) fun v=>?_
  rw [mem_wverts,mem_wverts]
  constructor
  ·rintro⟨t,ht,hv⟩
   obtain⟨s,hs,rfl⟩:=List.mem_map.1 (show t ∈ m.tris.map _ from ht)
   rw [weld_cor hs] at hv
   exact⟨s,hs,hv⟩
  ·rintro⟨s,hs,hv⟩
   exact⟨wtri m m.wverts s,List.mem_map.2 ⟨s,hs,rfl⟩,by rw [weld_cor hs];exact hv⟩
 have ht:m.weldM.tris.map (wtri m.weldM m.wverts) = m.weldM.tris:=by
  show (m.tris.map (wtri m m.wverts)).map _ = m.tris.map _
  rw [List.map_map]
  refine List.map_congr_left fun t ht=>?_
  obtain⟨h1,h2,h3⟩:=cor_mem ht
  simp only [Function.comp,wtri,weld_v h1,weld_v h2,weld_v h3]
 show Mesh.mk m.weldM.wverts (m.weldM.tris.map (wtri m.weldM m.weldM.wverts)) = _
 rw [hv,ht];rfl
def T3.lt (s t:T3):Prop:=s.a < t.a ∨ (s.a = t.a∧(s.b < t.b ∨ (s.b = t.b∧s.c < t.c)))
instance:DecidableRel T3.lt:=fun a b=>by unfold T3.lt;infer_instance
theorem T3.ltO:LtOrd T3.lt where
 irr a:=by unfold T3.lt;omega
 tr h1 h2:=by unfold T3.lt at *;omega
 tot {a b} h h':=by
  unfold T3.lt at *
  have h1:a.a = b.a:=by omega
  have h2:a.b = b.b:=by omega
  have h3:a.c = b.c:=by omega
  cases a;cases b;simp_all
def T3.rot (t:T3):T3:=⟨t.b,t.c,t.a⟩
def T3.least (x t:T3):T3:=if T3.lt t x then t else x
def T3.turned (t:T3):T3:=T3.least (T3.least t t.rot) t.rot.rot
def T3.twins (a b:T3):Bool:=decide (a = b) || (decide (a = b.rot) || decide (a = b.rot.rot))
theorem T3.rot3 (t:T3):t.rot.rot.rot = t:=rfl
theorem least_mem (x t:T3):T3.least x t = x ∨ T3.least x t = t:=by unfold T3.least;split <;> simp
theorem least_le (x t:T3):¬ T3.lt x (T3.least x t)∧¬ T3.lt t (T3.least x t):=by
 unfold T3.least
 split
 ·rename_i h;exact⟨T3.ltO.asymm h,T3.ltO.irr _⟩
 ·rename_i h;exact⟨T3.ltO.irr _,h⟩
theorem turned_mem (t:T3):t.turned = t ∨ t.turned = t.rot ∨ t.turned = t.rot.rot:=by
 unfold T3.turned
 rcases least_mem (T3.least t t.rot) t.rot.rot with h | h <;> rw [h]
 ·rcases least_mem t t.rot with h | h <;> rw [h] <;> simp
 ·simp
theorem not_lt_trans {a b c:T3} (h1:¬ T3.lt a b) (h2:¬ T3.lt b c):¬ T3.lt a c:=by unfold T3.lt at *;omega
theorem turned_le (t:T3):¬ T3.lt t t.turned∧¬ T3.lt t.rot t.turned∧¬ T3.lt t.rot.rot t.turned:=by
 unfold T3.turned
 have h1:=least_le t t.rot
 have h2:=least_le (T3.least t t.rot) t.rot.rot
 exact⟨not_lt_trans h1.1 h2.1,not_lt_trans h1.2 h2.1,h2.2⟩
theorem turned_rot (t:T3):t.rot.turned = t.turned:=by
 have h1:=turned_le t
 have h2:=turned_le t.rot
 rw [T3.rot3] at h2
 refine T3.ltO.tot ?_ ?_
 ·rcases turned_mem t.rot with h | h | h
  ·rw [h];exact h1.2.1
  ·rw [h];exact h1.2.2
  ·rw [h,T3.rot3];exact h1.1
 ·rcases turned_mem t with h | h | h
  ·rw [h];exact h2.2.2
  ·rw [h];exact h2.1
  ·rw [h];exact h2.2.1
theorem turned_iff {a b:T3}:a.turned = b.turned ↔ a.twins b = true:=by
 simp only [T3.twins,Bool.or_eq_true,decide_eq_true_eq]
 constructor
 ·intro h
  have key:∀ t:T3,t = t.turned ∨ t = t.turned.rot ∨ t = t.turned.rot.rot:=by
   intro t
   rcases turned_mem t with h | h | h
   ·left;exact h.symm
   ·right;right;rw [h];rfl
   ·right;left;rw [h];rfl
  have ka:=key a
  rcases turned_mem b with hb | hb | hb <;> rw [h,hb] at ka <;> try simp only [T3.rot3] at ka
  ·exact ka
  ·rcases ka with k | k | k
   ·exact .inr (.inl k)
   ·exact .inr (.inr k)
   ·exact .inl k
  ·rcases ka with k | k | k
   ·exact .inr (.inr k)
   ·exact .inl k
   ·exact .inr (.inl k)
 ·rintro (rfl | rfl | rfl)
  ·rfl
  ·exact turned_rot b
  ·rw [turned_rot,turned_rot]
def V3.sub (a b:V3):V3:=⟨a.x - b.x,a.y - b.y,a.z - b.z⟩
def V3.crs (a b:V3):V3:=⟨a.y * b.z - a.z * b.y,a.z * b.x - a.x * b.z,a.x * b.y - a.y * b.x⟩
def collin (a b c:V3):Bool:=a.valid && (b.valid && (c.valid && decide ((b.sub a).crs (c.sub a) = ⟨0,0,0⟩)))
def Mesh.deg (m:Mesh) (t:T3):Bool:=collin (m.v t.a) (m.v t.b) (m.v t.c)
structure Cl where
 out:List T3
 deg:Nat
 twin:Nat
def Cl.step (dg:T3→Bool) (s:Cl) (t:T3):Cl:=if dg t then ⟨s.out,s.deg + 1,s.twin⟩ else if s.out.any (T3.twins t) then ⟨s.out,s.deg,s.twin + 1⟩ else ⟨s.out ++ [t],s.deg,s.twin⟩
def cleanL (dg:T3→Bool) (ts:List T3):Cl:=ts.foldl (Cl.step dg) ⟨[],0,0⟩
theorem cleanL_snoc (dg:T3→Bool) (ts:List T3) (t:T3):cleanL dg (ts ++ [t]) = (cleanL dg ts).step dg t:=by simp [cleanL]
theorem cleanL_succ (dg:T3→Bool) {ts:List T3} {k:Nat} {t:T3} (h:ts[k]? = some t):cleanL dg (ts.take (k + 1)) = (cleanL dg (ts.take k)).step dg t:=by
 rw [List.take_add_one,h];exact cleanL_snoc dg _ t
def Mesh.cleanM (m:Mesh):Mesh:=⟨m.verts,(cleanL m.deg m.tris).out⟩
structure ClOk (dg:T3→Bool) (ts:List T3) (s:Cl):Prop where
 sub:s.out.Sublist ts
 sum:s.out.length + s.deg + s.twin = ts.length
 deg:∀ t ∈ s.out,dg t = false
 twin:s.out.Pairwise fun a b=>b.twins a = false
theorem cleanL_ok (dg:T3→Bool) (ts:List T3):ClOk dg ts (cleanL dg ts):=by
 refine rev_ind (p:=fun ts=>ClOk dg ts (cleanL dg ts)) ?_ ?_ ts
 ·exact⟨.slnil,rfl,by simp [cleanL],by simp [cleanL]⟩
 ·intro E x ih
  rw [cleanL_snoc]
  unfold Cl.step
  have hs:=ih.sum
  split
  ·exact⟨ih.sub.trans (List.sublist_append_left _ _),by simp;omega,ih.deg,ih.twin⟩
  ·rename_i hd
   split
   ·exact⟨ih.sub.trans (List.sublist_append_left _ _),by simp;omega,ih.deg,ih.twin⟩
   ·rename_i ht
    refine⟨ih.sub.append (List.Sublist.refl _),by simp;omega,fun t h=>?_,?_⟩
    ·rcases List.mem_append.1 h with h | h
     ·exact ih.deg t h
     ·simp at h;subst h;simpa using hd
    ·simp only
     rw [List.pairwise_append]
     refine⟨ih.twin,by simp,fun a ha b hb=>?_⟩
     simp at hb;subst hb
     rw [Bool.eq_false_iff]
     intro h
     exact ht (List.any_eq_true.2 ⟨a,ha,h⟩)
end Go.Abs
set_option linter.unusedVariables false
set_option linter.unusedSimpArgs false
namespace Go.Abs
def weld_Weld.c (mesh_Check weld_used:FuncId):C :=(.seq (.reg [⟨some 1,none,.box (.t 0)⟩,⟨some 2,none,.alloc [.nil,.nil]⟩,⟨some 3,none,.mv (.c (.i .i64 0))⟩,⟨some 4,none,.mv (.c (.i .i64 0))⟩]) (.seq (.seq (.reg [⟨some 12,none,.ld (some 2) (.t 1)⟩,⟨some 13,none,.call mesh_Check [.t 12]⟩,⟨some 5,none,.mv (.t 13)⟩]) (.seq (.reg [⟨some 14,none,.mv (.t 5)⟩,⟨some 15,none,.bin .neq (.t 14) (.c (.i .i64 0))⟩]) (.ite (.t 15) (.seq (.reg [⟨some 16,none,.build [.nil,.nil] []⟩,⟨some 17,none,.mv (.t 5)⟩,⟨none,none,.st 2 (.t 2) (.t 16)⟩,⟨some 3,none,.mv (.c (.i .i64 0))⟩,⟨some 4,none,.mv (.t 17)⟩]) .ret) .skip)))
 (.seq (.reg [⟨some 18,none,.ld (some 2) (.t 1)⟩,⟨some 19,none,.call weld_used [.t 18]⟩,⟨some 20,none,.build [.nil,.nil] [(0,1,(.t 19))]⟩,⟨some 6,none,.alloc [.nil,.nil]⟩,⟨none,none,.st 2 (.t 6) (.t 20)⟩]) (.seq (.reg [⟨some 21,none,.fa 0 (.t 6)⟩,⟨some 22,none,.ld none (.t 21)⟩,⟨some 23,none,.len 0 (.t 22)⟩,⟨some 24,none,.mkm (some (.t 23))⟩,⟨some 7,none,.mv (.t 24)⟩]) (.seq (.seq (.reg [⟨some 25,none,.fa 0 (.t 6)⟩,⟨some 26,none,.ld none (.t 25)⟩,⟨some 27,none,.len 0 (.t 26)⟩,⟨some 28,none,.mv (.c (.i .i64 0))⟩]) (.blk 0 (.loop (.seq (.reg [⟨some 29,none,.bin .lss (.t 28) (.t 27)⟩]) (.seq (.ite (.t 29)
 .skip (.exit 0)) (.seq (.blk 1 (.seq (.reg [⟨some 30,none,.mv (.t 28)⟩,⟨some 31,none,.ia 3 (.t 26) (.t 28)⟩,⟨some 32,none,.ld (some 3) (.t 31)⟩,⟨some 9,none,.alloc [(.i .i64 0),(.i .i64 0),(.i .i64 0)]⟩,⟨some 8,none,.mv (.t 30)⟩,⟨none,none,.st 3 (.t 9) (.t 32)⟩]) (.reg [⟨some 33,none,.mv (.t 7)⟩,⟨some 34,none,.ld (some 3) (.t 9)⟩,⟨some 35,none,.mv (.t 8)⟩,⟨none,none,.mup [1,1,1] (.t 33) (.t 34) (.t 35)⟩]))) (.reg [⟨some 36,none,.bin .add (.t 28) (.c (.i .i64 1))⟩,⟨some 28,none,.mv (.t 36)⟩]))))))) (.seq (.seq (.reg [⟨some 37,none,.fa 1 (.t 1)⟩,⟨some 38,none,.ld none (.t 37)⟩,⟨some 39,none,.len 0 (.t 38)⟩,
 ⟨some 40,none,.mv (.c (.i .i64 0))⟩]) (.blk 2 (.loop (.seq (.reg [⟨some 41,none,.bin .lss (.t 40) (.t 39)⟩]) (.seq (.ite (.t 41) .skip (.exit 2)) (.seq (.blk 3 (.seq (.reg [⟨some 42,none,.ia 3 (.t 38) (.t 40)⟩,⟨some 43,none,.ld (some 3) (.t 42)⟩,⟨some 11,none,.alloc [(.i .i64 0),(.i .i64 0),(.i .i64 0)]⟩,⟨none,none,.st 3 (.t 11) (.t 43)⟩]) (.drw [⟨some 44,none,.fa 1 (.t 6)⟩,⟨some 45,none,.ld none (.t 44)⟩,⟨some 46,none,.mv (.t 7)⟩,⟨some 47,none,.fa 0 (.t 1)⟩,⟨some 48,none,.ld none (.t 47)⟩,⟨some 49,none,.fa 0 (.t 11)⟩,⟨some 50,none,.ld none (.t 49)⟩,⟨some 51,none,.ia 3 (.t 48) (.t 50)⟩,⟨some 52,none,.ld (some 3) (.t 51)⟩,
 ⟨some 53,none,.lk [1,1,1] (.i .i64 0) false (.t 46) (.t 52)⟩,⟨some 54,none,.mv (.t 7)⟩,⟨some 55,none,.fa 0 (.t 1)⟩,⟨some 56,none,.ld none (.t 55)⟩,⟨some 57,none,.fa 1 (.t 11)⟩,⟨some 58,none,.ld none (.t 57)⟩,⟨some 59,none,.ia 3 (.t 56) (.t 58)⟩,⟨some 60,none,.ld (some 3) (.t 59)⟩,⟨some 61,none,.lk [1,1,1] (.i .i64 0) false (.t 54) (.t 60)⟩,⟨some 62,none,.mv (.t 7)⟩,⟨some 63,none,.fa 0 (.t 1)⟩,⟨some 64,none,.ld none (.t 63)⟩,⟨some 65,none,.fa 2 (.t 11)⟩,⟨some 66,none,.ld none (.t 65)⟩,⟨some 67,none,.ia 3 (.t 64) (.t 66)⟩,⟨some 68,none,.ld (some 3) (.t 67)⟩,⟨some 69,none,.lk [1,1,1] (.i .i64 0) false (.t 62) (.t 68)⟩,
 ⟨some 70,none,.build [(.i .i64 0),(.i .i64 0),(.i .i64 0)] [(0,1,(.t 53)),(1,1,(.t 61)),(2,1,(.t 69))]⟩,⟨some 71,none,.bsi 3 1 [(.i .i64 0),(.i .i64 0),(.i .i64 0)] [(0,(.t 70))]⟩,⟨some 72,none,.app 3 24 (.t 45) (.t 71)⟩,⟨some 73,none,.fa 1 (.t 6)⟩,⟨none,none,.st 1 (.t 73) (.t 72)⟩] []))) (.reg [⟨some 74,none,.bin .add (.t 40) (.c (.i .i64 1))⟩,⟨some 40,none,.mv (.t 74)⟩]))))))) (.seq (.drw [⟨some 75,none,.ld (some 2) (.t 6)⟩,⟨some 76,none,.fa 0 (.t 1)⟩,⟨some 77,none,.ld none (.t 76)⟩,⟨some 78,none,.len 0 (.t 77)⟩,⟨some 79,none,.fa 0 (.t 6)⟩,⟨some 80,none,.ld none (.t 79)⟩,⟨some 81,none,.len 0 (.t 80)⟩,
 ⟨some 82,none,.bin .sub (.t 78) (.t 81)⟩,⟨none,none,.st 2 (.t 2) (.t 75)⟩,⟨some 3,none,.mv (.t 82)⟩,⟨some 4,none,.mv (.c (.i .i64 0))⟩] [[],[],[],[],[],[],[],[],[1,2,3,4,5,6],[],[]]) .ret)))))))
def weld_Weld.r:List Rr:=[.cell 2 (some 2),.tmp 3,.tmp 4]
abbrev weld_Weld.n:Nat:=83
def weld_Clean.c (mesh_Check slices_Clone_api_Vec_api_Vec weld_turned vec_Collinear:FuncId):C :=(.seq (.reg [⟨some 1,none,.box (.t 0)⟩,⟨some 2,none,.alloc [.nil,.nil]⟩,⟨some 3,none,.mv (.c (.i .i64 0))⟩,⟨some 4,none,.mv (.c (.i .i64 0))⟩,⟨some 5,none,.mv (.c (.i .i64 0))⟩]) (.seq (.seq (.reg [⟨some 14,none,.ld (some 2) (.t 1)⟩,⟨some 15,none,.call mesh_Check [.t 14]⟩,⟨some 6,none,.mv (.t 15)⟩]) (.seq (.reg [⟨some 16,none,.mv (.t 6)⟩,⟨some 17,none,.bin .neq (.t 16) (.c (.i .i64 0))⟩]) (.ite (.t 17) (.seq (.reg [⟨some 18,none,.build [.nil,.nil] []⟩,⟨some 19,none,.mv (.t 6)⟩,⟨none,none,.st 2 (.t 2) (.t 18)⟩,
 ⟨some 3,none,.mv (.c (.i .i64 0))⟩,⟨some 4,none,.mv (.c (.i .i64 0))⟩,⟨some 5,none,.mv (.t 19)⟩]) .ret) .skip))) (.seq (.reg [⟨some 20,none,.fa 0 (.t 1)⟩,⟨some 21,none,.ld none (.t 20)⟩,⟨some 22,none,.call slices_Clone_api_Vec_api_Vec [.t 21]⟩,⟨some 23,none,.build [.nil,.nil] [(0,1,(.t 22))]⟩,⟨some 7,none,.alloc [.nil,.nil]⟩,⟨none,none,.st 2 (.t 7) (.t 23)⟩]) (.seq (.reg [⟨some 24,none,.mkm none⟩,⟨some 8,none,.mv (.t 24)⟩]) (.seq (.reg [⟨some 9,none,.mv (.c (.i .i64 0))⟩,⟨some 10,none,.mv (.c (.i .i64 0))⟩]) (.seq (.seq (.reg [⟨some 25,none,.fa 1 (.t 1)⟩,⟨some 26,none,.ld none (.t 25)⟩,⟨some 27,none,.len 0 (.t 26)⟩,
 ⟨some 28,none,.mv (.c (.i .i64 0))⟩]) (.blk 0 (.loop (.seq (.reg [⟨some 29,none,.bin .lss (.t 28) (.t 27)⟩]) (.seq (.ite (.t 29) .skip (.exit 0)) (.seq (.blk 1 (.seq (.reg [⟨some 30,none,.ia 3 (.t 26) (.t 28)⟩,⟨some 31,none,.ld (some 3) (.t 30)⟩,⟨some 12,none,.alloc [(.i .i64 0),(.i .i64 0),(.i .i64 0)]⟩,⟨none,none,.st 3 (.t 12) (.t 31)⟩]) (.seq (.reg [⟨some 32,none,.ld (some 3) (.t 12)⟩,⟨some 33,none,.call weld_turned [.t 32]⟩,⟨some 13,none,.alloc [(.i .i64 0),(.i .i64 0),(.i .i64 0)]⟩,⟨none,none,.st 3 (.t 13) (.t 33)⟩]) (.blk 2 (.seq (.drw [⟨some 43,none,.fa 0 (.t 1)⟩,⟨some 44,none,.ld none (.t 43)⟩,
 ⟨some 45,none,.fa 0 (.t 12)⟩,⟨some 46,none,.ld none (.t 45)⟩,⟨some 47,none,.ia 3 (.t 44) (.t 46)⟩,⟨some 48,none,.ld (some 3) (.t 47)⟩,⟨some 49,none,.fa 0 (.t 1)⟩,⟨some 50,none,.ld none (.t 49)⟩,⟨some 51,none,.fa 1 (.t 12)⟩,⟨some 52,none,.ld none (.t 51)⟩,⟨some 53,none,.ia 3 (.t 50) (.t 52)⟩,⟨some 54,none,.ld (some 3) (.t 53)⟩,⟨some 55,none,.fa 0 (.t 1)⟩,⟨some 56,none,.ld none (.t 55)⟩,⟨some 57,none,.fa 2 (.t 12)⟩,⟨some 58,none,.ld none (.t 57)⟩,⟨some 59,none,.ia 3 (.t 56) (.t 58)⟩,⟨some 60,none,.ld (some 3) (.t 59)⟩,⟨some 61,none,.call vec_Collinear [.t 48,.t 54,.t 60]⟩,⟨some 42,none,.mv (.t 61)⟩] [])
 (.ite (.t 42) (.reg [⟨some 62,none,.mv (.t 9)⟩,⟨some 63,none,.bin .add (.t 62) (.c (.i .i64 1))⟩,⟨some 9,none,.mv (.t 63)⟩]) (.seq (.reg [⟨some 65,none,.mv (.t 8)⟩,⟨some 66,none,.ld (some 3) (.t 13)⟩,⟨some 67,none,.lk [1,1,1] (.b false) false (.t 65) (.t 66)⟩,⟨some 64,none,.mv (.t 67)⟩]) (.ite (.t 64) (.reg [⟨some 68,none,.mv (.t 10)⟩,⟨some 69,none,.bin .add (.t 68) (.c (.i .i64 1))⟩,⟨some 10,none,.mv (.t 69)⟩]) (.seq (.reg [⟨some 34,none,.mv (.t 8)⟩,⟨some 35,none,.ld (some 3) (.t 13)⟩,⟨none,none,.mup [1,1,1] (.t 34) (.t 35) (.c (.b true))⟩]) (.reg [⟨some 36,none,.fa 1 (.t 7)⟩,⟨some 37,none,.ld none (.t 36)⟩,
 ⟨some 38,none,.ld (some 3) (.t 12)⟩,⟨some 39,none,.bsi 3 1 [(.i .i64 0),(.i .i64 0),(.i .i64 0)] [(0,(.t 38))]⟩,⟨some 40,none,.app 3 24 (.t 37) (.t 39)⟩,⟨some 41,none,.fa 1 (.t 7)⟩,⟨none,none,.st 1 (.t 41) (.t 40)⟩])))))))))) (.reg [⟨some 70,none,.bin .add (.t 28) (.c (.i .i64 1))⟩,⟨some 28,none,.mv (.t 70)⟩]))))))) (.seq (.reg [⟨some 71,none,.ld (some 2) (.t 7)⟩,⟨some 72,none,.mv (.t 9)⟩,⟨some 73,none,.mv (.t 10)⟩,⟨none,none,.st 2 (.t 2) (.t 71)⟩,⟨some 3,none,.mv (.t 72)⟩,⟨some 4,none,.mv (.t 73)⟩,⟨some 5,none,.mv (.c (.i .i64 0))⟩]) .ret)))))))
def weld_Clean.r:List Rr:=[.cell 2 (some 2),.tmp 3,.tmp 4,.tmp 5]
abbrev weld_Clean.n:Nat:=74
def weld_Degenerate.c (mesh_Corners vec_Collinear:FuncId):C :=(.seq (.reg [⟨some 2,none,.box (.t 0)⟩,⟨some 4,none,.mv (.c (.b false))⟩]) (.seq (.reg [⟨some 10,none,.ld (some 2) (.t 2)⟩,⟨some 11,none,.mv (.t 1)⟩,⟨some 12,none,.call mesh_Corners [.t 10,.t 11]⟩,⟨some 9,none,.mv (.t 12)⟩,⟨some 13,none,.ext (.t 9) 0⟩,⟨some 14,none,.ext (.t 9) 1⟩,⟨some 15,none,.ext (.t 9) 2⟩,⟨some 16,none,.ext (.t 9) 3⟩,⟨some 5,none,.alloc [(.i .i64 0),(.i .i64 0),(.i .i64 0)]⟩,⟨some 6,none,.alloc [(.i .i64 0),(.i .i64 0),(.i .i64 0)]⟩,⟨some 7,none,.alloc [(.i .i64 0),(.i .i64 0),(.i .i64 0)]⟩,⟨none,none,.st 3 (.t 5) (.t 13)⟩,
 ⟨none,none,.st 3 (.t 6) (.t 14)⟩,⟨none,none,.st 3 (.t 7) (.t 15)⟩,⟨some 8,none,.mv (.t 16)⟩]) (.seq (.reg [⟨some 17,none,.mv (.t 8)⟩,⟨some 18,none,.mv (.t 17)⟩,⟨some 19,(some (18,true)),.ld (some 3) (.t 5)⟩,⟨some 20,(some (18,true)),.ld (some 3) (.t 6)⟩,⟨some 21,(some (18,true)),.ld (some 3) (.t 7)⟩,⟨some 22,(some (18,true)),.call vec_Collinear [.t 19,.t 20,.t 21]⟩,⟨some 23,none,.pick (.t 18) (.t 22) (.c (.b false))⟩,⟨some 4,none,.mv (.t 23)⟩]) .ret)))
def weld_Degenerate.r:List Rr:=[.tmp 4]
abbrev weld_Degenerate.n:Nat:=24
def weld_used.c (slices_SortFunc_api_Vec_api_Vec weld_used_1:FuncId):C :=(.seq (.reg [⟨some 1,none,.box (.t 0)⟩,⟨some 2,none,.mv (.c .nil)⟩]) (.seq (.reg [⟨some 10,none,.mkm none⟩,⟨some 3,none,.mv (.t 10)⟩]) (.seq (.reg [⟨some 4,none,.mv (.c .nil)⟩]) (.seq (.seq (.reg [⟨some 11,none,.fa 1 (.t 1)⟩,⟨some 12,none,.ld none (.t 11)⟩,⟨some 13,none,.len 0 (.t 12)⟩,⟨some 14,none,.mv (.c (.i .i64 0))⟩]) (.blk 0 (.loop (.seq (.reg [⟨some 15,none,.bin .lss (.t 14) (.t 13)⟩]) (.seq (.ite (.t 15) .skip (.exit 0)) (.seq (.blk 1 (.seq (.reg [⟨some 16,none,.ia 3 (.t 12) (.t 14)⟩,⟨some 17,none,.ld (some 3) (.t 16)⟩,
 ⟨some 6,none,.alloc [(.i .i64 0),(.i .i64 0),(.i .i64 0)]⟩,⟨none,none,.st 3 (.t 6) (.t 17)⟩]) (.seq (.reg [⟨some 18,none,.fa 0 (.t 6)⟩,⟨some 19,none,.ld none (.t 18)⟩,⟨some 20,none,.fa 1 (.t 6)⟩,⟨some 21,none,.ld none (.t 20)⟩,⟨some 22,none,.fa 2 (.t 6)⟩,⟨some 23,none,.ld none (.t 22)⟩,⟨some 24,none,.build [(.i .i64 0),(.i .i64 0),(.i .i64 0)] [(0,1,(.t 19)),(1,1,(.t 21)),(2,1,(.t 23))]⟩,⟨some 25,none,.mv (.c (.i .i64 0))⟩]) (.blk 2 (.loop (.seq (.reg [⟨some 26,none,.bin .lss (.t 25) (.c (.i .i64 3))⟩]) (.seq (.ite (.t 26) .skip (.exit 2)) (.seq (.blk 3 (.seq (.reg [⟨some 27,none,.ix 3 1 none (.t 24) (.t 25)⟩,
 ⟨some 8,none,.mv (.t 27)⟩]) (.seq (.reg [⟨some 28,none,.fa 0 (.t 1)⟩,⟨some 29,none,.ld none (.t 28)⟩,⟨some 30,none,.mv (.t 8)⟩,⟨some 31,none,.ia 3 (.t 29) (.t 30)⟩,⟨some 32,none,.ld (some 3) (.t 31)⟩,⟨some 9,none,.alloc [(.i .i64 0),(.i .i64 0),(.i .i64 0)]⟩,⟨none,none,.st 3 (.t 9) (.t 32)⟩]) (.seq (.reg [⟨some 33,none,.mv (.t 3)⟩,⟨some 34,none,.ld (some 3) (.t 9)⟩,⟨some 35,none,.lk [1,1,1] (.b false) false (.t 33) (.t 34)⟩,⟨some 36,none,.un .not (.t 35)⟩]) (.ite (.t 36) (.seq (.reg [⟨some 37,none,.mv (.t 3)⟩,⟨some 38,none,.ld (some 3) (.t 9)⟩,⟨none,none,.mup [1,1,1] (.t 37) (.t 38) (.c (.b true))⟩])
 (.reg [⟨some 39,none,.mv (.t 4)⟩,⟨some 40,none,.ld (some 3) (.t 9)⟩,⟨some 41,none,.bsi 3 1 [(.i .i64 0),(.i .i64 0),(.i .i64 0)] [(0,(.t 40))]⟩,⟨some 42,none,.app 3 24 (.t 39) (.t 41)⟩,⟨some 4,none,.mv (.t 42)⟩])) .skip))))) (.reg [⟨some 43,none,.bin .add (.t 25) (.c (.i .i64 1))⟩,⟨some 25,none,.mv (.t 43)⟩]))))))))) (.reg [⟨some 44,none,.bin .add (.t 14) (.c (.i .i64 1))⟩,⟨some 14,none,.mv (.t 44)⟩]))))))) (.seq (.reg [⟨some 45,none,.mv (.t 4)⟩,⟨some 46,none,.call slices_SortFunc_api_Vec_api_Vec [.t 45,(.c (.f weld_used_1 []))]⟩]) (.seq (.reg [⟨some 47,none,.mv (.t 4)⟩,⟨some 2,none,.mv (.t 47)⟩])
 .ret))))))
def weld_used.r:List Rr:=[.tmp 2]
abbrev weld_used.n:Nat:=48
def weld_turned.c (weld_before:FuncId):C :=(.seq (.reg [⟨some 1,none,.box (.t 0)⟩,⟨some 2,none,.alloc [(.i .i64 0),(.i .i64 0),(.i .i64 0)]⟩]) (.seq (.reg [⟨some 4,none,.ld (some 3) (.t 1)⟩,⟨some 3,none,.alloc [(.i .i64 0),(.i .i64 0),(.i .i64 0)]⟩,⟨none,none,.st 3 (.t 3) (.t 4)⟩]) (.seq (.seq (.reg [⟨some 5,none,.mv (.c (.i .i64 0))⟩]) (.blk 0 (.loop (.seq (.reg [⟨some 6,none,.bin .lss (.t 5) (.c (.i .i64 2))⟩]) (.seq (.ite (.t 6) .skip (.exit 0)) (.seq (.blk 1 (.seq (.reg [⟨some 7,none,.fa 1 (.t 1)⟩,⟨some 8,none,.ld none (.t 7)⟩,⟨some 9,none,.fa 2 (.t 1)⟩,⟨some 10,none,.ld none (.t 9)⟩,⟨some 11,none,.fa 0 (.t 1)⟩,
 ⟨some 12,none,.ld none (.t 11)⟩,⟨some 13,none,.build [(.i .i64 0),(.i .i64 0),(.i .i64 0)] [(0,1,(.t 8)),(1,1,(.t 10)),(2,1,(.t 12))]⟩,⟨none,none,.st 3 (.t 1) (.t 13)⟩]) (.seq (.reg [⟨some 14,none,.ld (some 3) (.t 1)⟩,⟨some 15,none,.ld (some 3) (.t 3)⟩,⟨some 16,none,.call weld_before [.t 14,.t 15]⟩]) (.ite (.t 16) (.reg [⟨some 17,none,.ld (some 3) (.t 1)⟩,⟨none,none,.st 3 (.t 3) (.t 17)⟩]) .skip)))) (.reg [⟨some 18,none,.bin .add (.t 5) (.c (.i .i64 1))⟩,⟨some 5,none,.mv (.t 18)⟩]))))))) (.seq (.reg [⟨some 19,none,.ld (some 3) (.t 3)⟩,⟨none,none,.st 3 (.t 2) (.t 19)⟩]) .ret))))
def weld_turned.r:List Rr:=[.cell 2 (some 3)]
abbrev weld_turned.n:Nat:=20
def vec_Collinear.c (vec_Valid vec_Sub vec_Cross:FuncId):C :=(.seq (.reg [⟨some 3,none,.box (.t 0)⟩,⟨some 4,none,.box (.t 1)⟩,⟨some 5,none,.box (.t 2)⟩,⟨some 6,none,.mv (.c (.b false))⟩]) (.seq (.drw [⟨some 7,none,.ld (some 3) (.t 3)⟩,⟨some 8,none,.call vec_Valid [.t 7]⟩,⟨some 9,none,.mv (.t 8)⟩,⟨some 10,(some (9,true)),.ld (some 3) (.t 4)⟩,⟨some 11,(some (9,true)),.call vec_Valid [.t 10]⟩,⟨some 12,none,.pick (.t 9) (.t 11) (.c (.b false))⟩,⟨some 13,none,.mv (.t 12)⟩,⟨some 14,(some (13,true)),.ld (some 3) (.t 5)⟩,⟨some 15,(some (13,true)),.call vec_Valid [.t 14]⟩,⟨some 16,none,.pick (.t 13) (.t 15) (.c (.b false))⟩,
 ⟨some 17,none,.mv (.t 16)⟩,⟨some 18,(some (17,true)),.ld (some 3) (.t 4)⟩,⟨some 19,(some (17,true)),.ld (some 3) (.t 3)⟩,⟨some 20,(some (17,true)),.call vec_Sub [.t 18,.t 19]⟩,⟨some 21,(some (17,true)),.ld (some 3) (.t 5)⟩,⟨some 22,(some (17,true)),.ld (some 3) (.t 3)⟩,⟨some 23,(some (17,true)),.call vec_Sub [.t 21,.t 22]⟩,⟨some 24,(some (17,true)),.call vec_Cross [.t 20,.t 23]⟩,⟨some 25,(some (17,true)),.build [(.i .i64 0),(.i .i64 0),(.i .i64 0)] []⟩,⟨some 26,(some (17,true)),.eqa [1,1,1] false (.t 24) (.t 25)⟩,⟨some 27,none,.pick (.t 17) (.t 26) (.c (.b false))⟩,⟨some 6,none,.mv (.t 27)⟩] [[],[],[],[],[],[],[],[],[],[],[],[],[],[],[13],[13],[],[],[],[],[],[]])
 .ret))
def vec_Collinear.r:List Rr:=[.tmp 6]
abbrev vec_Collinear.n:Nat:=28
def weld_used_1.c (vec_Less:FuncId):C :=(.seq (.reg [⟨some 2,none,.box (.t 0)⟩,⟨some 3,none,.box (.t 1)⟩,⟨some 4,none,.mv (.c (.i .i64 0))⟩]) (.seq (.blk 0 (.seq (.reg [⟨some 6,none,.ld (some 3) (.t 2)⟩,⟨some 7,none,.ld (some 3) (.t 3)⟩,⟨some 8,none,.call vec_Less [.t 6,.t 7]⟩,⟨some 5,none,.mv (.t 8)⟩]) (.ite (.t 5) (.seq (.reg [⟨some 4,none,.mv (.c (.i .i64 (-1)))⟩]) .ret) (.seq (.reg [⟨some 10,none,.ld (some 3) (.t 3)⟩,⟨some 11,none,.ld (some 3) (.t 2)⟩,⟨some 12,none,.call vec_Less [.t 10,.t 11]⟩,⟨some 9,none,.mv (.t 12)⟩]) (.ite (.t 9) (.seq (.reg [⟨some 4,none,.mv (.c (.i .i64 1))⟩]) .ret)
 .skip))))) (.seq (.reg [⟨some 4,none,.mv (.c (.i .i64 0))⟩]) .ret)))
def weld_used_1.r:List Rr:=[.tmp 4]
abbrev weld_used_1.n:Nat:=13
def vec_Less.c:C :=(.seq (.reg [⟨some 2,none,.box (.t 0)⟩,⟨some 3,none,.box (.t 1)⟩,⟨some 4,none,.mv (.c (.b false))⟩]) (.seq (.seq (.reg [⟨some 5,none,.fa 0 (.t 2)⟩,⟨some 6,none,.ld none (.t 5)⟩,⟨some 7,none,.fa 0 (.t 3)⟩,⟨some 8,none,.ld none (.t 7)⟩,⟨some 9,none,.bin .neq (.t 6) (.t 8)⟩]) (.ite (.t 9) (.seq (.reg [⟨some 10,none,.fa 0 (.t 2)⟩,⟨some 11,none,.ld none (.t 10)⟩,⟨some 12,none,.fa 0 (.t 3)⟩,⟨some 13,none,.ld none (.t 12)⟩,⟨some 14,none,.bin .lss (.t 11) (.t 13)⟩,⟨some 4,none,.mv (.t 14)⟩]) .ret) .skip)) (.seq (.seq (.reg [⟨some 15,none,.fa 1 (.t 2)⟩,⟨some 16,none,.ld none (.t 15)⟩,
 ⟨some 17,none,.fa 1 (.t 3)⟩,⟨some 18,none,.ld none (.t 17)⟩,⟨some 19,none,.bin .neq (.t 16) (.t 18)⟩]) (.ite (.t 19) (.seq (.reg [⟨some 20,none,.fa 1 (.t 2)⟩,⟨some 21,none,.ld none (.t 20)⟩,⟨some 22,none,.fa 1 (.t 3)⟩,⟨some 23,none,.ld none (.t 22)⟩,⟨some 24,none,.bin .lss (.t 21) (.t 23)⟩,⟨some 4,none,.mv (.t 24)⟩]) .ret) .skip)) (.seq (.reg [⟨some 25,none,.fa 2 (.t 2)⟩,⟨some 26,none,.ld none (.t 25)⟩,⟨some 27,none,.fa 2 (.t 3)⟩,⟨some 28,none,.ld none (.t 27)⟩,⟨some 29,none,.bin .lss (.t 26) (.t 28)⟩,⟨some 4,none,.mv (.t 29)⟩]) .ret))))
def vec_Less.r:List Rr:=[.tmp 4]
abbrev vec_Less.n:Nat:=30
def weld_before.c:C :=(.seq (.reg [⟨some 2,none,.box (.t 0)⟩,⟨some 3,none,.box (.t 1)⟩,⟨some 4,none,.mv (.c (.b false))⟩]) (.seq (.seq (.reg [⟨some 5,none,.fa 0 (.t 2)⟩,⟨some 6,none,.ld none (.t 5)⟩,⟨some 7,none,.fa 0 (.t 3)⟩,⟨some 8,none,.ld none (.t 7)⟩,⟨some 9,none,.bin .neq (.t 6) (.t 8)⟩]) (.ite (.t 9) (.seq (.reg [⟨some 10,none,.fa 0 (.t 2)⟩,⟨some 11,none,.ld none (.t 10)⟩,⟨some 12,none,.fa 0 (.t 3)⟩,⟨some 13,none,.ld none (.t 12)⟩,⟨some 14,none,.bin .lss (.t 11) (.t 13)⟩,⟨some 4,none,.mv (.t 14)⟩]) .ret) .skip)) (.seq (.seq (.reg [⟨some 15,none,.fa 1 (.t 2)⟩,⟨some 16,none,.ld none (.t 15)⟩,
 ⟨some 17,none,.fa 1 (.t 3)⟩,⟨some 18,none,.ld none (.t 17)⟩,⟨some 19,none,.bin .neq (.t 16) (.t 18)⟩]) (.ite (.t 19) (.seq (.reg [⟨some 20,none,.fa 1 (.t 2)⟩,⟨some 21,none,.ld none (.t 20)⟩,⟨some 22,none,.fa 1 (.t 3)⟩,⟨some 23,none,.ld none (.t 22)⟩,⟨some 24,none,.bin .lss (.t 21) (.t 23)⟩,⟨some 4,none,.mv (.t 24)⟩]) .ret) .skip)) (.seq (.reg [⟨some 25,none,.fa 2 (.t 2)⟩,⟨some 26,none,.ld none (.t 25)⟩,⟨some 27,none,.fa 2 (.t 3)⟩,⟨some 28,none,.ld none (.t 27)⟩,⟨some 29,none,.bin .lss (.t 26) (.t 28)⟩,⟨some 4,none,.mv (.t 29)⟩]) .ret))))
def weld_before.r:List Rr:=[.tmp 4]
abbrev weld_before.n:Nat:=30
def vec_Sub.c (vec_Valid:FuncId):C :=(.seq (.reg [⟨some 2,none,.box (.t 0)⟩,⟨some 3,none,.box (.t 1)⟩,⟨some 4,none,.alloc [(.i .i64 0),(.i .i64 0),(.i .i64 0)]⟩]) (.seq (.seq (.reg [⟨some 5,none,.ld (some 3) (.t 2)⟩,⟨some 6,none,.call vec_Valid [.t 5]⟩,⟨some 7,none,.un .not (.t 6)⟩,⟨some 8,none,.mv (.t 7)⟩,⟨some 9,(some (8,false)),.ld (some 3) (.t 3)⟩,⟨some 10,(some (8,false)),.call vec_Valid [.t 9]⟩,⟨some 11,(some (8,false)),.un .not (.t 10)⟩,⟨some 12,none,.pick (.t 8) (.c (.b true)) (.t 11)⟩]) (.ite (.t 12) (.seq (.reg [⟨some 13,none,.build [(.i .i64 0),(.i .i64 0),(.i .i64 0)] []⟩,⟨none,none,.st 3 (.t 4) (.t 13)⟩])
 .ret) .skip)) (.seq (.reg [⟨some 14,none,.fa 0 (.t 2)⟩,⟨some 15,none,.ld none (.t 14)⟩,⟨some 16,none,.fa 0 (.t 3)⟩,⟨some 17,none,.ld none (.t 16)⟩,⟨some 18,none,.bin .sub (.t 15) (.t 17)⟩,⟨some 19,none,.fa 1 (.t 2)⟩,⟨some 20,none,.ld none (.t 19)⟩,⟨some 21,none,.fa 1 (.t 3)⟩,⟨some 22,none,.ld none (.t 21)⟩,⟨some 23,none,.bin .sub (.t 20) (.t 22)⟩,⟨some 24,none,.fa 2 (.t 2)⟩,⟨some 25,none,.ld none (.t 24)⟩,⟨some 26,none,.fa 2 (.t 3)⟩,⟨some 27,none,.ld none (.t 26)⟩,⟨some 28,none,.bin .sub (.t 25) (.t 27)⟩,⟨some 29,none,.build [(.i .i64 0),(.i .i64 0),(.i .i64 0)] [(0,1,(.t 18)),(1,1,(.t 23)),(2,1,(.t 28))]⟩,
 ⟨none,none,.st 3 (.t 4) (.t 29)⟩]) .ret)))
def vec_Sub.r:List Rr:=[.cell 4 (some 3)]
abbrev vec_Sub.n:Nat:=30
end Go.Abs
