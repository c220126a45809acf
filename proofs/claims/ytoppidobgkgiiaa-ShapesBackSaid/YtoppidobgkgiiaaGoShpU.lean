/- Part of the library on which the proof stands: an abstract machine, its values and its soundness against the model; or what functions of the program do to such values. -/
import Derived.Test.YtoppidobgkgiiaaAbsWS
import Derived.Test.YtoppidobgkgiiaaGoShp
import Derived.Test.YtoppidobgkgiiaaGoRevC
set_option linter.unusedVariables false
set_option linter.unusedSimpArgs false
namespace Go.Abs

def AwakeC (P : Program) (f : FuncId) : Prop := CallIs P f [] (.b true)

theorem par_i {k : IntKind} {ps : List (Bool × List Sch)} {us : List V} (h : okPars ((false, [.i k]) :: ps) us) : ∃ n r, us = .i k n :: r ∧ (k.min ≤ n ∧ n ≤ k.max) ∧ okPars ps r := by
  simp only [okPars, okPar] at h
  obtain ⟨v, r, rfl, hv, hr⟩ := h
  simp only [okL, Sch.ok] at hv
  obtain ⟨x, r', h1, ⟨n, rfl, h2⟩, rfl⟩ := hv
  obtain rfl : v = .i k n := by simpa using h1
  exact ⟨n, r, rfl, h2, hr⟩

theorem par_0 {us : List V} (h : okPars [] us) : us = [] := h
end Go.Abs
set_option linter.unusedVariables false
set_option linter.unusedSimpArgs false
namespace Go.Abs

def CloneC (P : Program) (f : FuncId) (sz : Nat) : Prop := ∀ els : List (List V), els.all (fun el => el.all V.isD) = true → els.length ≤ 1000000 → NewC P f [.l sz els] (fun r h => r = .own 0 1 0 els.length ∧ h = [.arr 1 sz els])

theorem isD_cl {x : V} (n : Nat) (h : x.isD = true) : x.cl n = true := by cases x <;> simp [V.isD] at h <;> simp [V.cl, V.cl1, V.cl0]

section
variable {P : Program} (hm : P.follows .mixedOrders = true)
include hm

theorem slices_Clone3_ok {f : FuncId} (hf : FnOk P f slices_Clone_api_Vec_api_Vec.c slices_Clone_api_Vec_api_Vec.r slices_Clone_api_Vec_api_Vec.n) : CloneC P f 3 := by
  intro els hel hlen
  refine ACall_ghost 3 ?_
  refine new_of hm hf (Nat.le_of_ble_eq_true rfl) ?_
  unfold slices_Clone_api_Vec_api_Vec.c
  cases els with
  | nil => simp [go_sem, slices_Clone_api_Vec_api_Vec.r]
  | cons e l =>
    simp only [List.length_cons] at hlen
    simp [go_sem, slices_Clone_api_Vec_api_Vec.r]
    simp only [List.all_cons, Bool.and_eq_true, List.all_eq_true] at hel
    exact ⟨⟨by omega, by omega⟩, fun x hx => isD_cl 1 (hel.1 x hx), fun a ha x hx => isD_cl 1 (hel.2 a ha x hx)⟩
theorem slices_CloneT_ok {f : FuncId} (hf : FnOk P f slices_Clone_api_Tri_api_Tri.c slices_Clone_api_Tri_api_Tri.r slices_Clone_api_Tri_api_Tri.n) : CloneC P f 3 := slices_Clone3_ok hm hf
end

/-- Cloning, for closed runs. -/
def cloneK (sz : Nat) : List V → Option (V × List O)
  | [.l sz' els] => bif sz' == sz && Nat.ble els.length 1000 && els.all (fun el => el.all V.isD) then some (.own 0 1 0 els.length, [.arr 1 sz els]) else none
  | [.nil] => some (.own 0 1 0 0, [.arr 1 sz []])
  | _ => none
theorem cloneK_ok {P : Program} {f : FuncId} {sz : Nat} {vs : List V} {r0 : V} {h0 : List O} (hc : CloneC P f sz) (he : cloneK sz vs = some (r0, h0)) : NewC P f vs (fun r h => r = r0 ∧ h = h0) := by
  unfold cloneK at he
  split at he
  · rename_i sz' els
    cases hb : sz' == sz && Nat.ble els.length 1000 && els.all (fun el => el.all V.isD)
    · rw [hb] at he; simp at he
    rw [hb] at he
    simp only [cond_true, Option.some.injEq, Prod.mk.injEq] at he
    obtain ⟨rfl, rfl⟩ := he
    simp only [Bool.and_eq_true, beq_iff_eq] at hb
    obtain ⟨⟨rfl, h2⟩, h3⟩ := hb
    exact hc els h3 (Nat.le_trans (Nat.le_of_ble_eq_true h2) (by omega))
  · simp only [Option.some.injEq, Prod.mk.injEq] at he
    obtain ⟨rfl, rfl⟩ := he
    have hl : LeL Le [V.nil] [.l sz []] := ⟨.inl (.inl (Le0.nil sz)), trivial⟩
    exact ACall_le hl (hc [] rfl (by simp))
  · simp at he
end Go.Abs
set_option linter.unusedVariables false
set_option linter.unusedSimpArgs false
namespace Go.Abs

def schV : List Sch := [.i .i64, .i .i64, .i .i64]
def schM : List Sch := [.sl schV, .sl schV]

theorem v3_of {e : List V} (h : okL schV e) : ∃ v : V3, e = v.cs := by
  simp only [schV, okL, Sch.ok] at h
  obtain ⟨v1, r1, rfl, ⟨x, rfl, _⟩, v2, r2, rfl, ⟨y, rfl, _⟩, v3, r3, rfl, ⟨z, rfl, _⟩, rfl⟩ := h
  exact ⟨⟨x, y, z⟩, rfl⟩
theorem t3_of {e : List V} (h : okL schV e) : ∃ v : T3, e = v.cs := by
  simp only [schV, okL, Sch.ok] at h
  obtain ⟨v1, r1, rfl, ⟨x, rfl, _⟩, v2, r2, rfl, ⟨y, rfl, _⟩, v3, r3, rfl, ⟨z, rfl, _⟩, rfl⟩ := h
  exact ⟨⟨x, y, z⟩, rfl⟩

theorem list_of {α : Type} {f : α → List V} {el : List Sch} (hf : ∀ e, okL el e → ∃ v, e = f v) : ∀ els : List (List V), (∀ e ∈ els, okL el e) → ∃ l : List α, els = l.map f
  | [], _ => ⟨[], rfl⟩
  | e :: els, h => by
    obtain ⟨l, rfl⟩ := list_of hf els (fun e he => h e (by simp [he]))
    obtain ⟨v, rfl⟩ := hf e (h e (by simp))
    exact ⟨v :: l, rfl⟩

theorem par_m {ps : List (Bool × List Sch)} {us : List V} (h : okPars ((true, schM) :: ps) us) : ∃ (m : Mesh) (r : List V), us = m.enc :: r ∧ (m.verts.length ≤ 9223372036854775807 ∧ m.tris.length ≤ 9223372036854775807) ∧ okPars ps r := by
  simp only [okPars, okPar] at h
  obtain ⟨v, r, rfl, ⟨cs, rfl, hc⟩, hr⟩ := h
  simp only [schM, okL, Sch.ok] at hc
  obtain ⟨v1, r1, rfl, ⟨els, rfl, hl, he⟩, v2, r2, rfl, ⟨els2, rfl, hl2, he2⟩, rfl⟩ := hc
  obtain ⟨vs, rfl⟩ := list_of (fun e => v3_of) els he
  obtain ⟨ts, rfl⟩ := list_of (fun e => t3_of) els2 he2
  exact ⟨⟨vs, ts⟩, r, rfl, ⟨by simpa using hl, by simpa using hl2⟩, hr⟩
end Go.Abs
set_option linter.unusedVariables false
set_option linter.unusedSimpArgs false
namespace Go.Abs

structure P2 where
  x : Int
  y : Int
deriving DecidableEq
def P2.cs (p : P2) : List V := [.i .i64 p.x, .i .i64 p.y]
def P2.enc (p : P2) : V := .a p.cs
def psV (l : List P2) : V := .l 2 (l.map P2.cs)
theorem pcs (p : P2) : p.cs = [.i .i64 p.x, .i .i64 p.y] := _root_.id rfl

def inI (n : Int) : Bool := decide (-9223372036854775808 ≤ n) && decide (n ≤ 9223372036854775807)
theorem inI_iff {n : Int} : inI n = true ↔ (-9223372036854775808 ≤ n ∧ n ≤ 9223372036854775807) := by simp [inI]

/-- The result of a function that makes a mesh. -/
def mesV (m : Mesh) (e : Int) : V := .t [m.enc, .i .i64 e]
def noMesh : Mesh := ⟨[], []⟩
theorem mesV_le {u v : V} {vs : List V3} {ts : List T3} {e : Int} (h1 : Le0 u (vsV vs)) (h2 : Le0 v (tsV ts)) : Le (.t [.a [u, v], .i .i64 e]) (mesV ⟨vs, ts⟩ e) :=
  .inr ⟨_, _, rfl, rfl, .inr ⟨_, _, rfl, rfl, h1, h2, trivial⟩, Le1.refl _, trivial⟩
theorem noMesh_le (e : Int) : Le (.t [.a [.nil, .nil], .i .i64 e]) (mesV noMesh e) := mesV_le (Le0.nil 3) (Le0.nil 3)

def FitsVC (P : Program) (f : FuncId) : Prop := ∀ l : List V3, l.length ≤ 1000000 → CallIs P f [vsV l] (.b (vsOk l))
def NearC (P : Program) (f : FuncId) : Prop := ∀ v : V3, CallIs P f [v.enc] (.b (v.within 131072))
def V3.plus (a b : V3) : V3 := ⟨IntKind.i64.wrap (a.x + b.x), IntKind.i64.wrap (a.y + b.y), IntKind.i64.wrap (a.z + b.z)⟩
def PlusC (P : Program) (f : FuncId) : Prop := ∀ a b : V3, CallIs P f [a.enc, b.enc] (a.plus b).enc
def V3.add (a b : V3) : V3 := ⟨a.x + b.x, a.y + b.y, a.z + b.z⟩

theorem within_iff {v : V3} {k : Int} : v.within k = true ↔ (-k ≤ v.x ∧ v.x ≤ k ∧ -k ≤ v.y ∧ v.y ≤ k ∧ -k ≤ v.z ∧ v.z ≤ k) := by
  simp [V3.within, and_assoc]
theorem plus_add {a b : V3} (h1 : a.valid = true) (h2 : b.within 131072 = true) : a.plus b = a.add b := by
  have := V3.valid_iff.1 h1
  have := within_iff.1 h2
  simp only [V3.plus, V3.add]
  rw [wrap64_small (by omega) (by omega), wrap64_small (by omega) (by omega), wrap64_small (by omega) (by omega)]

section
variable {P : Program} (hm : P.follows .mixedOrders = true)
include hm

theorem shapes_fits_ok {f fv : FuncId} (hf : FnOk P f (shapes_fits.c fv) shapes_fits.r shapes_fits.n) (hv : ValidC P fv) : FitsVC P f := by
  intro l hl
  refine PureC.is (pure_of hm hf (Nat.le_of_ble_eq_true rfl) ?_) rfl
  unfold shapes_fits.c
  simp [go_sem, vsV]
  refine AS_loop (α := Nat) (fun k => k ≤ l.length ∧ vsOk (l.take k) = true)
    (fun k => ⟨[(5, vsV l), (6, .i .i64 l.length), (7, .i .i64 k)], []⟩)
    (fun k => l.length - k) 0 ⟨Nat.zero_le _, rfl⟩ ?_ ?_
  · simp [go_sem, vsV]
  · rintro k ⟨hk, hok⟩
    cases hp : l[k]? with
    | none =>
      have : ¬ k < l.length := by simpa using hp
      obtain rfl : k = l.length := by omega
      rw [List.take_length] at hok
      simp [go_sem, vsV, shapes_fits.r, hok]
    | some p =>
      obtain ⟨hlt, hp'⟩ := List.getElem?_eq_some_iff.1 hp
      simp [go_sem, vsV, hlt, hp', vcs]
      refine ACall_is (hv p) ?_
      cases hvp : p.valid
      · simp [go_sem, shapes_fits.r, vsOk_false hp hvp]
      · simp (disch := omega) [go_sem, wrap64_small]
        refine ⟨k + 1, ⟨by omega, ?_⟩, by omega, ?_⟩
        · rw [vsOk_succ hp, hok, hvp]; rfl
        · simp (disch := omega) [go_sem, vsV, wrap64_small]
theorem shapes_near_ok {f : FuncId} (hf : FnOk P f shapes_near.c shapes_near.r shapes_near.n) : NearC P f := by
  intro v
  refine PureC.is (pure_of hm hf (Nat.le_of_ble_eq_true rfl) ?_) rfl
  unfold shapes_near.c
  have hw := @within_iff v 131072
  by_cases h1 : v.x ≤ 131072 ∧ v.y ≤ 131072 ∧ v.z ≤ 131072
  · have h2 : max (max v.x v.y) v.z ≤ 131072 := by omega
    simp +contextual -implicitDefEqProofs [go_sem, V3.enc, V3.cs, shapes_near.r, h1, h2]
    rw [Bool.eq_iff_iff, hw]; simp; omega
  · have h2 : ¬ max (max v.x v.y) v.z ≤ 131072 := by omega
    simp +contextual -implicitDefEqProofs [go_sem, V3.enc, V3.cs, shapes_near.r, h1, h2]
    rw [Bool.eq_iff_iff, hw]; simp; omega

theorem shapes_plus_ok {f : FuncId} (hf : FnOk P f shapes_plus.c shapes_plus.r shapes_plus.n) : PlusC P f := by
  intro a b
  refine PureC.is (pure_of hm hf (Nat.le_of_ble_eq_true rfl) ?_) rfl
  unfold shapes_plus.c
  simp [go_sem, V3.enc, V3.cs, shapes_plus.r, V3.plus]

end
end Go.Abs
set_option linter.unusedVariables false
set_option linter.unusedSimpArgs false
namespace Go.Abs

def V3.inR (v : V3) : Bool := inI v.x && inI v.y && inI v.z
def SameMC (P : Program) (f : FuncId) : Prop := ∀ m : Mesh, m.verts.length ≤ 1000000 → m.tris.length ≤ 1000000 → CallIs P f [m.enc, m.enc] (.b true)

section
variable {P : Program} (hm : P.follows .mixedOrders = true)
include hm

end
end Go.Abs
set_option linter.unusedVariables false
set_option linter.unusedSimpArgs false
namespace Go.Abs

theorem within_of_add {p s : V3} (h1 : p.valid = true) (h2 : (p.add s).valid = true) : s.within 131072 = true := by
  have a1 := V3.valid_iff.1 h1
  have a2 := V3.valid_iff.1 h2
  simp only [V3.add] at a2
  rw [within_iff]; omega

section
variable {P : Program} (hm : P.follows .mixedOrders = true)
include hm

end
end Go.Abs
set_option linter.unusedVariables false
set_option linter.unusedSimpArgs false
namespace Go.Abs

theorem v3_ofR {e : List V} (h : okL schV e) : ∃ v : V3, e = v.cs ∧ v.inR = true := by
  simp only [schV, okL, Sch.ok] at h
  obtain ⟨v1, r1, rfl, ⟨x, rfl, hx⟩, v2, r2, rfl, ⟨y, rfl, hy⟩, v3, r3, rfl, ⟨z, rfl, hz⟩, rfl⟩ := h
  refine ⟨⟨x, y, z⟩, rfl, ?_⟩
  simp only [V3.inR, Bool.and_eq_true, inI_iff]
  exact ⟨⟨hx, hy⟩, hz⟩
theorem par_vr {ps : List (Bool × List Sch)} {us : List V} (h : okPars ((true, schV) :: ps) us) : ∃ (v : V3) (r : List V), us = v.enc :: r ∧ v.inR = true ∧ okPars ps r := by
  simp only [okPars, okPar] at h
  obtain ⟨v, r, rfl, ⟨cs, rfl, hc⟩, hr⟩ := h
  obtain ⟨p, rfl, hp⟩ := v3_ofR hc
  exact ⟨p, r, rfl, hp, hr⟩

section
variable {P : Program} (hm : P.follows .mixedOrders = true)
include hm

end
end Go.Abs
set_option linter.unusedVariables false
set_option linter.unusedSimpArgs false
namespace Go.Abs

def P2.valid (p : P2) : Bool := decide (-16777216 ≤ p.x) && decide (p.x ≤ 16777216) && decide (-16777216 ≤ p.y) && decide (p.y ≤ 16777216)
theorem P2.valid_iff {p : P2} : p.valid = true ↔ (-16777216 ≤ p.x ∧ p.x ≤ 16777216 ∧ -16777216 ≤ p.y ∧ p.y ≤ 16777216) := by simp [P2.valid, and_assoc]
section
variable {P : Program} (hm : P.follows .mixedOrders = true)
include hm

end
end Go.Abs
set_option linter.unusedVariables false
set_option linter.unusedSimpArgs false
namespace Go.Abs

def bottomT (k : Nat) : T3 := ⟨0, (k : Int) + 2, (k : Int) + 1⟩
def bottomTs (n : Nat) : List T3 := (List.range n).map bottomT
def BottomC (P : Program) (f : FuncId) : Prop := ∀ n : Nat, n ≤ 1000 → NewC P f [.i .i64 ((n : Int) + 2)] (fun r h => r = .own 0 (n + 1) 0 n ∧ h = [.arr (n + 1) 3 ((bottomTs n).map T3.cs)])

section
variable {P : Program} (hm : P.follows .mixedOrders = true)
include hm

end
end Go.Abs
set_option linter.unusedVariables false
set_option linter.unusedSimpArgs false
namespace Go.Abs

theorem sh_vcs (k : Nat) : ((fun el => List.map (V.sh1 k) el) ∘ V3.cs) = V3.cs := by funext v; rfl
theorem sh_tcs (k : Nat) : ((fun el => List.map (V.sh1 k) el) ∘ T3.cs) = T3.cs := by funext v; rfl
theorem BottomC.of {P : Program} {f : FuncId} (hb : BottomC P f) {n k : Nat} (hn : n = k + 2) (hk : k ≤ 1000) : NewC P f [.i .i64 n] (fun r h => r = .own 0 (k + 1) 0 k ∧ h = [.arr (k + 1) 3 ((bottomTs k).map T3.cs)]) := by
  subst hn; exact hb k hk

section
variable {P : Program} (hm : P.follows .mixedOrders = true)
include hm

end
end Go.Abs
set_option linter.unusedVariables false
set_option linter.unusedSimpArgs false
namespace Go.Abs

def mixed {α : Type} (l : List α) (g : α → α) (k : Nat) : List α := (l.take k).map g ++ l.drop k
theorem mixed_len {α : Type} (l : List α) (g : α → α) (k : Nat) : (mixed l g k).length = l.length := by simp [mixed]; omega
theorem mixed_get {α : Type} {l : List α} {g : α → α} {k : Nat} (h : k < l.length) : (mixed l g k)[k]? = some l[k] := by
  rw [mixed, List.getElem?_append_right (by simp; omega)]; simp; rw [show k + (k - min k l.length) = k by omega]; simp [h]
theorem mixed_set {α : Type} {l : List α} {g : α → α} {k : Nat} (h : k < l.length) : (mixed l g k).set k (g l[k]) = mixed l g (k + 1) := by
  rw [mixed, List.set_append_right _ _ (by simp; omega), show k - ((l.take k).map g).length = 0 by simp; omega]
  rw [List.drop_eq_getElem_cons h, List.set_cons_zero, mixed, List.take_add_one, List.getElem?_eq_getElem h]
  simp only [Option.toList, List.map_append, List.map_cons, List.map_nil, List.append_assoc, List.cons_append, List.nil_append]
theorem mixed_0 {α : Type} (l : List α) (g : α → α) : mixed l g 0 = l := by simp [mixed]
theorem mixed_all {α : Type} (l : List α) (g : α → α) : mixed l g l.length = l.map g := by simp [mixed]

def Mesh.mapV (m : Mesh) (g : V3 → V3) : Mesh := ⟨m.verts.map g, m.tris⟩

section
variable {P : Program} (hm : P.follows .mixedOrders = true)
include hm

omit hm in
set_option maxHeartbeats 8000000 in
theorem change_walk {fcv fct fn : FuncId} {caps : List V} {h : List O} {T : List Nat} {g : V3 → V3} {κ : X → St → Prop} (m : Mesh) (hv : m.verts.length ≤ 4096) (ht : m.tris.length ≤ 4096)
    (hcv : CloneC P fcv 3) (hct : CloneC P fct 3) (hcal : callable P fn = true) (hT : ∀ id ∈ T, id < h.length) (hcaps : ∀ n, h.length ≤ n → (V.f fn caps).cl n = true)
    (hcl : ∀ n, h.length ≤ n → ∀ o ∈ h, o.cl n)
    (hclo : ∀ v ∈ m.verts, ∀ h2 : List O, (∀ id ∈ T, h2[id]? = h[id]?) → ACall P fn (v.enc :: caps) h2 (fun r h' => r = (g v).enc ∧ h' = h2))
    (hk : ∀ env, get 4 env = .p (h.length + 1) 1 0 0 → κ .r ⟨env, h ++ [.dead, .arr 1 2 [[.own (h.length + 2) 1 0 m.verts.length, .own (h.length + 3) 1 0 m.tris.length]], .arr 1 3 ((m.verts.map g).map V3.cs), .arr 1 3 (m.tris.map T3.cs), .arr 1 2 [[.own (h.length + 2) 1 0 m.verts.length, .own (h.length + 3) 1 0 m.tris.length]]]⟩) :
    AS P h.length (shapes_change.c fcv fct) ⟨envFrom 0 [m.enc, .f fn caps], h⟩ κ := by
  unfold shapes_change.c
  simp [go_sem, Mesh.enc, Mesh.cs, vsV, tsV, app_get_r, app_get_0, app_set_r, app_set_0]
  refine DCall_new (hcv _ (by simp [vcs_isD]) (by simp; omega)) rfl ?_
  simp [go_sem, app_get_r, app_get_0, app_set_r, app_set_0, sh_vcs]
  refine DCall_new (hct _ (by simp [tcs_isD]) (by simp; omega)) rfl ?_
  simp [go_sem, app_get_r, app_get_0, app_set_r, app_set_0, sh_vcs, sh_tcs]
  refine AS_loop (α := Nat) (fun k => k ≤ m.verts.length)
    (fun k => ⟨[(1, .f fn caps), (4, .p (h.length + 1) 1 0 0), (5, .p (h.length + 4) 1 0 0), (16, .own (h.length + 2) 1 0 m.verts.length), (17, .i .i64 m.verts.length), (18, .i .i64 k)],
      h ++ [.dead, .arr 1 2 [[.nil, .nil]], .arr 1 3 ((mixed m.verts g k).map V3.cs), .arr 1 3 (m.tris.map T3.cs), .arr 1 2 [[.own (h.length + 2) 1 0 m.verts.length, .own (h.length + 3) 1 0 m.tris.length]]]⟩)
    (fun k => m.verts.length - k) 0 (Nat.zero_le _) ?_ ?_
  · simp [go_sem, mixed_0]
    refine ⟨fun x hx => ?_, WeakH_app (hcl _ (by omega)) ?_⟩
    · have := hcaps (h.length + 5) (by omega)
      simp only [V.cl, V.cl1, List.all_eq_true] at this
      exact this x hx
    · simp [go_sem, or_imp, forall_and, V.cl, V.cl1, V.cl0, vcs, tcs]
  · intro k hk0
    have hml := mixed_len m.verts g k
    by_cases hkl : k = m.verts.length
    · subst hkl
      rw [mixed_all]
      have hk2 := hk [(1, V.f fn caps), (4, V.p (h.length + 1) 1 0 0), (5, V.p (h.length + 4) 1 0 0), (16, V.own (h.length + 2) 1 0 m.verts.length), (17, V.i .i64 m.verts.length), (18, V.i .i64 m.verts.length), (19, V.b false), (31, V.a [V.own (h.length + 2) 1 0 m.verts.length, V.own (h.length + 3) 1 0 m.tris.length])] rfl
      rw [List.map_map] at hk2
      simp [go_sem, app_get_r, app_get_0, app_set_r, app_set_0]
      exact hk2
    · have hlt : k < m.verts.length := by omega
      have hget := mixed_get (g := g) hlt
      have hset := mixed_set (g := g) hlt
      have hgete : ∀ h', (mixed m.verts g k)[k]'h' = m.verts[k] := fun h' => (List.getElem_eq_iff h').2 hget
      simp [go_sem, app_get_r, app_get_0, app_set_r, app_set_0, hlt, hml, hgete, vcs]
      refine ⟨hcal, ?_⟩
      refine DCall_read (T := T) (r := (g m.verts[k]).enc) (fun id hid => ⟨by have := hT id hid; omega, by have := hT id hid; simp; omega⟩) (fun h2 hag => hclo m.verts[k] (List.getElem_mem hlt) h2 (fun id hid => ?_)) (chk_read (by simp)) ?_
      · rw [hag id hid, List.getElem?_append_left (hT id hid)]
      simp [go_sem, app_get_r, app_get_0, app_set_r, app_set_0, hlt, hml, V3.enc, vcs]
      have hcc : ∀ x ∈ caps, V.cl0 (h.length + 5) x = true := fun x hx => by
        have := hcaps (h.length + 5) (by omega)
        simp only [V.cl, V.cl1, List.all_eq_true] at this
        exact this x hx
      have hset2 : (List.map V3.cs (mixed m.verts g k)).set k [V.i .i64 (g m.verts[k]).x, V.i .i64 (g m.verts[k]).y, V.i .i64 (g m.verts[k]).z] = List.map V3.cs (mixed m.verts g (k + 1)) := by
        rw [← hset, List.map_set]; rfl
      rw [hset2]
      refine ⟨k + 1, by omega, by omega, ⟨hcc, wrap64_small (by omega) (by omega)⟩, WeakH_app (hcl _ (by omega)) ?_⟩
      simp [go_sem, or_imp, forall_and, V.cl, V.cl1, V.cl0, vcs, tcs]

/-- Changing in the caller's heap: new objects come back. -/
theorem change_own {f fcv fct fn : FuncId} {caps : List V} {h : List O} {T : List Nat} {g : V3 → V3} (hf : FnOk P f (shapes_change.c fcv fct) shapes_change.r shapes_change.n) (m : Mesh) (hv : m.verts.length ≤ 4096) (ht : m.tris.length ≤ 4096)
    (hcv : CloneC P fcv 3) (hct : CloneC P fct 3) (hcal : callable P fn = true) (hT : ∀ id ∈ T, id < h.length) (hcaps : ∀ n, h.length ≤ n → (V.f fn caps).cl n = true)
    (hcl : ∀ n, h.length ≤ n → ∀ o ∈ h, o.cl n)
    (hclo : ∀ v ∈ m.verts, ∀ h2 : List O, (∀ id ∈ T, h2[id]? = h[id]?) → ACall P fn (v.enc :: caps) h2 (fun r h' => r = (g v).enc ∧ h' = h2)) :
    ACall P f [m.enc, .f fn caps] h (fun r h' => r = .a [.own (h.length + 2) 1 0 m.verts.length, .own (h.length + 3) 1 0 m.tris.length] ∧
      h' = h ++ [.dead, .dead, .arr 1 3 ((m.verts.map g).map V3.cs), .arr 1 3 (m.tris.map T3.cs)]) := by
  refine call_intro hm hf (Nat.le_of_ble_eq_true rfl) (change_walk m hv ht hcv hct hcal hT hcaps hcl hclo fun env he => ?_)
  rw [DoneA_r]
  refine ⟨[.a [.own (h.length + 2) 1 0 m.verts.length, .own (h.length + 3) 1 0 m.tris.length]], h ++ [.dead, .dead, .arr 1 3 ((m.verts.map g).map V3.cs), .arr 1 3 (m.tris.map T3.cs)], ?_, rfl, ?_, ?_, ?_, ?_, rfl, rfl⟩
  · simp [shapes_change.r, readR, he, go_sem, app_get_r]
  · simp [V.cl, V.cl1, V.cl0]
  · simp
  · simp
  · refine WeakH_app (hcl _ (by simp)) ?_
    simp [go_sem, or_imp, forall_and, V.cl, V.cl1, V.cl0, vcs, tcs]

/-- Changing by a function value that holds nothing. -/
theorem change_val {f fcv fct fn : FuncId} {g : V3 → V3} (hf : FnOk P f (shapes_change.c fcv fct) shapes_change.r shapes_change.n) (m : Mesh) (hv : m.verts.length ≤ 4096) (ht : m.tris.length ≤ 4096)
    (hcv : CloneC P fcv 3) (hct : CloneC P fct 3) (hcal : callable P fn = true)
    (hclo : ∀ v ∈ m.verts, CallIs P fn [v.enc] (g v).enc) : CallIs P f [m.enc, .f fn []] (m.mapV g).enc := by
  refine PureC.is (pure_of hm hf (Nat.le_of_ble_eq_true rfl) ?_) rfl
  refine change_walk (h := []) (T := []) (g := g) m hv ht hcv hct hcal (by simp) (fun _ _ => rfl) (by simp) (fun v hvm h2 _ => hclo v hvm h2) fun env he => ?_
  rw [Done_r]
  simp [shapes_change.r, go_sem, he, Mesh.mapV, Mesh.enc, Mesh.cs, vsV, tsV, vcs_isD, tcs_isD]
end
end Go.Abs
set_option linter.unusedVariables false
set_option linter.unusedSimpArgs false
namespace Go.Abs

theorem CallIs.pure {P : Program} {f : FuncId} {vs : List V} {r : V} (h : CallIs P f vs r) : PureC P f vs (· = r) := h []
section
variable {P : Program} (hm : P.follows .mixedOrders = true)
include hm

end
end Go.Abs
set_option linter.unusedVariables false
set_option linter.unusedSimpArgs false
namespace Go.Abs

def turn1 (v : V3) : V3 := ⟨-v.y, v.x, v.z⟩
def turnK : Nat → V3 → V3
  | 0, v => v
  | k + 1, v => turn1 (turnK k v)
theorem turn1_valid {v : V3} (h : v.valid = true) : (turn1 v).valid = true := by
  have := V3.valid_iff.1 h
  rw [V3.valid_iff]; simp only [turn1]; omega
theorem turnK_valid {v : V3} (h : v.valid = true) : ∀ k, (turnK k v).valid = true
  | 0 => h
  | k + 1 => turn1_valid (turnK_valid h k)
def quarter (n : Int) : Nat := ((n.tmod 4 + 4).tmod 4).toNat
theorem quarter_lt (n : Int) : ((n.tmod 4 + 4).tmod 4) = (quarter n : Int) ∧ quarter n < 4 := by
  have h1 := Int.tmod_lt_of_pos n (show (0 : Int) < 4 by omega)
  have h2 : -4 < n.tmod 4 := by
    have h3 := Int.tmod_lt_of_pos (-n) (show (0 : Int) < 4 by omega)
    rw [Int.neg_tmod] at h3
    omega
  have h3 := Int.tmod_nonneg (a := n.tmod 4 + 4) 4 (by omega)
  have h4 := Int.tmod_lt_of_pos (n.tmod 4 + 4) (show (0 : Int) < 4 by omega)
  simp only [quarter]; omega

def moveV (m : Mesh) (d : V3) : V :=
  if m.check ≠ 0 then mesV noMesh 1 else if vsOk (m.verts.map (·.add d)) = false then mesV noMesh 8 else mesV (m.mapV (·.add d)) 0
def MoveC (P : Program) (f : FuncId) : Prop := ∀ (m : Mesh) (d : V3), d.inR = true → CallIs P f [m.enc, d.enc] (moveV m d)
def turnV (m : Mesh) (n : Int) : V := if m.check ≠ 0 then mesV noMesh 1 else mesV (m.mapV (turnK (quarter n))) 0
def TurnC (P : Program) (f : FuncId) : Prop := ∀ (m : Mesh) (n : Int), inI n = true → CallIs P f [m.enc, .i .i64 n] (turnV m n)
def CheckedC (P : Program) (f : FuncId) : Prop := ∀ m : Mesh, m.verts.length ≤ 1000000 → CallIs P f [m.enc] (if vsOk m.verts = false then mesV noMesh 8 else mesV m 0)

section
variable {P : Program} (hm : P.follows .mixedOrders = true)
include hm

theorem shapes_checked_ok {f ff : FuncId} (hf : FnOk P f (shapes_checked.c ff) shapes_checked.r shapes_checked.n) (hfit : FitsVC P ff) : CheckedC P f := by
  intro m hml
  cases h1 : vsOk m.verts
  · rw [if_pos rfl]
    refine CallIs.res (r := .t [.a [.nil, .nil], .i .i64 8]) ?_ (noMesh_le 8)
    refine PureC.is (pure_of hm hf (Nat.le_of_ble_eq_true rfl) ?_) rfl
    unfold shapes_checked.c
    simp [go_sem, Mesh.enc, Mesh.cs]
    refine ACall_is (hfit m.verts hml) ?_
    simp [go_sem, h1, shapes_checked.r]
  rw [if_neg (by simp)]
  refine PureC.is (pure_of hm hf (Nat.le_of_ble_eq_true rfl) ?_) rfl
  unfold shapes_checked.c
  simp [go_sem, Mesh.enc, Mesh.cs]
  refine ACall_is (hfit m.verts hml) ?_
  simp [go_sem, h1, shapes_checked.r, mesV, Mesh.enc, Mesh.cs, vsV, tsV]

theorem Turn_1_ok {f : FuncId} (hf : FnOk P f shapes_Turn_1.c shapes_Turn_1.r shapes_Turn_1.n) {v : V3} (h : v.valid = true) : CallIs P f [v.enc] (turn1 v).enc := by
  have := V3.valid_iff.1 h
  refine PureC.is (pure_of hm hf (Nat.le_of_ble_eq_true rfl) ?_) rfl
  unfold shapes_Turn_1.c
  simp (disch := omega) [go_sem, V3.enc, V3.cs, shapes_Turn_1.r, turn1, wrap64_small]
theorem Turn_2_ok {f : FuncId} (hf : FnOk P f shapes_Turn_2.c shapes_Turn_2.r shapes_Turn_2.n) (v : V3) : CallIs P f [v.enc] v.enc := by
  refine PureC.is (pure_of hm hf (Nat.le_of_ble_eq_true rfl) ?_) rfl
  unfold shapes_Turn_2.c
  simp [go_sem, V3.enc, V3.cs, shapes_Turn_2.r]

theorem Move_1_ok {f fp : FuncId} (hf : FnOk P f (shapes_Move_1.c fp) shapes_Move_1.r shapes_Move_1.n) (hp : PlusC P fp) (v d : V3) {h : List O} {id : Nat} (ho : h[id]? = some (.arr 1 3 [d.cs])) :
    ACall P f [v.enc, .p id 1 0 0] h (fun r h' => r = (v.plus d).enc ∧ h' = h) := by
  have hlt : id < h.length := (List.getElem?_eq_some_iff.1 ho).1
  have hap : ∀ l : List O, (h ++ l)[id]? = some (.arr 1 3 [d.cs]) := fun l => by rw [List.getElem?_append_left hlt]; exact ho
  refine ACall_closed fun hcl => ?_
  refine call_intro hm hf (Nat.le_of_ble_eq_true rfl) ?_
  unfold shapes_Move_1.c
  simp [go_sem, V3.enc, vcs, app_get_r, app_get_0, app_set_r, app_set_0, hap]
  refine ACall_is (hp v d) ?_
  simp [go_sem, V3.enc, vcs, app_get_r, app_get_0, app_set_r, app_set_0, hap]
  refine ⟨[(v.plus d).enc], by simp [shapes_Move_1.r, go_sem, app_get_r, V3.enc, vcs], by simp [V3.enc], h, by simp [V3.enc, vcs, V.cl, V.cl1, V.cl0], Nat.le_refl _, by omega, ?_, rfl, rfl⟩
  have := WeakH_app (n := h.length) (a := [.arr 1 3 [v.cs], .arr 1 3 [(v.plus d).cs]]) (b := []) (hcl h.length (Nat.le_refl _)) trivial
  rw [List.append_nil] at this
  exact this

set_option maxHeartbeats 4000000 in
theorem shapes_Move_ok {f fk fn f1 fch fck : FuncId} (hf : FnOk P f (shapes_Move.c fk fn f1 fch fck) shapes_Move.r shapes_Move.n) (hk : CheckC P fk) (hnear : NearC P fn)
    {fcv fct fp : FuncId} (hfch : FnOk P fch (shapes_change.c fcv fct) shapes_change.r shapes_change.n) (hcv : CloneC P fcv 3) (hct : CloneC P fct 3) (hf1 : FnOk P f1 (shapes_Move_1.c fp) shapes_Move_1.r shapes_Move_1.n) (hcal : callable P f1 = true) (hp : PlusC P fp) (hck : CheckedC P fck) : MoveC P f := by
  intro m d hd
  by_cases h1 : m.check = 0
  case neg =>
    have : moveV m d = mesV noMesh 1 := by simp [moveV, h1]
    rw [this]
    refine CallIs.res (r := .t [.a [.nil, .nil], .i .i64 1]) ?_ (noMesh_le 1)
    refine PureC.is (pure_of hm hf (Nat.le_of_ble_eq_true rfl) ?_) rfl
    unfold shapes_Move.c
    simp [go_sem, Mesh.enc, Mesh.cs, V3.enc, V3.cs]
    refine ACall_is (hk m) ?_
    simp [go_sem, h1, shapes_Move.r]
  obtain ⟨z1, z2, z3, z4⟩ := Mesh.check_zero.1 h1
  by_cases h2 : 0 < m.verts.length ∧ d.within 131072 = false
  · have : moveV m d = mesV noMesh 8 := by
      have : vsOk (m.verts.map (·.add d)) = false := by
        cases hvs : m.verts with
        | nil => rw [hvs] at h2; simp at h2
        | cons v r =>
          rw [Bool.eq_false_iff]
          intro h3
          simp only [vsOk, List.map_cons, List.all_cons, Bool.and_eq_true] at h3
          have hv : v.valid = true := vsOk_get z3 (k := 0) (by rw [hvs]; rfl)
          have := within_of_add hv h3.1
          rw [this] at h2; simp at h2
      simp [moveV, h1, this]
    rw [this]
    refine CallIs.res (r := .t [.a [.nil, .nil], .i .i64 8]) ?_ (noMesh_le 8)
    refine PureC.is (pure_of hm hf (Nat.le_of_ble_eq_true rfl) ?_) rfl
    unfold shapes_Move.c
    simp [go_sem, Mesh.enc, Mesh.cs, V3.enc, V3.cs]
    refine ACall_is (hk m) ?_
    simp [go_sem, h1, vsV, h2.1]
    refine ACall_is (hnear d) ?_
    simp [go_sem, h2.2, shapes_Move.r]
  have hg : ∀ v ∈ m.verts, v.plus d = v.add d := by
    intro v hv
    have hne : 0 < m.verts.length := List.length_pos_of_mem hv
    have hw : d.within 131072 = true := by
      cases hd2 : d.within 131072
      · exact absurd ⟨hne, hd2⟩ h2
      · rfl
    obtain ⟨i, hi⟩ := List.getElem?_of_mem hv
    exact plus_add (vsOk_get z3 hi) hw
  have hmap : m.verts.map (fun v => v.plus d) = m.verts.map (fun v => v.add d) := List.map_congr_left hg
  have hres : moveV m d = if vsOk (m.mapV (·.add d)).verts = false then mesV noMesh 8 else mesV (m.mapV (·.add d)) 0 := by
    unfold moveV; rw [if_neg (by simp [h1])]; rfl
  have hexm : ∃ m' e, moveV m d = mesV m' e := by
    rw [hres]; split
    · exact ⟨_, _, rfl⟩
    · exact ⟨_, _, rfl⟩
  have hck' := hck (m.mapV (·.add d)) (by simp [Mesh.mapV]; omega)
  rw [← hres] at hck'
  obtain ⟨m', e, hme⟩ := hexm
  rw [hme] at hck' ⊢
  have hchg := change_own hm (h := [.arr 1 2 [m.cs], .arr 1 3 [d.cs], .arr 1 2 [[.nil, .nil]]]) (T := [1]) (caps := [.p 1 1 0 0]) (g := fun v => v.plus d) hfch m z1 z2 hcv hct hcal (by simp)
    (by intro n hn; simp [V.cl, V.cl1, V.cl0]; simp at hn; omega)
    (by intro n hn o ho; simp at ho; rcases ho with rfl | rfl | rfl <;> simp [O.cl, Mesh.cs, vsV, tsV, vcs, or_imp, forall_and, V.cl, V.cl1, V.cl0])
    (fun v hv h2 hag => Move_1_ok hm hf1 hp v d (by rw [hag 1 (by simp)]; rfl))
  rw [hmap] at hchg
  refine PureC.is (pure_of hm hf (Nat.le_of_ble_eq_true rfl) ?_) rfl
  unfold shapes_Move.c
  simp [go_sem, Mesh.enc, Mesh.cs, V3.enc, V3.cs]
  refine ACall_is (hk m) ?_
  by_cases h3 : 0 < m.verts.length
  case pos =>
    have hw : d.within 131072 = true := by
      cases hd2 : d.within 131072
      · exact absurd ⟨h3, hd2⟩ h2
      · rfl
    simp [go_sem, h1, vsV, h3]
    refine ACall_is (hnear d) ?_
    simp [go_sem, hw]
    refine ACall_to hchg ?_
    simp [go_sem]
    refine ACall_frz (vs := [(m.mapV (·.add d)).enc]) ?_ hck' ?_
    · simp [go_sem, frzAll, frz, frz0, Mesh.mapV, Mesh.enc, Mesh.cs, vsV, tsV, vcs_isD, tcs_isD]
    simp [go_sem, shapes_Move.r, mesV, Mesh.enc, Mesh.cs, vsV, tsV]
  case neg =>
    simp [go_sem, h1, vsV, h3]
    refine ACall_to hchg ?_
    simp [go_sem]
    refine ACall_frz (vs := [(m.mapV (·.add d)).enc]) ?_ hck' ?_
    · simp [go_sem, frzAll, frz, frz0, Mesh.mapV, Mesh.enc, Mesh.cs, vsV, tsV, vcs_isD, tcs_isD]
    simp [go_sem, shapes_Move.r, mesV, Mesh.enc, Mesh.cs, vsV, tsV]
end
end Go.Abs
set_option linter.unusedVariables false
set_option linter.unusedSimpArgs false
namespace Go.Abs

theorem mapV_map (m : Mesh) (f g : V3 → V3) : (m.mapV f).mapV g = m.mapV (fun v => g (f v)) := by simp [Mesh.mapV, Function.comp_def]
theorem mapV_id (m : Mesh) : m.mapV (fun v => v) = m := by simp [Mesh.mapV]

section
variable {P : Program} (hm : P.follows .mixedOrders = true)
include hm

set_option maxHeartbeats 4000000 in
theorem shapes_Turn_ok {f fk fch f1 f2 : FuncId} (hf : FnOk P f (shapes_Turn.c fk fch f1 f2) shapes_Turn.r shapes_Turn.n) (hk : CheckC P fk)
    {fcv fct : FuncId} (hfch : FnOk P fch (shapes_change.c fcv fct) shapes_change.r shapes_change.n) (hcv : CloneC P fcv 3) (hct : CloneC P fct 3)
    (hf1 : FnOk P f1 shapes_Turn_1.c shapes_Turn_1.r shapes_Turn_1.n) (hc1 : callable P f1 = true) (hf2 : FnOk P f2 shapes_Turn_2.c shapes_Turn_2.r shapes_Turn_2.n) (hc2 : callable P f2 = true) : TurnC P f := by
  intro m n hn
  have hn' := inI_iff.1 hn
  by_cases h1 : m.check = 0
  case neg =>
    have : turnV m n = mesV noMesh 1 := by simp [turnV, h1]
    rw [this]
    refine CallIs.res (r := .t [.a [.nil, .nil], .i .i64 1]) ?_ (noMesh_le 1)
    refine PureC.is (pure_of hm hf (Nat.le_of_ble_eq_true rfl) ?_) rfl
    unfold shapes_Turn.c
    simp [go_sem, Mesh.enc, Mesh.cs]
    refine ACall_is (hk m) ?_
    simp [go_sem, h1, shapes_Turn.r]
  obtain ⟨z1, z2, z3, z4⟩ := Mesh.check_zero.1 h1
  obtain ⟨hq, hq4⟩ := quarter_lt n
  have hres : turnV m n = mesV (m.mapV (turnK (quarter n))) 0 := by simp [turnV, h1]
  rw [hres]
  have hb := Int.tmod_lt_of_pos n (show (0 : Int) < 4 by omega)
  have hb2 : -4 < n.tmod 4 := by
    have h3 := Int.tmod_lt_of_pos (-n) (show (0 : Int) < 4 by omega)
    rw [Int.neg_tmod] at h3
    omega
  refine PureC.is (pure_of hm hf (Nat.le_of_ble_eq_true rfl) ?_) rfl
  unfold shapes_Turn.c
  simp [go_sem, Mesh.enc, Mesh.cs]
  refine ACall_is (hk m) ?_
  simp (disch := omega) [go_sem, h1, wrap64_small, hq]
  refine AS_loop (α := Nat) (fun k => k ≤ quarter n)
    (fun k => ⟨[(2, .p 0 1 0 0), (4, .p 1 1 0 0), (13, .i .i64 (quarter n)), (14, .i .i64 k)], [.arr 1 2 [(m.mapV (turnK k)).cs], .arr 1 2 [[.nil, .nil]]]⟩)
    (fun k => quarter n - k) 0 (Nat.zero_le _) ?_ ?_
  · simp [go_sem, Mesh.cs, Mesh.mapV, turnK, vsV, tsV]
  · intro k hk'
    have hval : ∀ v ∈ (m.mapV (turnK k)).verts, v.valid = true := by
      intro v hv
      simp only [Mesh.mapV, List.mem_map] at hv
      obtain ⟨u, hu, rfl⟩ := hv
      obtain ⟨i, hi⟩ := List.getElem?_of_mem hu
      exact turnK_valid (vsOk_get z3 hi) k
    have e1 : (m.mapV (turnK k)).verts.length ≤ 4096 := by simp [Mesh.mapV]; omega
    have e2 : (m.mapV (turnK k)).tris.length ≤ 4096 := z2
    by_cases hkq : k = quarter n
    · subst hkq
      have hc := change_val hm (g := fun v => v) hfch (m.mapV (turnK (quarter n))) e1 e2 hcv hct hc2 (fun v hv => Turn_2_ok hm hf2 v)
      rw [mapV_id] at hc
      simp [go_sem, Mesh.cs]
      refine ACall_is hc ?_
      simp [go_sem, Mesh.enc, Mesh.cs, shapes_Turn.r, mesV, vsV, tsV]
    · have hc := change_val hm (g := turn1) hfch (m.mapV (turnK k)) e1 e2 hcv hct hc1 (fun v hv => Turn_1_ok hm hf1 (hval v hv))
      rw [mapV_map] at hc
      have hlt : k < quarter n := by omega
      simp [go_sem, Mesh.cs, hlt]
      refine ACall_is hc ?_
      simp (disch := omega) [go_sem, Mesh.enc, Mesh.cs, wrap64_small]
      refine ⟨k + 1, by omega, by omega, by omega, ?_⟩
      simp [Mesh.mapV, turnK, vsV, tsV, Function.comp_def, V.cl, V.cl1, V.cl0]

end
end Go.Abs
set_option linter.unusedVariables false
set_option linter.unusedSimpArgs false
namespace Go.Abs

def HeavyC (P : Program) (f : FuncId) : Prop := ∀ m : Mesh, CallIs P f [m.enc] (.b (decide (150 < m.verts.length) || decide (150 < m.tris.length)))
section
variable {P : Program} (hm : P.follows .mixedOrders = true)
include hm

theorem law13_heavy_ok {f : FuncId} (hf : FnOk P f law13_heavy.c law13_heavy.r law13_heavy.n) : HeavyC P f := by
  intro m
  refine PureC.is (pure_of hm hf (Nat.le_of_ble_eq_true rfl) ?_) rfl
  unfold law13_heavy.c
  by_cases h1 : 150 < m.verts.length
  · have h2 : (150 : Int) < m.verts.length := by omega
    simp [go_sem, Mesh.enc, Mesh.cs, vsV, tsV, law13_heavy.r, h1, h2]
  · have h2 : ¬ (150 : Int) < m.verts.length := by omega
    simp [go_sem, Mesh.enc, Mesh.cs, vsV, tsV, law13_heavy.r, h1, h2]
    omega

end
end Go.Abs
set_option linter.unusedVariables false
set_option linter.unusedSimpArgs false
namespace Go.Abs

def mir (v : V3) : V3 := ⟨-v.x, v.y, v.z⟩
def mirV (m : Mesh) : V := if m.check ≠ 0 then mesV noMesh 1 else mesV (m.rev.mapV mir) 0
def MirrorC (P : Program) (f : FuncId) : Prop := ∀ m : Mesh, CallIs P f [m.enc] (mirV m)
section
variable {P : Program} (hm : P.follows .mixedOrders = true)
include hm

theorem Mirror_1_ok {f : FuncId} (hf : FnOk P f shapes_Mirror_1.c shapes_Mirror_1.r shapes_Mirror_1.n) {v : V3} (h : v.valid = true) : CallIs P f [v.enc] (mir v).enc := by
  have := V3.valid_iff.1 h
  refine PureC.is (pure_of hm hf (Nat.le_of_ble_eq_true rfl) ?_) rfl
  unfold shapes_Mirror_1.c
  simp (disch := omega) [go_sem, V3.enc, V3.cs, shapes_Mirror_1.r, mir, wrap64_small]

set_option maxHeartbeats 4000000 in
theorem shapes_Mirror_ok {f fk frv fch f1 : FuncId} (hf : FnOk P f (shapes_Mirror.c fk frv fch f1) shapes_Mirror.r shapes_Mirror.n) (hk : CheckC P fk) (hrv : ReverseC P frv)
    {fcv fct : FuncId} (hfch : FnOk P fch (shapes_change.c fcv fct) shapes_change.r shapes_change.n) (hcv : CloneC P fcv 3) (hct : CloneC P fct 3)
    (hf1 : FnOk P f1 shapes_Mirror_1.c shapes_Mirror_1.r shapes_Mirror_1.n) (hc1 : callable P f1 = true) : MirrorC P f := by
  intro m
  by_cases h1 : m.check = 0
  case neg =>
    have : mirV m = mesV noMesh 1 := by simp [mirV, h1]
    rw [this]
    refine CallIs.res (r := .t [.a [.nil, .nil], .i .i64 1]) ?_ (noMesh_le 1)
    refine PureC.is (pure_of hm hf (Nat.le_of_ble_eq_true rfl) ?_) rfl
    unfold shapes_Mirror.c
    simp [go_sem, Mesh.enc, Mesh.cs]
    refine ACall_is (hk m) ?_
    simp [go_sem, h1, shapes_Mirror.r]
  obtain ⟨z1, z2, z3, z4⟩ := Mesh.check_zero.1 h1
  have hres : mirV m = mesV (m.rev.mapV mir) 0 := by simp [mirV, h1]
  rw [hres]
  have hval : ∀ v ∈ m.rev.verts, v.valid = true := by
    intro v hv
    obtain ⟨i, hi⟩ := List.getElem?_of_mem hv
    exact vsOk_get z3 hi
  have hc := change_val hm (g := mir) hfch m.rev z1 (by simpa [Mesh.rev] using z2) hcv hct hc1 (fun v hv => Mirror_1_ok hm hf1 (hval v hv))
  refine PureC.is (pure_of hm hf (Nat.le_of_ble_eq_true rfl) ?_) rfl
  unfold shapes_Mirror.c
  simp [go_sem, Mesh.enc, Mesh.cs]
  refine ACall_is (hk m) ?_
  simp [go_sem, h1]
  refine ACall_is (hrv m h1) ?_
  simp [go_sem]
  refine ACall_is hc ?_
  simp [go_sem, shapes_Mirror.r, mesV, Mesh.enc, Mesh.cs, vsV, tsV]

end
end Go.Abs
