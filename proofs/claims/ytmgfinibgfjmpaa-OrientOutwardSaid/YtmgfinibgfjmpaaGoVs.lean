/- Part of the library on which the proof stands: an abstract machine, its values and its soundness against the model; or what functions of the program do to such values. -/
import Derived.Test.YtmgfinibgfjmpaaGoQa
import Derived.Test.YtmgfinibgfjmpaaGoRv
import Derived.Test.YtmgfinibgfjmpaaGoClone
import Derived.Test.YtmgfinibgfjmpaaGoMap
import Derived.Test.YtmgfinibgfjmpaaGoOriD
set_option linter.unusedVariables false
set_option linter.unusedSimpArgs false
namespace Go.Abs

theorem partOf_succ {ts : List T3} {sh : List Int} {j : Nat} {v : Int} (h : sh[j]? = some v) : partOf ts (sh.take (j + 1)) = partOf ts (sh.take j) ++ [tAt ts v.toNat] := by
  unfold partOf; rw [take_succ_get h, List.map_append]; rfl
theorem partOf_len (ts : List T3) (sh : List Int) : (partOf ts sh).length = sh.length := by simp [partOf]

section
variable {P : Program} (hm : P.follows .mixedOrders = true)
include hm

set_option maxRecDepth 20000 in
set_option maxHeartbeats 8000000 in
theorem orient_Outward_ok {f fc fl fh fcv fct fs fv fr : FuncId} (hf : FnOk P f (orient_Outward.c fc fl fh fcv fct fs fv fr) orient_Outward.r orient_Outward.n) (hc : CheckC P fc) (hl : ClosedC P fl) (hh : CohC P fh) (hcv : CloneC P fcv 3) (hct : CloneC P fct 3) (hs : ShellsC P fs) (hv : VolC P fv) (hr : RevTC P fr) : OutwardC P f := by
  intro m
  by_cases hz : m.check = 0
  case neg =>
    have hR : outR m = (⟨[], []⟩, 0, m.check) := by unfold outR; rw [if_pos hz]
    rw [hR]
    refine CallIs.res ?_ (mieV_no _)
    refine PureC.is (pure_of hm hf (Nat.le_of_ble_eq_true rfl) ?_) rfl
    unfold orient_Outward.c
    simp [go_sem, Mesh.enc, Mesh.cs]
    refine ACall_is (hc m) ?_
    simp [go_sem, hz, orient_Outward.r]
  have hl1 := hl m
  by_cases hcl : m.closed = false
  case pos =>
    have hR : outR m = (⟨[], []⟩, 0, 12) := by unfold outR; rw [if_neg (by simpa using hz), if_pos hcl]
    rw [hR]
    rw [hcl] at hl1
    refine CallIs.res ?_ (mieV_no _)
    refine PureC.is (pure_of hm hf (Nat.le_of_ble_eq_true rfl) ?_) rfl
    unfold orient_Outward.c
    simp [go_sem, Mesh.enc, Mesh.cs]
    refine ACall_is (hc m) ?_
    simp [go_sem, hz]
    refine ACall_is hl1 ?_
    simp [go_sem, orient_Outward.r]
  have hcl' : m.closed = true := by simpa using hcl
  obtain ⟨z1, z2, z3, z4⟩ := Mesh.check_zero.1 hz
  have hh1 := hh m.tris (by omega)
  rw [hcl'] at hl1
  by_cases hco : cohB m.tris = false
  case pos =>
    have hR : outR m = (⟨[], []⟩, 0, 13) := by unfold outR; rw [if_neg (by simpa using hz), if_neg hcl, if_pos hco]
    rw [hR]
    rw [hco] at hh1
    refine CallIs.res ?_ (mieV_no _)
    refine PureC.is (pure_of hm hf (Nat.le_of_ble_eq_true rfl) ?_) rfl
    unfold orient_Outward.c
    simp [go_sem, Mesh.enc, Mesh.cs]
    refine ACall_is (hc m) ?_
    simp [go_sem, hz]
    refine ACall_is hl1 ?_
    simp [go_sem]
    refine ACall_is hh1 ?_
    simp [go_sem, orient_Outward.r]
  have hco' : cohB m.tris = true := by simpa using hco
  rw [hco'] at hh1
  have hR : outR m = (⟨m.verts, flp m.tris (negsOf m.verts m.tris m.shells).flatten⟩, ((negsOf m.verts m.tris m.shells).length : Int), 0) := by unfold outR; rw [if_neg (by simpa using hz), if_neg hcl, if_neg hco]; rfl
  rw [hR]
  have hok := shells_ok hz
  have hs1 := hs m
  generalize m.shells = shs at *
  refine PureC.is (pure_of hm hf (Nat.le_of_ble_eq_true rfl) ?_) rfl
  unfold orient_Outward.c
  simp [go_sem, Mesh.enc, Mesh.cs, vsV, tsV]
  refine ACall_is (hc m) ?_
  simp [go_sem, hz]
  refine ACall_is hl1 ?_
  simp [go_sem]
  refine ACall_is hh1 ?_
  simp [go_sem]
  refine DCall_new (hcv (m.verts.map V3.cs) (by simp [vcs_isD]) (by simp; omega)) (by simp [V.cl, V.cl1, V.cl0]) ?_
  simp [go_sem]
  refine DCall_new (hct (m.tris.map T3.cs) (by simp [tcs_isD]) (by simp; omega)) (by simp [V.cl, V.cl1, V.cl0]) ?_
  have hsv : ∀ (n : Nat) (a : V3), List.map (V.sh1 n) a.cs = a.cs := fun n a => by simp [vcs, V.sh1, V.sh0]
  have hst : ∀ (n : Nat) (a : T3), List.map (V.sh1 n) a.cs = a.cs := fun n a => by simp [tcs, V.sh1, V.sh0]
  simp [go_sem, hsv, hst]
  refine ACall_is hs1 ?_
  simp [go_sem, lsV]
  refine AS_loop (α := Nat) (fun k => k ≤ shs.length)
    (fun k => ⟨[(1, .p 0 1 0 0), (2, .p 1 1 0 0), (6, .p 4 1 0 0), (7, .i .i64 (negsOf m.verts m.tris (shs.take k)).length), (41, lsV shs), (42, .i .i64 shs.length), (43, .i .i64 k)],
      [.arr 1 2 [m.cs], .arr 1 2 [[.nil, .nil]], .arr 1 3 (m.verts.map V3.cs), .arr 1 3 ((flp m.tris (negsOf m.verts m.tris (shs.take k)).flatten).map T3.cs), .arr 1 2 [[.own 2 1 0 m.verts.length, .own 3 1 0 m.tris.length]]]⟩)
    (fun k => shs.length - k) 0 (Nat.zero_le _) ?_ ?_
  · simp [go_sem, lsV, negsOf, flp_nil, Mesh.cs, vsV, tsV, v3_cl, t3c_cl, hsv, hst]
  · intro k hk
    by_cases hkl : k = shs.length
    · subst hkl
      rw [List.take_length]
      have hfl := flp_len m.tris (negsOf m.verts m.tris shs).flatten
      generalize flp m.tris (negsOf m.verts m.tris shs).flatten = T at *
      have htk : List.take m.tris.length (T.map T3.cs) = T.map T3.cs := List.take_of_length_le (by simp; omega)
      simp [go_sem, lsV, orient_Outward.r, mieV, Mesh.enc, Mesh.cs, vsV, tsV, vcs_isD, tcs_isD, htk, hfl]
    · have hlt : k < shs.length := by omega
      have hp : shs[k]? = some shs[k] := List.getElem?_eq_getElem hlt
      have hmw : shs[k] ∈ shs := List.getElem_mem _
      have htk := take_succ_get hp
      generalize shs[k] = sh at hp hmw htk
      obtain ⟨_, hp'⟩ := List.getElem?_eq_some_iff.1 hp
      have hshl := hok.len sh hmw
      have hshm := hok.mem sh hmw
      have hnl := negsOf_len m.verts m.tris (shs.take k)
      have hnl2 : (shs.take k).length = k := by rw [List.length_take]; omega
      have hnum := hok.num
      have hsn := negsOf_snoc m.verts m.tris (shs.take k) sh
      rw [← htk] at hsn
      generalize hN : negsOf m.verts m.tris (shs.take k) = N at *
      have hfl := flp_len m.tris N.flatten
      simp [go_sem, lsV, hlt, hp, hp', Mesh.cs, vsV, tsV, isV]
      have hmcs : m.cs = [vsV m.verts, .l 3 (m.tris.map T3.cs)] := rfl
      refine AS_loopG [.c 5 0 1 3] (α := Nat) (fun j => j ≤ sh.length)
        (fun j => ⟨[(1, .p 0 1 0 0), (2, .p 1 1 0 0), (6, .p 4 1 0 0), (7, .i .i64 N.length), (9, isV sh), (10, .p 5 1 0 0), (41, lsV shs), (42, .i .i64 shs.length), (43, .i .i64 k), (50, isV sh), (51, .i .i64 sh.length), (52, .i .i64 j)],
          [.arr 1 2 [m.cs], .arr 1 2 [[.nil, .nil]], .arr 1 3 (m.verts.map V3.cs), .arr 1 3 ((flp m.tris N.flatten).map T3.cs), .arr 1 2 [[.own 2 1 0 m.verts.length, .own 3 1 0 m.tris.length]],
            .arr 1 2 [[vsV m.verts, .own 6 (j + 1) 0 j]], .arr (j + 1) 3 ((partOf m.tris (sh.take j)).map T3.cs)]⟩)
        (fun j => sh.length - j) 0 (Nat.zero_le _) ?_ ?_
      · simp [go_sem, lsV, isV, partOf, Mesh.cs, vsV, tsV, v3_cl, t3c_cl]
      · intro j hj
        by_cases hjl : j = sh.length
        · subst hjl
          rw [List.take_length]
          have hpl := partOf_len m.tris sh
          have hvol := hv ⟨m.verts, partOf m.tris sh⟩
          have hve : (Mesh.mk m.verts (partOf m.tris sh)).vol6 = volL m.verts (partOf m.tris sh) := by unfold Mesh.vol6; rw [if_pos (part_check hz hshl hshm)]
          rw [hve] at hvol
          generalize partOf m.tris sh = PT at *
          have htkp : List.take sh.length (PT.map T3.cs) = PT.map T3.cs := List.take_of_length_le (by simp; omega)
          simp [go_sem, lsV, isV]
          refine ACall_frz (vs := [(Mesh.mk m.verts PT).enc]) ?_ hvol ?_
          · simp [go_sem, frzAll, frz, frz0, Mesh.enc, Mesh.cs, vsV, tsV, tcs_isD, htkp, hpl]
          · by_cases hneg : volL m.verts PT < 0
            · rw [if_pos hneg] at hsn
              simp (disch := omega) [go_sem, vsV, tsV, show ¬ (0 ≤ volL m.verts PT) by omega, wrap64_small]
              refine AS_loop (α := Nat) (fun j => j ≤ sh.length)
                (fun j => ⟨[(1, .p 0 1 0 0), (2, .p 1 1 0 0), (6, .p 4 1 0 0), (7, .i .i64 (N.length + 1 : Nat)), (41, lsV shs), (42, .i .i64 shs.length), (43, .i .i64 k), (72, isV sh), (73, .i .i64 sh.length), (74, .i .i64 j)],
                  [.arr 1 2 [m.cs], .arr 1 2 [[.nil, .nil]], .arr 1 3 (m.verts.map V3.cs), .arr 1 3 ((flp m.tris (N.flatten ++ sh.take j)).map T3.cs), .arr 1 2 [[.own 2 1 0 m.verts.length, .own 3 1 0 m.tris.length]]]⟩)
                (fun j => sh.length - j) 0 (Nat.zero_le _) ?_ ?_
              · simp [go_sem, lsV, isV, Mesh.cs, vsV, tsV, v3_cl, t3c_cl]
              · intro j hj
                by_cases hjl : j = sh.length
                · subst hjl
                  rw [List.take_length]
                  simp (disch := omega) [go_sem, lsV, isV, wrap64_small]
                  refine ⟨k + 1, by omega, by omega, ?_⟩
                  rw [hsn]
                  simp [go_sem, Mesh.cs, vsV, tsV, v3_cl, t3c_cl]
                · have hjlt : j < sh.length := by omega
                  have hq : sh[j]? = some sh[j] := List.getElem?_eq_getElem hjlt
                  have hqm : sh[j] ∈ sh := List.getElem_mem _
                  have htj := take_succ_get hq
                  generalize sh[j] = v at hq hqm htj
                  obtain ⟨_, hq'⟩ := List.getElem?_eq_some_iff.1 hq
                  obtain ⟨v0, v1⟩ := hshm v hqm
                  have v2 : v.toNat < m.tris.length := by omega
                  have ht := tAt_get v2
                  have hset := flp_set (ts := m.tris) (F := N.flatten ++ sh.take j) v2
                  rw [Int.toNat_of_nonneg v0, List.append_assoc, ← htj] at hset
                  have hfl2 := flp_len m.tris (N.flatten ++ sh.take j)
                  generalize tAt m.tris v.toNat = t at ht hset
                  obtain ⟨_, ht'⟩ := List.getElem?_eq_some_iff.1 ht
                  generalize hF : flp m.tris (N.flatten ++ sh.take j) = FT at *
                  have hFi : v.toNat < FT.length := by omega
                  have hFg : FT[v.toNat]? = some FT[v.toNat] := List.getElem?_eq_getElem hFi
                  generalize FT[v.toNat] = t2 at hFg
                  obtain ⟨_, hFg'⟩ := List.getElem?_eq_some_iff.1 hFg
                  have hr1 := hr t
                  simp [go_sem, T3.enc, tcs] at hr1
                  simp (disch := omega) [go_sem, lsV, isV, Mesh.cs, vsV, tsV, hjlt, hq, hq', v0, v1, v2, ht, ht', hFi, hFg, hFg', tcs, wrap64_small]
                  refine DCall_is hr1 ?_
                  simp (disch := omega) [go_sem, lsV, isV, Mesh.cs, vsV, tsV, hjlt, hq, hq', v0, v1, v2, ht, ht', hFi, hFg, hFg', tcs, wrap64_small]
                  refine ⟨j + 1, by omega, by omega, ?_⟩
                  exact ⟨by omega, by rw [← hset, List.map_set]; rfl⟩
            · rw [if_neg hneg, List.append_nil] at hsn
              simp (disch := omega) [go_sem, vsV, tsV, show 0 ≤ volL m.verts PT by omega, wrap64_small]
              refine ⟨k + 1, by omega, by omega, ?_⟩
              rw [hsn]
              simp [go_sem, lsV, Mesh.cs, vsV, tsV, v3_cl, t3c_cl]
        · have hjlt : j < sh.length := by omega
          have hq : sh[j]? = some sh[j] := List.getElem?_eq_getElem hjlt
          have hqm : sh[j] ∈ sh := List.getElem_mem _
          have hpj := fun v (h : sh[j]? = some v) => partOf_succ (ts := m.tris) h
          generalize sh[j] = v at hq hqm
          have hpj := hpj v hq
          obtain ⟨_, hq'⟩ := List.getElem?_eq_some_iff.1 hq
          obtain ⟨v0, v1⟩ := hshm v hqm
          have v2 : v.toNat < m.tris.length := by omega
          have ht := tAt_get v2
          have hpl := partOf_len m.tris (sh.take j)
          rw [List.length_take, Nat.min_eq_left (by omega)] at hpl
          generalize tAt m.tris v.toNat = t at ht hpj
          obtain ⟨_, ht'⟩ := List.getElem?_eq_some_iff.1 ht
          generalize hPT : partOf m.tris (sh.take j) = PT at *
          have htkp : List.take j (PT.map T3.cs) = PT.map T3.cs := List.take_of_length_le (by simp; omega)
          simp (disch := omega) [go_sem, lsV, isV, Mesh.cs, vsV, tsV, hjlt, hq, hq', v0, v1, v2, ht, ht', tcs, htkp, hpl, wrap64_small]
          refine ⟨⟨by omega, by omega⟩, j + 1, by omega, by omega, ?_⟩
          rw [hpj]
          exact ⟨by omega, rfl, by rw [List.map_append]; rfl⟩
end
end Go.Abs
set_option linter.unusedVariables false
set_option linter.unusedSimpArgs false
namespace Go.Abs

def PartC (P : Program) (f : FuncId) : Prop := ∀ (m : Mesh) (sh : List Int), sh.length ≤ 4096 → (∀ v ∈ sh, 0 ≤ v ∧ v < m.tris.length) → CallIs P f [m.enc, isV sh] (Mesh.mk m.verts (partOf m.tris sh)).enc

theorem app_new {A sh : List Int} (h : (A ++ sh).Nodup) {j : Nat} {v : Int} (hv : sh[j]? = some v) : v ∉ A ++ sh.take j := by
  intro hm
  have hlt := (List.getElem?_eq_some_iff.1 hv).1
  have h1 := List.take_append_drop j sh
  rw [List.drop_eq_getElem_cons hlt, (List.getElem?_eq_some_iff.1 hv).2] at h1
  rw [← h1, ← List.append_assoc] at h
  exact (List.nodup_append.1 h).2.2 v hm v (by simp) rfl

section
variable {P : Program} (hm : P.follows .mixedOrders = true)
include hm

set_option maxHeartbeats 4000000 in
theorem ref11_part_ok {f : FuncId} (hf : FnOk P f ref11_part.c ref11_part.r ref11_part.n) : PartC P f := by
  intro m sh hshl hshm
  refine PureC.is (pure_of hm hf (Nat.le_of_ble_eq_true rfl) ?_) rfl
  unfold ref11_part.c
  simp [go_sem, Mesh.enc, Mesh.cs, vsV, tsV, isV]
  refine AS_loopG [.c 2 0 1 3] (α := Nat) (fun j => j ≤ sh.length)
    (fun j => ⟨[(1, isV sh), (2, .p 0 1 0 0), (4, .p 1 1 0 0), (5, .p 2 1 0 0), (6, .i .i64 j)],
      [.arr 1 2 [m.cs], .arr 1 2 [[.nil, .nil]], .arr 1 2 [[vsV m.verts, .own 3 (j + 1) 0 j]], .arr (j + 1) 3 ((partOf m.tris (sh.take j)).map T3.cs)]⟩)
    (fun j => sh.length - j) 0 (Nat.zero_le _) ?_ ?_
  · simp [go_sem, isV, partOf, Mesh.cs, vsV, tsV]
  · intro j hj
    by_cases hjl : j = sh.length
    · subst hjl
      rw [List.take_length]
      have hpl := partOf_len m.tris sh
      generalize partOf m.tris sh = PT at *
      have htkp : List.take sh.length (PT.map T3.cs) = PT.map T3.cs := List.take_of_length_le (by simp; omega)
      simp [go_sem, isV, ref11_part.r, Mesh.enc, Mesh.cs, vsV, tsV, tcs_isD, vcs_isD, htkp, hpl]
    · have hjlt : j < sh.length := by omega
      have hq : sh[j]? = some sh[j] := List.getElem?_eq_getElem hjlt
      have hqm : sh[j] ∈ sh := List.getElem_mem _
      have hpj := fun v (h : sh[j]? = some v) => partOf_succ (ts := m.tris) h
      generalize sh[j] = v at hq hqm
      have hpj := hpj v hq
      obtain ⟨_, hq'⟩ := List.getElem?_eq_some_iff.1 hq
      obtain ⟨v0, v1⟩ := hshm v hqm
      have v2 : v.toNat < m.tris.length := by omega
      have ht := tAt_get v2
      have hpl := partOf_len m.tris (sh.take j)
      rw [List.length_take, Nat.min_eq_left (by omega)] at hpl
      generalize tAt m.tris v.toNat = t at ht hpj
      obtain ⟨_, ht'⟩ := List.getElem?_eq_some_iff.1 ht
      generalize hPT : partOf m.tris (sh.take j) = PT at *
      have htkp : List.take j (PT.map T3.cs) = PT.map T3.cs := List.take_of_length_le (by simp; omega)
      simp (disch := omega) [go_sem, isV, Mesh.cs, vsV, tsV, hjlt, hq, hq', v0, v1, v2, ht, ht', tcs, htkp, hpl, wrap64_small]
      refine ⟨⟨by omega, by omega⟩, j + 1, by omega, by omega, ?_⟩
      rw [hpj]
      exact ⟨by omega, rfl, by rw [List.map_append]; rfl⟩

set_option maxRecDepth 20000 in
set_option maxHeartbeats 8000000 in
theorem ref11_Outward_ok {f fc fl fh fs fp fv fr : FuncId} (hf : FnOk P f (ref11_Outward.c fc fl fh fs fp fv fr) ref11_Outward.r ref11_Outward.n) (hc : CheckC P fc) (hl : ClosedC P fl) (hh : CohC P fh) (hs : ShellsC P fs) (hp : PartC P fp) (hv : VolC P fv) (hr : RevTC P fr) : OutwardC P f := by
  intro m
  by_cases hz : m.check = 0
  case neg =>
    have hR : outR m = (⟨[], []⟩, 0, m.check) := by unfold outR; rw [if_pos hz]
    rw [hR]
    refine CallIs.res ?_ (mieV_no _)
    refine PureC.is (pure_of hm hf (Nat.le_of_ble_eq_true rfl) ?_) rfl
    unfold ref11_Outward.c
    simp [go_sem, Mesh.enc, Mesh.cs]
    refine ACall_is (hc m) ?_
    simp [go_sem, hz, ref11_Outward.r]
  have hl1 := hl m
  by_cases hcl : m.closed = false
  case pos =>
    have hR : outR m = (⟨[], []⟩, 0, 12) := by unfold outR; rw [if_neg (by simpa using hz), if_pos hcl]
    rw [hR]
    rw [hcl] at hl1
    refine CallIs.res ?_ (mieV_no _)
    refine PureC.is (pure_of hm hf (Nat.le_of_ble_eq_true rfl) ?_) rfl
    unfold ref11_Outward.c
    simp [go_sem, Mesh.enc, Mesh.cs]
    refine ACall_is (hc m) ?_
    simp [go_sem, hz]
    refine ACall_is hl1 ?_
    simp [go_sem, ref11_Outward.r]
  have hcl' : m.closed = true := by simpa using hcl
  obtain ⟨z1, z2, z3, z4⟩ := Mesh.check_zero.1 hz
  have hh1 := hh m.tris (by omega)
  rw [hcl'] at hl1
  by_cases hco : cohB m.tris = false
  case pos =>
    have hR : outR m = (⟨[], []⟩, 0, 13) := by unfold outR; rw [if_neg (by simpa using hz), if_neg hcl, if_pos hco]
    rw [hR]
    rw [hco] at hh1
    refine CallIs.res ?_ (mieV_no _)
    refine PureC.is (pure_of hm hf (Nat.le_of_ble_eq_true rfl) ?_) rfl
    unfold ref11_Outward.c
    simp [go_sem, Mesh.enc, Mesh.cs]
    refine ACall_is (hc m) ?_
    simp [go_sem, hz]
    refine ACall_is hl1 ?_
    simp [go_sem]
    refine ACall_is hh1 ?_
    simp [go_sem, ref11_Outward.r]
  have hco' : cohB m.tris = true := by simpa using hco
  rw [hco'] at hh1
  have hR : outR m = (⟨m.verts, flp m.tris (negsOf m.verts m.tris m.shells).flatten⟩, ((negsOf m.verts m.tris m.shells).length : Int), 0) := by unfold outR; rw [if_neg (by simpa using hz), if_neg hcl, if_neg hco]; rfl
  rw [hR]
  have hok := shells_ok hz
  have hs1 := hs m
  generalize m.shells = shs at *
  refine PureC.is (pure_of hm hf (Nat.le_of_ble_eq_true rfl) ?_) rfl
  unfold ref11_Outward.c
  simp [go_sem, Mesh.enc, Mesh.cs, vsV, tsV]
  refine ACall_is (hc m) ?_
  simp [go_sem, hz]
  refine ACall_is hl1 ?_
  simp [go_sem]
  refine ACall_is hh1 ?_
  simp [go_sem]
  refine ACall_is hs1 ?_
  simp [go_sem, lsV]
  refine ⟨⟨by omega, by omega⟩, ?_⟩
  refine AS_loop (α := Nat) (fun k => k ≤ shs.length)
    (fun k => ⟨[(1, .p 0 1 0 0), (2, .p 1 1 0 0), (6, lsV shs), (7, .own 2 1 0 m.tris.length), (8, .i .i64 (negsOf m.verts m.tris (shs.take k)).length), (9, .i .i64 k)],
      [.arr 1 2 [m.cs], .arr 1 2 [[.nil, .nil]], .arr 1 3 ((flp m.tris (negsOf m.verts m.tris (shs.take k)).flatten).map T3.cs)]⟩)
    (fun k => shs.length - k) 0 (Nat.zero_le _) ?_ ?_
  · simp [go_sem, lsV, negsOf, flp_nil, Mesh.cs, vsV, tsV, t3c_cl]
  · intro k hk
    by_cases hkl : k = shs.length
    · subst hkl
      rw [List.take_length]
      have hfl := flp_len m.tris (negsOf m.verts m.tris shs).flatten
      generalize flp m.tris (negsOf m.verts m.tris shs).flatten = T at *
      have htk : List.take m.tris.length (T.map T3.cs) = T.map T3.cs := List.take_of_length_le (by simp; omega)
      simp [go_sem, lsV, ref11_Outward.r, mieV, Mesh.enc, Mesh.cs, vsV, tsV, vcs_isD, tcs_isD, htk, hfl]
      exact ⟨by omega, by omega⟩
    · have hlt : k < shs.length := by omega
      have hp0 : shs[k]? = some shs[k] := List.getElem?_eq_getElem hlt
      have hmw : shs[k] ∈ shs := List.getElem_mem _
      have htk := take_succ_get hp0
      generalize shs[k] = sh at hp0 hmw htk
      obtain ⟨_, hp'⟩ := List.getElem?_eq_some_iff.1 hp0
      have hshl := hok.len sh hmw
      have hshm := hok.mem sh hmw
      have hnl := negsOf_len m.verts m.tris (shs.take k)
      have hnl2 : (shs.take k).length = k := by rw [List.length_take]; omega
      have hnum := hok.num
      have hsn := negsOf_snoc m.verts m.tris (shs.take k) sh
      rw [← htk] at hsn
      have hnd := negs_nodup (vs := m.verts) (ts := m.tris) hok.nodup hp0
      generalize hN : negsOf m.verts m.tris (shs.take k) = N at *
      have hfl := flp_len m.tris N.flatten
      have hp1 := hp m sh (by omega) hshm
      have hvol := hv ⟨m.verts, partOf m.tris sh⟩
      have hve : (Mesh.mk m.verts (partOf m.tris sh)).vol6 = volL m.verts (partOf m.tris sh) := by unfold Mesh.vol6; rw [if_pos (part_check hz hshl hshm)]
      rw [hve] at hvol
      have hpl := partOf_len m.tris sh
      generalize partOf m.tris sh = PT at *
      simp [go_sem, lsV, hlt, hp0, hp', Mesh.cs, vsV, tsV]
      refine DCall_is hp1 ?_
      simp [go_sem]
      refine DCall_is hvol ?_
      by_cases hneg : volL m.verts PT < 0
      · rw [if_pos hneg] at hsn
        simp (disch := omega) [go_sem, lsV, vsV, tsV, show ¬ (0 ≤ volL m.verts PT) by omega, wrap64_small]
        refine AS_loop (α := Nat) (fun j => j ≤ sh.length)
          (fun j => ⟨[(1, .p 0 1 0 0), (2, .p 1 1 0 0), (6, lsV shs), (7, .own 2 1 0 m.tris.length), (8, .i .i64 (N.length + 1 : Nat)), (9, .i .i64 k), (10, .i .i64 j)],
            [.arr 1 2 [m.cs], .arr 1 2 [[.nil, .nil]], .arr 1 3 ((flp m.tris (N.flatten ++ sh.take j)).map T3.cs)]⟩)
          (fun j => sh.length - j) 0 (Nat.zero_le _) ?_ ?_
        · simp [go_sem, lsV, isV, Mesh.cs, vsV, tsV, t3c_cl]
        · intro j hj
          by_cases hjl : j = sh.length
          · subst hjl
            rw [List.take_length]
            simp (disch := omega) [go_sem, lsV, isV, hlt, hp0, hp', wrap64_small]
            refine ⟨k + 1, by omega, by omega, ?_⟩
            rw [hsn]
            simp [go_sem, Mesh.cs, vsV, tsV, t3c_cl]
          · have hjlt : j < sh.length := by omega
            have hq : sh[j]? = some sh[j] := List.getElem?_eq_getElem hjlt
            have hqm : sh[j] ∈ sh := List.getElem_mem _
            have htj := take_succ_get hq
            have hnm : sh[j] ∉ N.flatten ++ sh.take j := by
              exact app_new hnd hq
            generalize sh[j] = v at hq hqm htj hnm
            obtain ⟨_, hq'⟩ := List.getElem?_eq_some_iff.1 hq
            obtain ⟨v0, v1⟩ := hshm v hqm
            have v2 : v.toNat < m.tris.length := by omega
            have hset := flp_set (ts := m.tris) (F := N.flatten ++ sh.take j) v2
            have hget := flp_get (ts := m.tris) (F := N.flatten ++ sh.take j) v2
            rw [Int.toNat_of_nonneg v0, List.append_assoc, ← htj] at hset
            rw [Int.toNat_of_nonneg v0, if_neg hnm] at hget
            have hfl2 := flp_len m.tris (N.flatten ++ sh.take j)
            generalize tAt m.tris v.toNat = t at hget hset
            generalize hF : flp m.tris (N.flatten ++ sh.take j) = FT at *
            have hFi : v.toNat < FT.length := by omega
            obtain ⟨_, hget'⟩ := List.getElem?_eq_some_iff.1 hget
            have hr1 := hr t
            simp [go_sem, T3.enc, tcs] at hr1
            simp (disch := omega) [go_sem, lsV, isV, Mesh.cs, vsV, tsV, hlt, hp0, hp', hjlt, hq, hq', v0, v1, v2, hget, hget', hFi, tcs, wrap64_small]
            refine DCall_is hr1 ?_
            simp (disch := omega) [go_sem, lsV, isV, Mesh.cs, vsV, tsV, hlt, hp0, hp', hjlt, hq, hq', v0, v1, v2, hget, hget', hFi, tcs, wrap64_small]
            refine ⟨j + 1, by omega, by omega, ?_⟩
            exact ⟨by omega, by rw [← hset, List.map_set]; rfl⟩
      · rw [if_neg hneg, List.append_nil] at hsn
        simp (disch := omega) [go_sem, lsV, vsV, tsV, show 0 ≤ volL m.verts PT by omega, wrap64_small]
        refine ⟨k + 1, by omega, by omega, ?_⟩
        rw [hsn]
        simp [go_sem, lsV, Mesh.cs, vsV, tsV, t3c_cl]
end
end Go.Abs
set_option linter.unusedVariables false
set_option linter.unusedSimpArgs false
namespace Go.Abs

def SameMC (P : Program) (f : FuncId) : Prop := ∀ m : Mesh, m.verts.length ≤ 1000000 → m.tris.length ≤ 1000000 → CallIs P f [m.enc, m.enc] (.b true)

section
variable {P : Program} (hm : P.follows .mixedOrders = true)
include hm

set_option maxHeartbeats 4000000 in
theorem ref07_Same_ok {f : FuncId} (hf : FnOk P f ref07_Same.c ref07_Same.r ref07_Same.n) : SameMC P f := by
  intro m hl1 hl2
  refine PureC.is (pure_of hm hf (Nat.le_of_ble_eq_true rfl) ?_) rfl
  unfold ref07_Same.c
  simp [go_sem, Mesh.enc, Mesh.cs, vsV, tsV]
  refine AS_loop (α := Nat) (fun k => k ≤ m.verts.length)
    (fun k => ⟨[(2, .p 0 1 0 0), (3, .p 1 1 0 0), (25, .i .i64 m.verts.length), (26, .i .i64 k)], [.arr 1 2 [m.cs], .arr 1 2 [m.cs]]⟩)
    (fun k => m.verts.length - k) 0 (Nat.zero_le _) ?_ ?_
  · simp [go_sem, Mesh.cs, vsV, tsV]
  · intro k hk
    cases hp : m.verts[k]? with
    | none =>
      have : ¬ k < m.verts.length := by simpa using hp
      obtain rfl : k = m.verts.length := by omega
      simp [go_sem, vsV, tsV, Mesh.cs]
      refine AS_loop (α := Nat) (fun k => k ≤ m.tris.length)
        (fun k => ⟨[(2, .p 0 1 0 0), (3, .p 1 1 0 0), (43, .i .i64 m.tris.length), (44, .i .i64 k)], [.arr 1 2 [m.cs], .arr 1 2 [m.cs]]⟩)
        (fun k => m.tris.length - k) 0 (Nat.zero_le _) ?_ ?_
      · simp [go_sem, Mesh.cs, vsV, tsV]
      · intro k hk
        cases hp : m.tris[k]? with
        | none =>
          have : ¬ k < m.tris.length := by simpa using hp
          obtain rfl : k = m.tris.length := by omega
          simp [go_sem, vsV, tsV, Mesh.cs, ref07_Same.r]
        | some p =>
          obtain ⟨hlt, hp'⟩ := List.getElem?_eq_some_iff.1 hp
          simp [go_sem, vsV, tsV, Mesh.cs, hlt, hp', tcs]
          refine ⟨k + 1, by omega, by omega, ?_⟩
          simp (disch := omega) [go_sem, vsV, tsV, Mesh.cs, wrap64_small]
    | some p =>
      obtain ⟨hlt, hp'⟩ := List.getElem?_eq_some_iff.1 hp
      simp [go_sem, vsV, tsV, Mesh.cs, hlt, hp', vcs]
      refine ⟨k + 1, by omega, by omega, ?_⟩
      simp (disch := omega) [go_sem, vsV, tsV, Mesh.cs, wrap64_small]
end
end Go.Abs
set_option linter.unusedVariables false
set_option linter.unusedSimpArgs false
namespace Go.Abs

theorem smallO_len {m : Mesh} (h : m.smallO = true) : m.tris.length ≤ 40 ∧ m.verts.length ≤ 60 := by simpa [Mesh.smallO] using h
theorem outR_len {m : Mesh} (h : m.smallO = true) : (outR m).1.verts.length ≤ 60 ∧ (outR m).1.tris.length ≤ 40 := by
  have hl := smallO_len h
  rcases outR_cases m with ⟨_, h1⟩ | ⟨h1, _⟩
  · rw [h1]; simp
  · rw [h1]
    simp only [Mesh.outw, flp_len]
    omega

section
variable {P : Program} (hm : P.follows .mixedOrders = true)
include hm

theorem OrientOutward_ok {f fs fa fo fr fe : FuncId} (hf : FnOk P f (law11_OrientOutward.c fs fa fo fr fe) law11_OrientOutward.r law11_OrientOutward.n) (hs : SmallOC P fs) (ha : AwakeC P fa) (ho : OutwardC P fo) (hr : OutwardC P fr) (he : SameMC P fe)
    (m : Mesh) : PureC P f [m.enc] (· = .b true) := by
  refine pure_of hm hf (Nat.le_of_ble_eq_true rfl) ?_
  unfold law11_OrientOutward.c
  have hs1 := hs m
  have ho1 := ho m
  have hr1 := hr m
  simp only [Mesh.enc, Mesh.cs] at hs1 ho1 hr1
  simp [go_sem, Mesh.enc, Mesh.cs]
  refine ACall_is hs1 ?_
  cases h : m.smallO
  · simp [go_sem]
    refine ACall_is ha ?_
    simp [go_sem, law11_OrientOutward.r]
  have hwl := outR_len h
  have he1 := he (outR m).1 (by omega) (by omega)
  generalize outR m = r at *
  simp only [Mesh.enc, Mesh.cs] at he1
  simp [go_sem]
  refine ACall_is ho1 ?_
  simp [go_sem, mieV, Mesh.enc, Mesh.cs]
  refine ACall_is hr1 ?_
  simp [go_sem, mieV, Mesh.enc, Mesh.cs]
  refine ACall_is he1 ?_
  simp [go_sem]
  refine ACall_is ha ?_
  simp [go_sem, law11_OrientOutward.r]

set_option maxRecDepth 20000 in
set_option maxHeartbeats 8000000 in
theorem OrientVolumes_ok {f fs fa fo fsh fv fc fe : FuncId} (hf : FnOk P f (law11_OrientVolumes.c fs fa fo fsh fv fc fe) law11_OrientVolumes.r law11_OrientVolumes.n) (hs : SmallOC P fs) (ha : AwakeC P fa) (ho : OutwardC P fo) (hsh : ShellsC P fsh) (hv : VolC P fv) (hc : CoherentC P fc) (he : SameMC P fe)
    (m : Mesh) : PureC P f [m.enc] (· = .b true) := by
  refine pure_of hm hf (Nat.le_of_ble_eq_true rfl) ?_
  unfold law11_OrientVolumes.c
  have hs1 := hs m
  have ho1 := ho m
  simp only [Mesh.enc, Mesh.cs] at hs1 ho1
  simp [go_sem, Mesh.enc, Mesh.cs]
  refine ACall_is hs1 ?_
  cases h : m.smallO
  · simp [go_sem]
    refine ACall_is ha ?_
    simp [go_sem, law11_OrientVolumes.r]
  have hwl := outR_len h
  rcases outR_cases m with ⟨h0, h1⟩ | ⟨h1, hx⟩
  · generalize (outR m).2.2 = e at *
    rw [h1] at ho1
    simp [go_sem]
    refine ACall_is ho1 ?_
    have h0' : (e != 0) = true := by simpa using h0
    simp [go_sem, mieV, Mesh.enc, Mesh.cs, vsV, tsV, h0, h0']
    refine ACall_is ha ?_
    simp [go_sem, law11_OrientVolumes.r]
  rw [h1] at ho1 hwl
  have ho2 := ho m.outw
  rw [outR_again hx] at ho2
  generalize m.outw = x at *
  have hsh1 := hsh x
  have hc1 := hc x
  have hcc : x.coh = true := by unfold Mesh.coh; rw [hx.z, hx.coh]; rfl
  rw [hcc] at hc1
  simp only at hwl
  have he1 := he x (by omega) (by omega)
  have hok := shells_ok hx.z
  have hvol := hx.vol
  generalize x.shells = shs at *
  generalize (m.negs.length : Int) = n at *
  have hmcs : x.cs = [vsV x.verts, tsV x.tris] := rfl
  simp only [Mesh.enc, Mesh.cs] at ho2 hsh1 hc1 he1
  simp [go_sem]
  refine ACall_is ho1 ?_
  simp [go_sem, mieV, Mesh.enc, Mesh.cs]
  refine ACall_is hsh1 ?_
  simp [go_sem, lsV]
  refine AS_loop (α := Nat) (fun k => k ≤ shs.length)
    (fun k => ⟨[(3, .p 1 1 0 0), (5, .i .i64 0), (6, lsV shs), (7, .i .i64 k)], [.dead, .arr 1 2 [x.cs]]⟩)
    (fun k => shs.length - k) 0 (Nat.zero_le _) ?_ ?_
  · simp [go_sem, lsV, Mesh.cs, vsV, tsV]
  · intro k hk
    by_cases hkl : k = shs.length
    · subst hkl
      simp [go_sem, lsV, Mesh.cs]
      refine ACall_is ho2 ?_
      simp [go_sem, mieV, Mesh.enc, Mesh.cs]
      refine ACall_is hc1 ?_
      simp [go_sem]
      refine ACall_is he1 ?_
      simp [go_sem]
      refine ACall_is ha ?_
      simp [go_sem, law11_OrientVolumes.r]
    · have hlt : k < shs.length := by omega
      have hp : shs[k]? = some shs[k] := List.getElem?_eq_getElem hlt
      have hmw : shs[k] ∈ shs := List.getElem_mem _
      generalize shs[k] = sh at hp hmw
      obtain ⟨_, hp'⟩ := List.getElem?_eq_some_iff.1 hp
      have hshl := hok.len sh hmw
      have hshm := hok.mem sh hmw
      have hnum := hok.num
      have hvol1 := hvol sh hmw
      simp [go_sem, lsV, hlt, hp, hp', Mesh.cs, vsV, tsV]
      refine AS_loopG [.c 2 0 1 3] (α := Nat) (fun j => j ≤ sh.length)
        (fun j => ⟨[(3, .p 1 1 0 0), (5, .i .i64 0), (6, lsV shs), (7, .i .i64 k), (8, .p 2 1 0 0), (9, .i .i64 j)],
          [.dead, .arr 1 2 [x.cs], .arr 1 2 [[vsV x.verts, .own 3 (j + 1) 0 j]], .arr (j + 1) 3 ((partOf x.tris (sh.take j)).map T3.cs)]⟩)
        (fun j => sh.length - j) 0 (Nat.zero_le _) ?_ ?_
      · simp [go_sem, lsV, partOf, Mesh.cs, vsV, tsV]
      · intro j hj
        by_cases hjl : j = sh.length
        · subst hjl
          rw [List.take_length]
          have hpl := partOf_len x.tris sh
          have hvv := hv ⟨x.verts, partOf x.tris sh⟩
          have hve : (Mesh.mk x.verts (partOf x.tris sh)).vol6 = volL x.verts (partOf x.tris sh) := by unfold Mesh.vol6; rw [if_pos (part_check hx.z hshl hshm)]
          rw [hve] at hvv
          generalize partOf x.tris sh = PT at *
          have htkp : List.take sh.length (PT.map T3.cs) = PT.map T3.cs := List.take_of_length_le (by simp; omega)
          simp [go_sem, lsV, isV, hlt, hp, hp']
          refine ACall_frz (vs := [(Mesh.mk x.verts PT).enc]) ?_ hvv ?_
          · simp [go_sem, frzAll, frz, frz0, Mesh.enc, Mesh.cs, vsV, tsV, tcs_isD, htkp, hpl]
          · simp (disch := omega) [go_sem, vsV, tsV, show ¬ (volL x.verts PT < 0) by omega, wrap64_small]
            exact ⟨k + 1, by omega, by omega, by simp [go_sem, lsV, Mesh.cs, vsV, tsV]⟩
        · have hjlt : j < sh.length := by omega
          have hq : sh[j]? = some sh[j] := List.getElem?_eq_getElem hjlt
          have hqm : sh[j] ∈ sh := List.getElem_mem _
          have hpj := fun v (h : sh[j]? = some v) => partOf_succ (ts := x.tris) h
          generalize sh[j] = v at hq hqm
          have hpj := hpj v hq
          obtain ⟨_, hq'⟩ := List.getElem?_eq_some_iff.1 hq
          obtain ⟨v0, v1⟩ := hshm v hqm
          have v2 : v.toNat < x.tris.length := by omega
          have ht := tAt_get v2
          have hpl := partOf_len x.tris (sh.take j)
          rw [List.length_take, Nat.min_eq_left (by omega)] at hpl
          generalize tAt x.tris v.toNat = t at ht hpj
          obtain ⟨_, ht'⟩ := List.getElem?_eq_some_iff.1 ht
          generalize hPT : partOf x.tris (sh.take j) = PT at *
          have htkp : List.take j (PT.map T3.cs) = PT.map T3.cs := List.take_of_length_le (by simp; omega)
          simp (disch := omega) [go_sem, lsV, isV, Mesh.cs, vsV, tsV, hlt, hp, hp', hjlt, hq, hq', v0, v1, v2, ht, ht', tcs, htkp, hpl, wrap64_small, show ¬ v < 0 by omega, show ¬ ((x.tris.length : Int) ≤ v) by omega]
          refine ⟨⟨by omega, by omega⟩, j + 1, by omega, by omega, ?_⟩
          rw [hpj]
          exact ⟨by omega, rfl, by rw [List.map_append]; rfl⟩
end
end Go.Abs
set_option linter.unusedVariables false
set_option linter.unusedSimpArgs false
namespace Go.Abs

def ref04_Det.c (ref04_small ref04_Cross ref04_Dot : FuncId) : C :=
 (.seq
  (.reg [
    ⟨(some 3), none, .box (.t 0)⟩,
    ⟨(some 4), none, .box (.t 1)⟩,
    ⟨(some 5), none, .box (.t 2)⟩,
    ⟨(some 6), none, .mv (.c (.i .i64 0))⟩])
  (.seq
   (.seq
    (.reg [
      ⟨(some 7), none, .ld (some 3) (.t 3)⟩,
      ⟨(some 8), none, .call ref04_small [(.t 7)]⟩,
      ⟨(some 9), none, .un .not (.t 8)⟩,
      ⟨(some 10), none, .mv (.t 9)⟩,
      ⟨(some 11), (some (10, false)), .ld (some 3) (.t 4)⟩,
      ⟨(some 12), (some (10, false)), .call ref04_small [(.t 11)]⟩,
      ⟨(some 13), (some (10, false)), .un .not (.t 12)⟩,
      ⟨(some 14), none, .pick (.t 10) (.c (.b true)) (.t 13)⟩,
      ⟨(some 15), none, .mv (.t 14)⟩,
      ⟨(some 16), (some (15, false)), .ld (some 3) (.t 5)⟩,
      ⟨(some 17), (some (15, false)), .call ref04_small [(.t 16)]⟩,
      ⟨(some 18), (some (15, false)), .un .not (.t 17)⟩,
      ⟨(some 19), none, .pick (.t 15) (.c (.b true)) (.t 18)⟩])
    (.ite (.t 19)
     (.seq
      (.reg [
        ⟨(some 6), none, .mv (.c (.i .i64 0))⟩])
      .ret)
     .skip))
   (.seq
    (.drw [
      ⟨(some 20), none, .ld (some 3) (.t 3)⟩,
      ⟨(some 21), none, .ld (some 3) (.t 4)⟩,
      ⟨(some 22), none, .ld (some 3) (.t 5)⟩,
      ⟨(some 23), none, .call ref04_Cross [(.t 21), (.t 22)]⟩,
      ⟨(some 24), none, .call ref04_Dot [(.t 20), (.t 23)]⟩,
      ⟨(some 6), none, .mv (.t 24)⟩] [[], [], [], [0], [], []])
    .ret)))
def ref04_Det.r : List Rr := [.tmp 6]
abbrev ref04_Det.n : Nat := 25
def ref04_small.c (ref04_within : FuncId) : C :=
 (.seq
  (.reg [
    ⟨(some 1), none, .box (.t 0)⟩,
    ⟨(some 2), none, .mv (.c (.b false))⟩])
  (.seq
   (.reg [
     ⟨(some 3), none, .ld (some 3) (.t 1)⟩,
     ⟨(some 4), none, .call ref04_within [(.t 3), (.c (.i .i64 131072))]⟩,
     ⟨(some 2), none, .mv (.t 4)⟩])
   .ret))
def ref04_small.r : List Rr := [.tmp 2]
abbrev ref04_small.n : Nat := 5
def ref04_Dot.c (ref04_small ref04_within : FuncId) : C :=
 (.seq
  (.reg [
    ⟨(some 2), none, .box (.t 0)⟩,
    ⟨(some 3), none, .box (.t 1)⟩,
    ⟨(some 4), none, .mv (.c (.i .i64 0))⟩])
  (.seq
   (.seq
    (.reg [
      ⟨(some 5), none, .ld (some 3) (.t 2)⟩,
      ⟨(some 6), none, .call ref04_small [(.t 5)]⟩,
      ⟨(some 7), none, .un .not (.t 6)⟩,
      ⟨(some 8), none, .mv (.t 7)⟩,
      ⟨(some 9), (some (8, false)), .ld (some 3) (.t 3)⟩,
      ⟨(some 10), (some (8, false)), .call ref04_within [(.t 9), (.c (.i .i64 1099511627776))]⟩,
      ⟨(some 11), (some (8, false)), .un .not (.t 10)⟩,
      ⟨(some 12), none, .pick (.t 8) (.c (.b true)) (.t 11)⟩])
    (.ite (.t 12)
     (.seq
      (.reg [
        ⟨(some 4), none, .mv (.c (.i .i64 0))⟩])
      .ret)
     .skip))
   (.seq
    (.reg [
      ⟨(some 13), none, .fa 0 (.t 2)⟩,
      ⟨(some 14), none, .ld none (.t 13)⟩,
      ⟨(some 15), none, .fa 0 (.t 3)⟩,
      ⟨(some 16), none, .ld none (.t 15)⟩,
      ⟨(some 17), none, .bin .mul (.t 14) (.t 16)⟩,
      ⟨(some 18), none, .fa 1 (.t 2)⟩,
      ⟨(some 19), none, .ld none (.t 18)⟩,
      ⟨(some 20), none, .fa 1 (.t 3)⟩,
      ⟨(some 21), none, .ld none (.t 20)⟩,
      ⟨(some 22), none, .bin .mul (.t 19) (.t 21)⟩,
      ⟨(some 23), none, .bin .add (.t 17) (.t 22)⟩,
      ⟨(some 24), none, .fa 2 (.t 2)⟩,
      ⟨(some 25), none, .ld none (.t 24)⟩,
      ⟨(some 26), none, .fa 2 (.t 3)⟩,
      ⟨(some 27), none, .ld none (.t 26)⟩,
      ⟨(some 28), none, .bin .mul (.t 25) (.t 27)⟩,
      ⟨(some 29), none, .bin .add (.t 23) (.t 28)⟩,
      ⟨(some 4), none, .mv (.t 29)⟩])
    .ret)))
def ref04_Dot.r : List Rr := [.tmp 4]
abbrev ref04_Dot.n : Nat := 30
def ref04_Cross.c (ref04_small : FuncId) : C :=
 (.seq
  (.reg [
    ⟨(some 2), none, .box (.t 0)⟩,
    ⟨(some 3), none, .box (.t 1)⟩,
    ⟨(some 4), none, .alloc [(.i .i64 0), (.i .i64 0), (.i .i64 0)]⟩])
  (.seq
   (.seq
    (.reg [
      ⟨(some 5), none, .ld (some 3) (.t 2)⟩,
      ⟨(some 6), none, .call ref04_small [(.t 5)]⟩,
      ⟨(some 7), none, .un .not (.t 6)⟩,
      ⟨(some 8), none, .mv (.t 7)⟩,
      ⟨(some 9), (some (8, false)), .ld (some 3) (.t 3)⟩,
      ⟨(some 10), (some (8, false)), .call ref04_small [(.t 9)]⟩,
      ⟨(some 11), (some (8, false)), .un .not (.t 10)⟩,
      ⟨(some 12), none, .pick (.t 8) (.c (.b true)) (.t 11)⟩])
    (.ite (.t 12)
     (.seq
      (.reg [
        ⟨(some 13), none, .build [(.i .i64 0), (.i .i64 0), (.i .i64 0)] []⟩,
        ⟨none, none, .st 3 (.t 4) (.t 13)⟩])
      .ret)
     .skip))
   (.seq
    (.reg [
      ⟨(some 14), none, .fa 1 (.t 2)⟩,
      ⟨(some 15), none, .ld none (.t 14)⟩,
      ⟨(some 16), none, .fa 2 (.t 3)⟩,
      ⟨(some 17), none, .ld none (.t 16)⟩,
      ⟨(some 18), none, .bin .mul (.t 15) (.t 17)⟩,
      ⟨(some 19), none, .fa 2 (.t 2)⟩,
      ⟨(some 20), none, .ld none (.t 19)⟩,
      ⟨(some 21), none, .fa 1 (.t 3)⟩,
      ⟨(some 22), none, .ld none (.t 21)⟩,
      ⟨(some 23), none, .bin .mul (.t 20) (.t 22)⟩,
      ⟨(some 24), none, .bin .sub (.t 18) (.t 23)⟩,
      ⟨(some 25), none, .fa 2 (.t 2)⟩,
      ⟨(some 26), none, .ld none (.t 25)⟩,
      ⟨(some 27), none, .fa 0 (.t 3)⟩,
      ⟨(some 28), none, .ld none (.t 27)⟩,
      ⟨(some 29), none, .bin .mul (.t 26) (.t 28)⟩,
      ⟨(some 30), none, .fa 0 (.t 2)⟩,
      ⟨(some 31), none, .ld none (.t 30)⟩,
      ⟨(some 32), none, .fa 2 (.t 3)⟩,
      ⟨(some 33), none, .ld none (.t 32)⟩,
      ⟨(some 34), none, .bin .mul (.t 31) (.t 33)⟩,
      ⟨(some 35), none, .bin .sub (.t 29) (.t 34)⟩,
      ⟨(some 36), none, .fa 0 (.t 2)⟩,
      ⟨(some 37), none, .ld none (.t 36)⟩,
      ⟨(some 38), none, .fa 1 (.t 3)⟩,
      ⟨(some 39), none, .ld none (.t 38)⟩,
      ⟨(some 40), none, .bin .mul (.t 37) (.t 39)⟩,
      ⟨(some 41), none, .fa 1 (.t 2)⟩,
      ⟨(some 42), none, .ld none (.t 41)⟩,
      ⟨(some 43), none, .fa 0 (.t 3)⟩,
      ⟨(some 44), none, .ld none (.t 43)⟩,
      ⟨(some 45), none, .bin .mul (.t 42) (.t 44)⟩,
      ⟨(some 46), none, .bin .sub (.t 40) (.t 45)⟩,
      ⟨(some 47), none, .build [(.i .i64 0), (.i .i64 0), (.i .i64 0)] [(0, 1, (.t 24)), (1, 1, (.t 35)), (2, 1, (.t 46))]⟩,
      ⟨none, none, .st 3 (.t 4) (.t 47)⟩])
    .ret)))
def ref04_Cross.r : List Rr := [.cell 4 (some 3)]
abbrev ref04_Cross.n : Nat := 48

end Go.Abs
set_option linter.unusedVariables false
set_option linter.unusedSimpArgs false
namespace Go.Abs
section
variable {P : Program} (hm : P.follows .mixedOrders = true)
include hm

theorem ref04_small_ok {f fw : FuncId} (hf : FnOk P f (ref04_small.c fw) ref04_small.r ref04_small.n) (hw : WithinC P fw) : SmallVC P f := vec_small_ok hm hf hw
theorem ref04_Cross_ok {f fs : FuncId} (hf : FnOk P f (ref04_Cross.c fs) ref04_Cross.r ref04_Cross.n) (hs : SmallVC P fs) : CrossVC P f := vec_Cross_ok hm hf hs
theorem ref04_Dot_ok {f fs fw : FuncId} (hf : FnOk P f (ref04_Dot.c fs fw) ref04_Dot.r ref04_Dot.n) (hs : SmallVC P fs) (hw : WithinC P fw) : DotVC P f := vec_Dot_ok hm hf hs hw
theorem ref04_Det_ok {f fs fc fd : FuncId} (hf : FnOk P f (ref04_Det.c fs fc fd) ref04_Det.r ref04_Det.n) (hs : SmallVC P fs) (hc : CrossVC P fc) (hd : DotVC P fd) : DetC P f := by
  intro x y z hx hy hz
  refine PureC.is (pure_of hm hf (Nat.le_of_ble_eq_true rfl) ?_) rfl
  unfold ref04_Det.c
  have h0 := hs x
  have h1 := hs y
  have h2 := hs z
  rw [valid_small hx] at h0
  rw [valid_small hy] at h1
  rw [valid_small hz] at h2
  simp [go_sem, V3.enc, V3.cs] at h0 h1 h2 ⊢
  refine ACall_is h0 ?_
  simp [go_sem]
  refine ACall_is h1 ?_
  simp [go_sem]
  refine ACall_is h2 ?_
  simp [go_sem]
  refine DCall_is (hc y z hy hz) ?_
  simp [go_sem]
  refine DCall_is (hd x (crs y z) hx (crs_within hy hz)) ?_
  simp [go_sem, ref04_Det.r, det3]
theorem ref07_Volume6_ok {f fc fd : FuncId} (hf : FnOk P f (ref07_Volume6.c fc fd) ref07_Volume6.r ref07_Volume6.n) (hc : CheckC P fc) (hd : DetC P fd) : VolC P f := mesh_Volume6_ok hm hf hc hd
end
end Go.Abs
