/- PROVED: TopoTurns returns true for any mesh and any pair of numbers; no condition. -/
import Derived.Test.YtlmjnmmppffhaaaRun
import Derived.Test.YtlmjnmmppffhaaaBnd
import Derived.Test.YtlmjnmmppffhaaaGoSch
import Derived.Test.YtlmjnmmppffhaaaLayJ
import Derived.Test.YtlmjnmmppffhaaaGoTw
import Derived.ProofKit
set_option linter.unusedVariables false
set_option linter.unusedSimpArgs false
namespace Go.Proofs.Ytlmjnmmppffhaaa
open Go.Abs Go.RowKit
theorem ok_law10_heavy : FnOk Try.prog 9 law10_heavy.c law10_heavy.r law10_heavy.n := ⟨Try.f9, (Try.f9.body).getD .skip, Try.func9, rfl, by kernel_rfl, by kernel_rfl, rfl⟩
theorem ok_law10_lists : FnOk Try.prog 22 (law10_lists.c 32) law10_lists.r law10_lists.n := ⟨Try.f22, (Try.f22.body).getD .skip, Try.func22, rfl, by kernel_rfl, by kernel_rfl, rfl⟩
theorem p2_of {e : List V} (h : okL [.i .i64, .i .i64] e) : ∃ v : P2, e = v.cs := by
  simp only [okL, Sch.ok] at h
  obtain ⟨v1, r1, rfl, ⟨x, rfl, _⟩, v2, r2, rfl, ⟨y, rfl, _⟩, rfl⟩ := h
  exact ⟨⟨x, y⟩, rfl⟩
theorem par_e {ps : List (Bool × List Sch)} {us : List V} (h : okPars ((true, [.i .i64, .i .i64]) :: ps) us) : ∃ (v : P2) (r : List V), us = v.enc :: r ∧ okPars ps r := by
  simp only [okPars, okPar] at h
  obtain ⟨v, r, rfl, ⟨cs, rfl, hc⟩, hr⟩ := h
  obtain ⟨p, rfl⟩ := p2_of hc
  exact ⟨p, r, rfl, hr⟩
theorem k_heavy : HeavyC Try.prog 9 := law10_heavy_ok mix ok_law10_heavy
theorem k_eqP : EqPC Try.prog 13 := law10_edges_ok mix ok_law10_edges
theorem k_eqL : EqLC Try.prog 22 := law10_lists_ok mix ok_law10_lists (law10_same_ok mix ok_law10_same)
theorem k_Uses : UsesC Try.prog 11 := topo_Uses_ok mix ok_topo_Uses k_counted k_rev
theorem k_Closed : ClosedC Try.prog 18 := topo_Closed_ok mix ok_topo_Closed k_Check k_Boundary
theorem ok_law10_TopoTurns : FnOk Try.prog 7 (law10_TopoTurns.c 9 10 27 25 11 14 13 23 22 18) law10_TopoTurns.r law10_TopoTurns.n := ⟨Try.f7, (Try.f7.body).getD .skip, Try.func7, rfl, by kernel_rfl, by kernel_rfl, rfl⟩
theorem ok_mesh_Reverse : FnOk Try.prog 27 (mesh_Reverse.c 25) mesh_Reverse.r mesh_Reverse.n := ⟨Try.f27, (Try.f27.body).getD .skip, Try.func27, rfl, by kernel_rfl, by kernel_rfl, rfl⟩
theorem k_SortI2 : SortIC Try.prog 46 := sortI_ok sortIntL
theorem k_Shells2 : ShellsC Try.prog 23 := topo_Shells_ok mix ok_topo_Shells k_Check k_edges k_und k_SortI2
theorem k_Reverse : ReverseC Try.prog 27 := mesh_Reverse_ok mix ok_mesh_Reverse k_Check
theorem k_ReverseN : ReverseNC Try.prog 27 := mesh_ReverseN_ok mix ok_mesh_Reverse k_Check

set_option maxRecDepth 100000 in
theorem topoTurns_lifted (os : Os) (started : os.Started) (H : Type) (enc : TypeId × Value → H) :
    ReturnsInHanded {} Try.checked os 7 .any (Rows.topoTurnsSpec.pre6 enc Try.prog Try.f7 Rows.topoTurnsRow.domain false) (Rows.topoTurnsSpec.post enc Try.prog Try.f7 false true false false) := by
  refine returnsInHanded_of_change (C := Try.checked) own started (by kernel_rfl) Try.func7
    (ChangeSpec.witness6 (enc := enc) (C := Try.checked) false ⟨#[], #[.agg #[.slice none 0 0, .slice none 0 0], .agg #[.int .i64 0, .int .i64 0]], []⟩ 8 (by kernel_rfl) (by kernel_rfl) (by kernel_rfl) (by kernel_rfl)) ?_
  intro W base args ds gs before hval0 hW0 _ _
  have hval : ∀ (j : Nat) t v, Try.f7.params[j]? = some t → args[j]? = some v → Value.okWide Try.prog W .any base t v := hval0
  have hW : DataW.Whole enc Try.prog Try.f7.params.toList Rows.topoTurnsSpec.vars false W args.toList ds gs before := hW0
  refine law_contract (tb := 4) (pars := [(true, schM), (true, [.i .i64, .i .i64])]) laid rfl (by kernel_rfl) Try.underlying4 (by kernel_rfl) (by kernel_rfl) (fun ds h => ?_) (fun us hus => ?_) W base args ds gs before hval hW
  · match ds, h with
    | [d0, d1], _ => rfl
  · skip
    obtain ⟨v0, r0, rfl, hb0, hu0⟩ := par_m hus
    obtain ⟨v1, r1, rfl, hu1⟩ := par_e hu0
    obtain rfl := par_0 hu1
    exact TopoTurns_ok mix ok_law10_TopoTurns k_heavy awake_ok k_Reverse k_ReverseN k_Check k_Uses k_Edges k_eqP k_Shells2 k_eqL k_Closed v0 v1

theorem topoTurns : Rows.TopoTurnsSaid :=
  OpenClaim.holds_of_wide 7 Try.f7 rfl rfl rfl rfl rfl rfl rfl ⟨rfl, rfl, rfl, rfl, rfl⟩ rfl rfl rfl rfl rfl (by kernel_rfl) Try.func7 (by kernel_rfl)
    (of_decide_eq_true (by kernel_rfl)) (by unfold Func.isWrapper; first | (rw [if_pos (by decide +kernel)]; kernel_rfl) | (rw [if_neg (by decide +kernel)]; exact ⟨rfl, rfl⟩))
    (fun os started H enc _ => topoTurns_lifted os started H enc)
end Go.Proofs.Ytlmjnmmppffhaaa
