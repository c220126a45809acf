/- The program's functions are those whose code the library's texts hold. -/
import Derived.Test.YtahpclonmobkiaaRows
import Derived.Test.YtahpclonmobkiaaGoHt
set_option linter.unusedVariables false
set_option linter.unusedSimpArgs false
namespace Go.Proofs.Ytahpclonmobkiaa
open Go.Abs

theorem ok_law12_HolesFills : FnOk Try.prog 4 (law12_HolesFills.c 11 12 13 14 10) law12_HolesFills.r law12_HolesFills.n := ⟨Try.f4, (Try.f4.body).getD .skip, Try.func4, rfl, by kernel_rfl, by kernel_rfl, rfl⟩
theorem ok_law12_HolesLoops : FnOk Try.prog 5 (law12_HolesLoops.c 11 12 15 16 10) law12_HolesLoops.r law12_HolesLoops.n := ⟨Try.f5, (Try.f5.body).getD .skip, Try.func5, rfl, by kernel_rfl, by kernel_rfl, rfl⟩
theorem ok_law12_HolesClose : FnOk Try.prog 6 (law12_HolesClose.c 11 12 10 17 18 14) law12_HolesClose.r law12_HolesClose.n := ⟨Try.f6, (Try.f6.body).getD .skip, Try.func6, rfl, by kernel_rfl, by kernel_rfl, rfl⟩
theorem ok_law12_HolesKeeps : FnOk Try.prog 7 (law12_HolesKeeps.c 11 12 19 10 20 21 22) law12_HolesKeeps.r law12_HolesKeeps.n := ⟨Try.f7, (Try.f7.body).getD .skip, Try.func7, rfl, by kernel_rfl, by kernel_rfl, rfl⟩
theorem ok_law12_few : FnOk Try.prog 11 law12_few.c law12_few.r law12_few.n := ⟨Try.f11, (Try.f11.body).getD .skip, Try.func11, rfl, by kernel_rfl, by kernel_rfl, rfl⟩
theorem ok_ref12_Fill : FnOk Try.prog 13 (ref12_Fill.c 16 28 9) ref12_Fill.r ref12_Fill.n := ⟨Try.f13, (Try.f13.body).getD .skip, Try.func13, rfl, by kernel_rfl, by kernel_rfl, rfl⟩
theorem ok_topo_Closed : FnOk Try.prog 17 (topo_Closed.c 24 30) topo_Closed.r topo_Closed.n := ⟨Try.f17, (Try.f17.body).getD .skip, Try.func17, rfl, by kernel_rfl, by kernel_rfl, rfl⟩
theorem ok_ref10_Closed : FnOk Try.prog 18 (ref10_Closed.c 16 20) ref10_Closed.r ref10_Closed.n := ⟨Try.f18, (Try.f18.body).getD .skip, Try.func18, rfl, by kernel_rfl, by kernel_rfl, rfl⟩
theorem ok_ref10_Boundary : FnOk Try.prog 20 (ref10_Boundary.c 16 34 36 35) ref10_Boundary.r ref10_Boundary.n := ⟨Try.f20, (Try.f20.body).getD .skip, Try.func20, rfl, by kernel_rfl, by kernel_rfl, rfl⟩
theorem ok_ref10_Uses : FnOk Try.prog 21 (ref10_Uses.c 16 34 35 36) ref10_Uses.r ref10_Uses.n := ⟨Try.f21, (Try.f21.body).getD .skip, Try.func21, rfl, by kernel_rfl, by kernel_rfl, rfl⟩
theorem ok_ref10_Loops : FnOk Try.prog 28 (ref10_Loops.c 16 20 39 40) ref10_Loops.r ref10_Loops.n := ⟨Try.f28, (Try.f28.body).getD .skip, Try.func28, rfl, by kernel_rfl, by kernel_rfl, rfl⟩
theorem ok_ref10_counts : FnOk Try.prog 34 (ref10_counts.c 46 47 48) ref10_counts.r ref10_counts.n := ⟨Try.f34, (Try.f34.body).getD .skip, Try.func34, rfl, by kernel_rfl, by kernel_rfl, rfl⟩
theorem ok_ref10_number : FnOk Try.prog 35 (ref10_number.c 48) ref10_number.r ref10_number.n := ⟨Try.f35, (Try.f35.body).getD .skip, Try.func35, rfl, by kernel_rfl, by kernel_rfl, rfl⟩
theorem ok_ref10_reverse : FnOk Try.prog 36 ref10_reverse.c ref10_reverse.r ref10_reverse.n := ⟨Try.f36, (Try.f36.body).getD .skip, Try.func36, rfl, by kernel_rfl, by kernel_rfl, rfl⟩
theorem ok_ref10_simple : FnOk Try.prog 39 (ref10_simple.c 34 35 36) ref10_simple.r ref10_simple.n := ⟨Try.f39, (Try.f39.body).getD .skip, Try.func39, rfl, by kernel_rfl, by kernel_rfl, rfl⟩
theorem ok_ref10_source : FnOk Try.prog 40 ref10_source.c ref10_source.r ref10_source.n := ⟨Try.f40, (Try.f40.body).getD .skip, Try.func40, rfl, by kernel_rfl, by kernel_rfl, rfl⟩
theorem ok_ref10_Directed : FnOk Try.prog 46 ref10_Directed.c ref10_Directed.r ref10_Directed.n := ⟨Try.f46, (Try.f46.body).getD .skip, Try.func46, rfl, by kernel_rfl, by kernel_rfl, rfl⟩
theorem ok_ref10_with : FnOk Try.prog 47 (ref10_with.c 48) ref10_with.r ref10_with.n := ⟨Try.f47, (Try.f47.body).getD .skip, Try.func47, rfl, by kernel_rfl, by kernel_rfl, rfl⟩
theorem ok_ref10_place : FnOk Try.prog 48 (ref10_place.c 55) ref10_place.r ref10_place.n := ⟨Try.f48, (Try.f48.body).getD .skip, Try.func48, rfl, by kernel_rfl, by kernel_rfl, rfl⟩
theorem ok_ref10_before : FnOk Try.prog 55 ref10_before.c ref10_before.r ref10_before.n := ⟨Try.f55, (Try.f55.body).getD .skip, Try.func55, rfl, by kernel_rfl, by kernel_rfl, rfl⟩
theorem ok_orient_Coherent : FnOk Try.prog 19 (orient_Coherent.c 24 33) orient_Coherent.r orient_Coherent.n := ⟨Try.f19, (Try.f19.body).getD .skip, Try.func19, rfl, by kernel_rfl, by kernel_rfl, rfl⟩
theorem ok_orient_coherent : FnOk Try.prog 33 (orient_coherent.c 45) orient_coherent.r orient_coherent.n := ⟨Try.f33, (Try.f33.body).getD .skip, Try.func33, rfl, by kernel_rfl, by kernel_rfl, rfl⟩
theorem ok_orient_edges : FnOk Try.prog 45 orient_edges.c orient_edges.r orient_edges.n := ⟨Try.f45, (Try.f45.body).getD .skip, Try.func45, rfl, by kernel_rfl, by kernel_rfl, rfl⟩
theorem ok_ref11_Coherent : FnOk Try.prog 22 (ref11_Coherent.c 16 37) ref11_Coherent.r ref11_Coherent.n := ⟨Try.f22, (Try.f22.body).getD .skip, Try.func22, rfl, by kernel_rfl, by kernel_rfl, rfl⟩
theorem ok_ref11_coherent : FnOk Try.prog 37 (ref11_coherent.c 49) ref11_coherent.r ref11_coherent.n := ⟨Try.f37, (Try.f37.body).getD .skip, Try.func37, rfl, by kernel_rfl, by kernel_rfl, rfl⟩
theorem ok_ref11_uses : FnOk Try.prog 49 ref11_uses.c ref11_uses.r ref11_uses.n := ⟨Try.f49, (Try.f49.body).getD .skip, Try.func49, rfl, by kernel_rfl, by kernel_rfl, rfl⟩
theorem ok_ref07_Check : FnOk Try.prog 16 (ref07_Check.c 32) ref07_Check.r ref07_Check.n := ⟨Try.f16, (Try.f16.body).getD .skip, Try.func16, rfl, by kernel_rfl, by kernel_rfl, rfl⟩
theorem ok_ref07_Same : FnOk Try.prog 14 ref07_Same.c ref07_Same.r ref07_Same.n := ⟨Try.f14, (Try.f14.body).getD .skip, Try.func14, rfl, by kernel_rfl, by kernel_rfl, rfl⟩
theorem ok_ref04_Valid : FnOk Try.prog 32 (ref04_Valid.c 44) ref04_Valid.r ref04_Valid.n := ⟨Try.f32, (Try.f32.body).getD .skip, Try.func32, rfl, by kernel_rfl, by kernel_rfl, rfl⟩
theorem ok_ref04_within : FnOk Try.prog 44 ref04_within.c ref04_within.r ref04_within.n := ⟨Try.f44, (Try.f44.body).getD .skip, Try.func44, rfl, by kernel_rfl, by kernel_rfl, rfl⟩

end Go.Proofs.Ytahpclonmobkiaa
