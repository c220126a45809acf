/- The program's functions are those whose code the library's texts hold. -/
import Derived.Test.YtaffnmhokdhgdaaRows
import Derived.Test.YtaffnmhokdhgdaaGoSecA
set_option linter.unusedVariables false
set_option linter.unusedSimpArgs false
namespace Go.Proofs.Ytaffnmhokdhgdaa
open Go.Abs

theorem ok_vec_within : FnOk Try.prog 28 vec_within.c vec_within.r vec_within.n := ⟨Try.f28, (Try.f28.body).getD .skip, Try.func28, rfl, by kernel_rfl, by kernel_rfl, rfl⟩
theorem ok_vec_Valid : FnOk Try.prog 20 (vec_Valid.c 28) vec_Valid.r vec_Valid.n := ⟨Try.f20, (Try.f20.body).getD .skip, Try.func20, rfl, by kernel_rfl, by kernel_rfl, rfl⟩
theorem ok_ref04_within : FnOk Try.prog 30 ref04_within.c ref04_within.r ref04_within.n := ⟨Try.f30, (Try.f30.body).getD .skip, Try.func30, rfl, by kernel_rfl, by kernel_rfl, rfl⟩
theorem ok_ref04_Valid : FnOk Try.prog 22 (ref04_Valid.c 30) ref04_Valid.r ref04_Valid.n := ⟨Try.f22, (Try.f22.body).getD .skip, Try.func22, rfl, by kernel_rfl, by kernel_rfl, rfl⟩
theorem ok_num_Floor : FnOk Try.prog 35 num_Floor.c num_Floor.r num_Floor.n := ⟨Try.f35, (Try.f35.body).getD .skip, Try.func35, rfl, by kernel_rfl, by kernel_rfl, rfl⟩
theorem ok_num_Round : FnOk Try.prog 29 (num_Round.c 35) num_Round.r num_Round.n := ⟨Try.f29, (Try.f29.body).getD .skip, Try.func29, rfl, by kernel_rfl, by kernel_rfl, rfl⟩
theorem ok_mesh_Check : FnOk Try.prog 16 (mesh_Check.c 20) mesh_Check.r mesh_Check.n := ⟨Try.f16, (Try.f16.body).getD .skip, Try.func16, rfl, by kernel_rfl, by kernel_rfl, rfl⟩
theorem ok_ref07_Check : FnOk Try.prog 26 (ref07_Check.c 22) ref07_Check.r ref07_Check.n := ⟨Try.f26, (Try.f26.body).getD .skip, Try.func26, rfl, by kernel_rfl, by kernel_rfl, rfl⟩
theorem ok_mesh_Corners : FnOk Try.prog 24 (mesh_Corners.c 16) mesh_Corners.r mesh_Corners.n := ⟨Try.f24, (Try.f24.body).getD .skip, Try.func24, rfl, by kernel_rfl, by kernel_rfl, rfl⟩
theorem ok_mesh_Reverse : FnOk Try.prog 17 (mesh_Reverse.c 16) mesh_Reverse.r mesh_Reverse.n := ⟨Try.f17, (Try.f17.body).getD .skip, Try.func17, rfl, by kernel_rfl, by kernel_rfl, rfl⟩
theorem ok_section_cross : FnOk Try.prog 21 (section_cross.c 29) section_cross.r section_cross.n := ⟨Try.f21, (Try.f21.body).getD .skip, Try.func21, rfl, by kernel_rfl, by kernel_rfl, rfl⟩
theorem ok_section_Point : FnOk Try.prog 9 (section_Point.c 20 21) section_Point.r section_Point.n := ⟨Try.f9, (Try.f9.body).getD .skip, Try.func9, rfl, by kernel_rfl, by kernel_rfl, rfl⟩
theorem ok_section_cut : FnOk Try.prog 25 (section_cut.c 9) section_cut.r section_cut.n := ⟨Try.f25, (Try.f25.body).getD .skip, Try.func25, rfl, by kernel_rfl, by kernel_rfl, rfl⟩
theorem ok_section_Cut : FnOk Try.prog 13 (section_Cut.c 16 24 25) section_Cut.r section_Cut.n := ⟨Try.f13, (Try.f13.body).getD .skip, Try.func13, rfl, by kernel_rfl, by kernel_rfl, rfl⟩
theorem ok_ref15_rounded : FnOk Try.prog 23 ref15_rounded.c ref15_rounded.r ref15_rounded.n := ⟨Try.f23, (Try.f23.body).getD .skip, Try.func23, rfl, by kernel_rfl, by kernel_rfl, rfl⟩
theorem ok_ref15_Point : FnOk Try.prog 10 (ref15_Point.c 22 23) ref15_Point.r ref15_Point.n := ⟨Try.f10, (Try.f10.body).getD .skip, Try.func10, rfl, by kernel_rfl, by kernel_rfl, rfl⟩
theorem ok_ref15_Cut : FnOk Try.prog 14 (ref15_Cut.c 26 10) ref15_Cut.r ref15_Cut.n := ⟨Try.f14, (Try.f14.body).getD .skip, Try.func14, rfl, by kernel_rfl, by kernel_rfl, rfl⟩
theorem ok_law15_Small : FnOk Try.prog 12 law15_Small.c law15_Small.r law15_Small.n := ⟨Try.f12, (Try.f12.body).getD .skip, Try.func12, rfl, by kernel_rfl, by kernel_rfl, rfl⟩
theorem ok_law15_segs : FnOk Try.prog 15 law15_segs.c law15_segs.r law15_segs.n := ⟨Try.f15, (Try.f15.body).getD .skip, Try.func15, rfl, by kernel_rfl, by kernel_rfl, rfl⟩
theorem ok_law15_awake : FnOk Try.prog 11 (law15_awake.c 9 13) law15_awake.r law15_awake.n := ⟨Try.f11, (Try.f11.body).getD .skip, Try.func11, rfl, by kernel_rfl, by kernel_rfl, rfl⟩
theorem ok_law15_SectionPoints : FnOk Try.prog 3 (law15_SectionPoints.c 9 10 11) law15_SectionPoints.r law15_SectionPoints.n := ⟨Try.f3, (Try.f3.body).getD .skip, Try.func3, rfl, by kernel_rfl, by kernel_rfl, rfl⟩
theorem ok_law15_SectionCuts : FnOk Try.prog 4 (law15_SectionCuts.c 12 11 13 14 15) law15_SectionCuts.r law15_SectionCuts.n := ⟨Try.f4, (Try.f4.body).getD .skip, Try.func4, rfl, by kernel_rfl, by kernel_rfl, rfl⟩
theorem ok_law15_SectionInside : FnOk Try.prog 5 (law15_SectionInside.c 9 11) law15_SectionInside.r law15_SectionInside.n := ⟨Try.f5, (Try.f5.body).getD .skip, Try.func5, rfl, by kernel_rfl, by kernel_rfl, rfl⟩
theorem ok_law15_SectionCounts : FnOk Try.prog 6 (law15_SectionCounts.c 12 16 11 13) law15_SectionCounts.r law15_SectionCounts.n := ⟨Try.f6, (Try.f6.body).getD .skip, Try.func6, rfl, by kernel_rfl, by kernel_rfl, rfl⟩
theorem ok_law15_SectionReversed : FnOk Try.prog 7 (law15_SectionReversed.c 12 16 11 13 17) law15_SectionReversed.r law15_SectionReversed.n := ⟨Try.f7, (Try.f7.body).getD .skip, Try.func7, rfl, by kernel_rfl, by kernel_rfl, rfl⟩

end Go.Proofs.Ytaffnmhokdhgdaa
