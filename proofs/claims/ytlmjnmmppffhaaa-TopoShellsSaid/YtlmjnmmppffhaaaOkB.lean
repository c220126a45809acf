/- The program's functions are those whose code the library's texts hold. -/
import Derived.Test.YtlmjnmmppffhaaaRows
import Derived.Test.YtlmjnmmppffhaaaGoTr
set_option linter.unusedVariables false
set_option linter.unusedSimpArgs false
namespace Go.Proofs.Ytlmjnmmppffhaaa
open Go.Abs

theorem ok_law10_TopoEdges : FnOk Try.prog 3 (law10_TopoEdges.c 9 10 11 12 14 15 13) law10_TopoEdges.r law10_TopoEdges.n := ⟨Try.f3, (Try.f3.body).getD .skip, Try.func3, rfl, by kernel_rfl, by kernel_rfl, rfl⟩
theorem ok_law10_TopoBounds : FnOk Try.prog 4 (law10_TopoBounds.c 9 10 16 17 13 18 19 11) law10_TopoBounds.r law10_TopoBounds.n := ⟨Try.f4, (Try.f4.body).getD .skip, Try.func4, rfl, by kernel_rfl, by kernel_rfl, rfl⟩
theorem ok_law10_TopoLoops : FnOk Try.prog 5 (law10_TopoLoops.c 9 10 20 21 22 11 16 18) law10_TopoLoops.r law10_TopoLoops.n := ⟨Try.f5, (Try.f5.body).getD .skip, Try.func5, rfl, by kernel_rfl, by kernel_rfl, rfl⟩
theorem ok_law10_heavy : FnOk Try.prog 9 law10_heavy.c law10_heavy.r law10_heavy.n := ⟨Try.f9, (Try.f9.body).getD .skip, Try.func9, rfl, by kernel_rfl, by kernel_rfl, rfl⟩
theorem ok_law10_lists : FnOk Try.prog 22 (law10_lists.c 32) law10_lists.r law10_lists.n := ⟨Try.f22, (Try.f22.body).getD .skip, Try.func22, rfl, by kernel_rfl, by kernel_rfl, rfl⟩
theorem ok_ref10_Uses : FnOk Try.prog 12 (ref10_Uses.c 35 36 37 38) ref10_Uses.r ref10_Uses.n := ⟨Try.f12, (Try.f12.body).getD .skip, Try.func12, rfl, by kernel_rfl, by kernel_rfl, rfl⟩
theorem ok_ref10_Edges : FnOk Try.prog 15 (ref10_Edges.c 35 42) ref10_Edges.r ref10_Edges.n := ⟨Try.f15, (Try.f15.body).getD .skip, Try.func15, rfl, by kernel_rfl, by kernel_rfl, rfl⟩
theorem ok_ref10_Closed : FnOk Try.prog 19 (ref10_Closed.c 35 17) ref10_Closed.r ref10_Closed.n := ⟨Try.f19, (Try.f19.body).getD .skip, Try.func19, rfl, by kernel_rfl, by kernel_rfl, rfl⟩
theorem ok_ref10_Boundary : FnOk Try.prog 17 (ref10_Boundary.c 35 36 38 37) ref10_Boundary.r ref10_Boundary.n := ⟨Try.f17, (Try.f17.body).getD .skip, Try.func17, rfl, by kernel_rfl, by kernel_rfl, rfl⟩
theorem ok_ref10_Loops : FnOk Try.prog 21 (ref10_Loops.c 35 17 43 44) ref10_Loops.r ref10_Loops.n := ⟨Try.f21, (Try.f21.body).getD .skip, Try.func21, rfl, by kernel_rfl, by kernel_rfl, rfl⟩
theorem ok_ref10_counts : FnOk Try.prog 36 (ref10_counts.c 49 52 53) ref10_counts.r ref10_counts.n := ⟨Try.f36, (Try.f36.body).getD .skip, Try.func36, rfl, by kernel_rfl, by kernel_rfl, rfl⟩
theorem ok_ref10_undirected : FnOk Try.prog 42 (ref10_undirected.c 49 50 52) ref10_undirected.r ref10_undirected.n := ⟨Try.f42, (Try.f42.body).getD .skip, Try.func42, rfl, by kernel_rfl, by kernel_rfl, rfl⟩
theorem ok_ref10_Undirected : FnOk Try.prog 50 ref10_Undirected.c ref10_Undirected.r ref10_Undirected.n := ⟨Try.f50, (Try.f50.body).getD .skip, Try.func50, rfl, by kernel_rfl, by kernel_rfl, rfl⟩
theorem ok_ref10_number : FnOk Try.prog 37 (ref10_number.c 53) ref10_number.r ref10_number.n := ⟨Try.f37, (Try.f37.body).getD .skip, Try.func37, rfl, by kernel_rfl, by kernel_rfl, rfl⟩
theorem ok_ref10_reverse : FnOk Try.prog 38 ref10_reverse.c ref10_reverse.r ref10_reverse.n := ⟨Try.f38, (Try.f38.body).getD .skip, Try.func38, rfl, by kernel_rfl, by kernel_rfl, rfl⟩
theorem ok_ref10_simple : FnOk Try.prog 43 (ref10_simple.c 36 37 38) ref10_simple.r ref10_simple.n := ⟨Try.f43, (Try.f43.body).getD .skip, Try.func43, rfl, by kernel_rfl, by kernel_rfl, rfl⟩
theorem ok_ref10_source : FnOk Try.prog 44 ref10_source.c ref10_source.r ref10_source.n := ⟨Try.f44, (Try.f44.body).getD .skip, Try.func44, rfl, by kernel_rfl, by kernel_rfl, rfl⟩
theorem ok_ref10_Directed : FnOk Try.prog 49 ref10_Directed.c ref10_Directed.r ref10_Directed.n := ⟨Try.f49, (Try.f49.body).getD .skip, Try.func49, rfl, by kernel_rfl, by kernel_rfl, rfl⟩
theorem ok_ref10_with : FnOk Try.prog 52 (ref10_with.c 53) ref10_with.r ref10_with.n := ⟨Try.f52, (Try.f52.body).getD .skip, Try.func52, rfl, by kernel_rfl, by kernel_rfl, rfl⟩
theorem ok_ref10_place : FnOk Try.prog 53 (ref10_place.c 61) ref10_place.r ref10_place.n := ⟨Try.f53, (Try.f53.body).getD .skip, Try.func53, rfl, by kernel_rfl, by kernel_rfl, rfl⟩
theorem ok_ref10_before : FnOk Try.prog 61 ref10_before.c ref10_before.r ref10_before.n := ⟨Try.f61, (Try.f61.body).getD .skip, Try.func61, rfl, by kernel_rfl, by kernel_rfl, rfl⟩
theorem ok_ref07_Check : FnOk Try.prog 35 (ref07_Check.c 51) ref07_Check.r ref07_Check.n := ⟨Try.f35, (Try.f35.body).getD .skip, Try.func35, rfl, by kernel_rfl, by kernel_rfl, rfl⟩
theorem ok_ref04_Valid : FnOk Try.prog 51 (ref04_Valid.c 60) ref04_Valid.r ref04_Valid.n := ⟨Try.f51, (Try.f51.body).getD .skip, Try.func51, rfl, by kernel_rfl, by kernel_rfl, rfl⟩
theorem ok_ref04_within : FnOk Try.prog 60 ref04_within.c ref04_within.r ref04_within.n := ⟨Try.f60, (Try.f60.body).getD .skip, Try.func60, rfl, by kernel_rfl, by kernel_rfl, rfl⟩

end Go.Proofs.Ytlmjnmmppffhaaa
