/- The program's functions are those whose code the library's texts hold. -/
import Derived.Test.YtedcbjgnidjidaaRows
import Derived.Test.YtedcbjgnidjidaaGoJs
import Derived.Test.YtedcbjgnidjidaaGoCs
set_option linter.unusedVariables false
set_option linter.unusedSimpArgs false
namespace Go.Proofs.Ytedcbjgnidjidaa
open Go.Abs

theorem ok_journal_All : FnOk Try.prog 44 (journal_All.c 20 38 67 68) journal_All.r journal_All.n := ⟨Try.f44, (Try.f44.body).getD .skip, Try.func44, rfl, by kernel_rfl, by kernel_rfl, rfl⟩
theorem ok_journal_All_1 : FnOk Try.prog 68 (journal_All_1.c 69) journal_All_1.r journal_All_1.n := ⟨Try.f68, (Try.f68.body).getD .skip, Try.func68, rfl, by kernel_rfl, by kernel_rfl, rfl⟩
theorem ok_journal_Last : FnOk Try.prog 41 (journal_Last.c 44) journal_Last.r journal_Last.n := ⟨Try.f41, (Try.f41.body).getD .skip, Try.func41, rfl, by kernel_rfl, by kernel_rfl, rfl⟩
theorem ok_journal_Append : FnOk Try.prog 46 (journal_Append.c 33 41 20 26) journal_Append.r journal_Append.n := ⟨Try.f46, (Try.f46.body).getD .skip, Try.func46, rfl, by kernel_rfl, by kernel_rfl, rfl⟩
theorem ok_ref52_All : FnOk Try.prog 45 (ref52_All.c 25 39) ref52_All.r ref52_All.n := ⟨Try.f45, (Try.f45.body).getD .skip, Try.func45, rfl, by kernel_rfl, by kernel_rfl, rfl⟩
theorem ok_ref52_Last : FnOk Try.prog 42 (ref52_Last.c 45) ref52_Last.r ref52_Last.n := ⟨Try.f42, (Try.f42.body).getD .skip, Try.func42, rfl, by kernel_rfl, by kernel_rfl, rfl⟩
theorem ok_ref52_Append : FnOk Try.prog 47 (ref52_Append.c 34 25 42 27) ref52_Append.r ref52_Append.n := ⟨Try.f47, (Try.f47.body).getD .skip, Try.func47, rfl, by kernel_rfl, by kernel_rfl, rfl⟩
theorem ok_law52_few : FnOk Try.prog 40 law52_few.c law52_few.r law52_few.n := ⟨Try.f40, (Try.f40.body).getD .skip, Try.func40, rfl, by kernel_rfl, by kernel_rfl, rfl⟩
theorem ok_law52_records : FnOk Try.prog 43 law52_records.c law52_records.r law52_records.n := ⟨Try.f43, (Try.f43.body).getD .skip, Try.func43, rfl, by kernel_rfl, by kernel_rfl, rfl⟩
theorem ok_law52_JournalReads : FnOk Try.prog 13 (law52_JournalReads.c 40 37 41 42 44 45 43) law52_JournalReads.r law52_JournalReads.n := ⟨Try.f13, (Try.f13.body).getD .skip, Try.func13, rfl, by kernel_rfl, by kernel_rfl, rfl⟩
theorem ok_law52_JournalAppends : FnOk Try.prog 14 (law52_JournalAppends.c 40 37 46 47 19) law52_JournalAppends.r law52_JournalAppends.n := ⟨Try.f14, (Try.f14.body).getD .skip, Try.func14, rfl, by kernel_rfl, by kernel_rfl, rfl⟩
theorem ok_law52_JournalWindow : FnOk Try.prog 15 (law52_JournalWindow.c 17 35 46 44 43 37) law52_JournalWindow.r law52_JournalWindow.n := ⟨Try.f15, (Try.f15.body).getD .skip, Try.func15, rfl, by kernel_rfl, by kernel_rfl, rfl⟩
theorem ok_law52_JournalSurvives : FnOk Try.prog 16 (law52_JournalSurvives.c 17 35 28 46 29 41 37) law52_JournalSurvives.r law52_JournalSurvives.n := ⟨Try.f16, (Try.f16.body).getD .skip, Try.func16, rfl, by kernel_rfl, by kernel_rfl, rfl⟩
theorem ok_cmp_Compare_int : FnOk Try.prog 69 (cmp_Compare_int.c 81) cmp_Compare_int.r cmp_Compare_int.n := ⟨Try.f69, (Try.f69.body).getD .skip, Try.func69, rfl, by kernel_rfl, by kernel_rfl, rfl⟩
theorem ok_cmp_isNaN_int : FnOk Try.prog 81 cmp_isNaN_int.c cmp_isNaN_int.r cmp_isNaN_int.n := ⟨Try.f81, (Try.f81.body).getD .skip, Try.func81, rfl, by kernel_rfl, by kernel_rfl, rfl⟩

end Go.Proofs.Ytedcbjgnidjidaa
