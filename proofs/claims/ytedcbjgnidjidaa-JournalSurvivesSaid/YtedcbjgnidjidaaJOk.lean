/- The program's functions are those whose code the library's texts hold. -/
import Derived.Test.YtedcbjgnidjidaaRows
import Derived.Test.YtedcbjgnidjidaaGoJrE
set_option linter.unusedVariables false
set_option linter.unusedSimpArgs false
namespace Go.Proofs.Ytedcbjgnidjidaa
open Go.Abs

theorem ok_wire_valid : FnOk Try.prog 70 wire_valid.c wire_valid.r wire_valid.n := ⟨Try.f70, (Try.f70.body).getD .skip, Try.func70, rfl, by kernel_rfl, by kernel_rfl, rfl⟩
theorem ok_wire_fits : FnOk Try.prog 71 wire_fits.c wire_fits.r wire_fits.n := ⟨Try.f71, (Try.f71.body).getD .skip, Try.func71, rfl, by kernel_rfl, by kernel_rfl, rfl⟩
theorem ok_wire_put : FnOk Try.prog 72 wire_put.c wire_put.r wire_put.n := ⟨Try.f72, (Try.f72.body).getD .skip, Try.func72, rfl, by kernel_rfl, by kernel_rfl, rfl⟩
theorem ok_wire_Uint : FnOk Try.prog 53 (wire_Uint.c 70 71 72) wire_Uint.r wire_Uint.n := ⟨Try.f53, (Try.f53.body).getD .skip, Try.func53, rfl, by kernel_rfl, by kernel_rfl, rfl⟩
theorem ok_wire_Int : FnOk Try.prog 54 (wire_Int.c 70 72) wire_Int.r wire_Int.n := ⟨Try.f54, (Try.f54.body).getD .skip, Try.func54, rfl, by kernel_rfl, by kernel_rfl, rfl⟩
theorem ok_wire_Pad : FnOk Try.prog 56 wire_Pad.c wire_Pad.r wire_Pad.n := ⟨Try.f56, (Try.f56.body).getD .skip, Try.func56, rfl, by kernel_rfl, by kernel_rfl, rfl⟩
theorem ok_sum_CRC16 : FnOk Try.prog 55 sum_CRC16.c sum_CRC16.r sum_CRC16.n := ⟨Try.f55, (Try.f55.body).getD .skip, Try.func55, rfl, by kernel_rfl, by kernel_rfl, rfl⟩
theorem ok_ref02_fits : FnOk Try.prog 82 ref02_fits.c ref02_fits.r ref02_fits.n := ⟨Try.f82, (Try.f82.body).getD .skip, Try.func82, rfl, by kernel_rfl, by kernel_rfl, rfl⟩
theorem ok_ref02_bytes : FnOk Try.prog 83 ref02_bytes.c ref02_bytes.r ref02_bytes.n := ⟨Try.f83, (Try.f83.body).getD .skip, Try.func83, rfl, by kernel_rfl, by kernel_rfl, rfl⟩
theorem ok_ref02_Uint : FnOk Try.prog 73 (ref02_Uint.c 82 83) ref02_Uint.r ref02_Uint.n := ⟨Try.f73, (Try.f73.body).getD .skip, Try.func73, rfl, by kernel_rfl, by kernel_rfl, rfl⟩
theorem ok_ref02_Int : FnOk Try.prog 74 (ref02_Int.c 82 83) ref02_Int.r ref02_Int.n := ⟨Try.f74, (Try.f74.body).getD .skip, Try.func74, rfl, by kernel_rfl, by kernel_rfl, rfl⟩
theorem ok_ref02_Pad : FnOk Try.prog 59 ref02_Pad.c ref02_Pad.r ref02_Pad.n := ⟨Try.f59, (Try.f59.body).getD .skip, Try.func59, rfl, by kernel_rfl, by kernel_rfl, rfl⟩
theorem ok_ref03_bit : FnOk Try.prog 75 ref03_bit.c ref03_bit.r ref03_bit.n := ⟨Try.f75, (Try.f75.body).getD .skip, Try.func75, rfl, by kernel_rfl, by kernel_rfl, rfl⟩
theorem ok_ref03_CRC16 : FnOk Try.prog 60 (ref03_CRC16.c 75) ref03_CRC16.r ref03_CRC16.n := ⟨Try.f60, (Try.f60.body).getD .skip, Try.func60, rfl, by kernel_rfl, by kernel_rfl, rfl⟩
theorem ok_ref52_small : FnOk Try.prog 61 ref52_small.c ref52_small.r ref52_small.n := ⟨Try.f61, (Try.f61.body).getD .skip, Try.func61, rfl, by kernel_rfl, by kernel_rfl, rfl⟩
theorem ok_ref52_Valid : FnOk Try.prog 36 (ref52_Valid.c 61) ref52_Valid.r ref52_Valid.n := ⟨Try.f36, (Try.f36.body).getD .skip, Try.func36, rfl, by kernel_rfl, by kernel_rfl, rfl⟩
theorem ok_ref52_unsigned : FnOk Try.prog 57 (ref52_unsigned.c 73) ref52_unsigned.r ref52_unsigned.n := ⟨Try.f57, (Try.f57.body).getD .skip, Try.func57, rfl, by kernel_rfl, by kernel_rfl, rfl⟩
theorem ok_ref52_positions : FnOk Try.prog 58 (ref52_positions.c 74) ref52_positions.r ref52_positions.n := ⟨Try.f58, (Try.f58.body).getD .skip, Try.func58, rfl, by kernel_rfl, by kernel_rfl, rfl⟩
theorem ok_ref52_Encode : FnOk Try.prog 34 (ref52_Encode.c 36 57 58 60 59) ref52_Encode.r ref52_Encode.n := ⟨Try.f34, (Try.f34.body).getD .skip, Try.func34, rfl, by kernel_rfl, by kernel_rfl, rfl⟩
theorem ok_journal_encoder_put : FnOk Try.prog 52 journal_encoder_put.c journal_encoder_put.r journal_encoder_put.n := ⟨Try.f52, (Try.f52.body).getD .skip, Try.func52, rfl, by kernel_rfl, by kernel_rfl, rfl⟩
theorem ok_journal_Valid : FnOk Try.prog 35 journal_Valid.c journal_Valid.r journal_Valid.n := ⟨Try.f35, (Try.f35.body).getD .skip, Try.func35, rfl, by kernel_rfl, by kernel_rfl, rfl⟩
theorem ok_journal_Encode : FnOk Try.prog 33 (journal_Encode.c 35 52 53 54 55 56) journal_Encode.r journal_Encode.n := ⟨Try.f33, (Try.f33.body).getD .skip, Try.func33, rfl, by kernel_rfl, by kernel_rfl, rfl⟩
theorem ok_wire_take : FnOk Try.prog 76 (wire_take.c 70) wire_take.r wire_take.n := ⟨Try.f76, (Try.f76.body).getD .skip, Try.func76, rfl, by kernel_rfl, by kernel_rfl, rfl⟩
theorem ok_wire_TakeUint : FnOk Try.prog 62 (wire_TakeUint.c 76) wire_TakeUint.r wire_TakeUint.n := ⟨Try.f62, (Try.f62.body).getD .skip, Try.func62, rfl, by kernel_rfl, by kernel_rfl, rfl⟩
theorem ok_wire_TakeInt : FnOk Try.prog 64 (wire_TakeInt.c 76) wire_TakeInt.r wire_TakeInt.n := ⟨Try.f64, (Try.f64.body).getD .skip, Try.func64, rfl, by kernel_rfl, by kernel_rfl, rfl⟩
theorem ok_journal_reader_int_next : FnOk Try.prog 63 journal_reader_int_next.c journal_reader_int_next.r journal_reader_int_next.n := ⟨Try.f63, (Try.f63.body).getD .skip, Try.func63, rfl, by kernel_rfl, by kernel_rfl, rfl⟩
theorem ok_journal_Decode : FnOk Try.prog 38 (journal_Decode.c 62 63 64 33) journal_Decode.r journal_Decode.n := ⟨Try.f38, (Try.f38.body).getD .skip, Try.func38, rfl, by kernel_rfl, by kernel_rfl, rfl⟩
theorem ok_ref02_taken : FnOk Try.prog 84 (ref02_taken.c 82) ref02_taken.r ref02_taken.n := ⟨Try.f84, (Try.f84.body).getD .skip, Try.func84, rfl, by kernel_rfl, by kernel_rfl, rfl⟩
theorem ok_ref02_number : FnOk Try.prog 85 ref02_number.c ref02_number.r ref02_number.n := ⟨Try.f85, (Try.f85.body).getD .skip, Try.func85, rfl, by kernel_rfl, by kernel_rfl, rfl⟩
theorem ok_ref02_TakeUint : FnOk Try.prog 77 (ref02_TakeUint.c 84 85) ref02_TakeUint.r ref02_TakeUint.n := ⟨Try.f77, (Try.f77.body).getD .skip, Try.func77, rfl, by kernel_rfl, by kernel_rfl, rfl⟩
theorem ok_ref02_TakeInt : FnOk Try.prog 78 (ref02_TakeInt.c 84 85) ref02_TakeInt.r ref02_TakeInt.n := ⟨Try.f78, (Try.f78.body).getD .skip, Try.func78, rfl, by kernel_rfl, by kernel_rfl, rfl⟩
theorem ok_ref52_number : FnOk Try.prog 65 (ref52_number.c 77) ref52_number.r ref52_number.n := ⟨Try.f65, (Try.f65.body).getD .skip, Try.func65, rfl, by kernel_rfl, by kernel_rfl, rfl⟩
theorem ok_ref52_four : FnOk Try.prog 66 (ref52_four.c 78) ref52_four.r ref52_four.n := ⟨Try.f66, (Try.f66.body).getD .skip, Try.func66, rfl, by kernel_rfl, by kernel_rfl, rfl⟩
theorem ok_ref52_Decode : FnOk Try.prog 39 (ref52_Decode.c 65 66 34) ref52_Decode.r ref52_Decode.n := ⟨Try.f39, (Try.f39.body).getD .skip, Try.func39, rfl, by kernel_rfl, by kernel_rfl, rfl⟩
theorem ok_law52_awake : FnOk Try.prog 37 (law52_awake.c 33 38) law52_awake.r law52_awake.n := ⟨Try.f37, (Try.f37.body).getD .skip, Try.func37, rfl, by kernel_rfl, by kernel_rfl, rfl⟩
theorem ok_law52_JournalRecords : FnOk Try.prog 9 (law52_JournalRecords.c 33 34 35 36 37) law52_JournalRecords.r law52_JournalRecords.n := ⟨Try.f9, (Try.f9.body).getD .skip, Try.func9, rfl, by kernel_rfl, by kernel_rfl, rfl⟩
theorem ok_law52_JournalDecodes : FnOk Try.prog 10 (law52_JournalDecodes.c 37 38 39) law52_JournalDecodes.r law52_JournalDecodes.n := ⟨Try.f10, (Try.f10.body).getD .skip, Try.func10, rfl, by kernel_rfl, by kernel_rfl, rfl⟩
theorem ok_law52_JournalRoundTrips : FnOk Try.prog 11 (law52_JournalRoundTrips.c 33 38 35 37) law52_JournalRoundTrips.r law52_JournalRoundTrips.n := ⟨Try.f11, (Try.f11.body).getD .skip, Try.func11, rfl, by kernel_rfl, by kernel_rfl, rfl⟩
theorem ok_law52_JournalDamage : FnOk Try.prog 12 (law52_JournalDamage.c 33 37 38) law52_JournalDamage.r law52_JournalDamage.n := ⟨Try.f12, (Try.f12.body).getD .skip, Try.func12, rfl, by kernel_rfl, by kernel_rfl, rfl⟩

end Go.Proofs.Ytedcbjgnidjidaa
