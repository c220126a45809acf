/- What the program's functions do to values. -/
import Derived.Test.YtedcbjgnidjidaaJOk
import Derived.Test.YtedcbjgnidjidaaMOk
import Derived.Test.YtedcbjgnidjidaaLay
import Derived.Test.YtedcbjgnidjidaaFlP
import Derived.Test.YtedcbjgnidjidaaAbsST
set_option linter.unusedVariables false
set_option linter.unusedSimpArgs false
namespace Go.Proofs.Ytedcbjgnidjidaa
open Go.Abs

theorem own : ownKnob Try.prog.godebug = none := by kernel_rfl
theorem laid : laidOutB Try.prog = true := by kernel_rfl
theorem kValid : ValidWC Try.prog 70 := wire_valid_ok mix ok_wire_valid
theorem kFits : FitsC Try.prog 71 := wire_fits_ok mix ok_wire_fits
theorem kPut : PutC Try.prog 72 := wire_put_ok mix ok_wire_put
theorem kUint : UintC Try.prog 53 := wire_Uint_ok mix ok_wire_Uint kValid kFits kPut
theorem kInt : IntC Try.prog 54 := wire_Int_ok mix ok_wire_Int kValid kPut
theorem kPad : PadC Try.prog 56 := wire_Pad_ok mix ok_wire_Pad
theorem kCrc : CrcC Try.prog 55 := sum_CRC16_ok mix ok_sum_CRC16
theorem kRecValid : RecValidC Try.prog 35 := journal_Valid_ok mix ok_journal_Valid
theorem kEPut : EPutC Try.prog 52 := journal_put_ok mix ok_journal_encoder_put
theorem kEncode : RecEncC Try.prog 33 := journal_Encode_ok mix ok_journal_Encode kRecValid kEPut kUint kInt kCrc kPad (by kernel_rfl) (by kernel_rfl)
theorem kTake : TakeC Try.prog 76 := wire_take_ok mix ok_wire_take kValid
theorem kTakeU : TakeUC Try.prog 62 := wire_TakeUint_ok mix ok_wire_TakeUint kTake
theorem kTakeI : TakeIC Try.prog 64 := wire_TakeInt_ok mix ok_wire_TakeInt kTake
theorem kNext : NextC Try.prog 63 := journal_next_ok mix ok_journal_reader_int_next
theorem kDecode : DecC Try.prog 38 := journal_Decode_ok mix ok_journal_Decode kTakeU kNext kTakeI kEncode (by kernel_rfl) (by kernel_rfl)
theorem rValid : ValidWC Try.prog 82 := ref02_fits_ok mix ok_ref02_fits
theorem rBytes : BytesC Try.prog 83 := ref02_bytes_ok mix ok_ref02_bytes
theorem rUint : UintC Try.prog 73 := ref02_Uint_ok mix ok_ref02_Uint rValid rBytes
theorem rInt : IntC Try.prog 74 := ref02_Int_ok mix ok_ref02_Int rValid rBytes
theorem rPad : PadC Try.prog 59 := ref02_Pad_ok mix ok_ref02_Pad
theorem rBit : BitC Try.prog 75 := ref03_bit_ok mix ok_ref03_bit
theorem rCrc : CrcC Try.prog 60 := ref03_CRC16_ok mix ok_ref03_CRC16 rBit
theorem rSmall : SmallQC Try.prog 61 := ref52_small_ok mix ok_ref52_small
theorem rRecValid : RecValidC Try.prog 36 := ref52_Valid_ok mix ok_ref52_Valid rSmall
theorem rUns : UnsC Try.prog 57 := ref52_unsigned_ok mix ok_ref52_unsigned rUint
theorem rPos : PosC Try.prog 58 := ref52_positions_ok mix ok_ref52_positions rInt
theorem rEncode : RecEncC Try.prog 34 := ref52_Encode_ok mix ok_ref52_Encode rRecValid rUns rPos rCrc rPad
theorem rTaken : TakenC Try.prog 84 := ref02_taken_ok mix ok_ref02_taken rValid
theorem rNum : NumC Try.prog 85 := ref02_number_ok mix ok_ref02_number
theorem rTakeU : TakeUC Try.prog 77 := ref02_TakeUint_ok mix ok_ref02_TakeUint rTaken rNum
theorem rTakeI : TakeIC Try.prog 78 := ref02_TakeInt_ok mix ok_ref02_TakeInt rTaken rNum
theorem rNumber : NumberC Try.prog 65 := ref52_number_ok mix ok_ref52_number rTakeU
theorem rFour : FourC Try.prog 66 := ref52_four_ok mix ok_ref52_four rTakeI
theorem rDecode : DecC Try.prog 39 := ref52_Decode_ok mix ok_ref52_Decode rNumber rFour rEncode
theorem awake52 : AwakeC Try.prog 37 := law52_awake_ok mix ok_law52_awake kEncode kDecode
theorem kSort : SortC Try.prog 67 12 := sort_ok sortRecL Try.isAgg43 Try.sizeOf43
end Go.Proofs.Ytedcbjgnidjidaa
