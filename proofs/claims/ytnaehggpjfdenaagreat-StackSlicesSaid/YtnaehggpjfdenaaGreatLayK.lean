/- The contracts of the library at this program: which functions and types they speak of. -/
import Derived.Test.YtnaehggpjfdenaaGreatRows
import Derived.Shelf.SlicesG.CompactI
namespace Go.Proofs.YtnaehggpjfdenaaGreat
open Go.Shelf Go.Proofs
def Qnh:Go.Shelf.Ren:=⟨fun | 43=>117 | n=>n,fun | 22=>41 | 23=>3 | 3=>3 | 4=>4 | 0=>0 | n=>n,fun | n=>n⟩
theorem compIL:Go.Proofs.SlLaysN.n43 Tryz.prog Qnh:={
 mixed:=by kernel_rfl
 f43:=⟨Tryz.f117.name,by decide,Tryz.func117.trans (congrArg some (by kernel_rfl))⟩
 t0:=Tryz.underlying0
 a0:=Tryz.isAgg0
 z0:=Tryz.sizeOf0
 v0:=Tryz.zeroValue0
 t3:=Tryz.underlying3
 a3:=Tryz.isAgg3
 z3:=Tryz.sizeOf3
 v3:=Tryz.zeroValue3
 t4:=Tryz.underlying4
 a4:=Tryz.isAgg4
 z4:=Tryz.sizeOf4
 v4:=Tryz.zeroValue4
 t22:=Tryz.underlying41
 a22:=Tryz.isAgg41
 z22:=Tryz.sizeOf41
 v22:=Tryz.zeroValue41
 t23:=Tryz.underlying3
 a23:=Tryz.isAgg3
 z23:=Tryz.sizeOf3
 v23:=Tryz.zeroValue3
 i23:=by kernel_rfl }
end Go.Proofs.YtnaehggpjfdenaaGreat
