/- Part of the library on which the proof stands: an abstract machine, its values and its soundness against the model; or what functions of the program do to such values. -/
import Derived.Test.YtcdjgldeiaiaoaaGreatGoRevC
import Derived.Test.YtcdjgldeiaiaoaaGreatGoOriA
import Derived.Test.YtcdjgldeiaiaoaaGreatGoDet
import Derived.Test.YtcdjgldeiaiaoaaGreatGoClone
set_option linter.unusedVariables false
set_option linter.unusedSimpArgs false
namespace Go.Abs
def repair_Check.c (mesh_Check topo_Closed orient_Coherent weld_Degenerate repair_inverted:FuncId):C :=(.seq (.reg [⟨some 1,none,.box (.t 0)⟩,⟨some 2,none,.mv (.c (.i .i64 0))⟩]) (.seq (.seq (.reg [⟨some 5,none,.ld (some 2) (.t 1)⟩,⟨some 6,none,.call mesh_Check [.t 5]⟩,⟨some 3,none,.mv (.t 6)⟩]) (.seq (.reg [⟨some 7,none,.mv (.t 3)⟩,⟨some 8,none,.bin .neq (.t 7) (.c (.i .i64 0))⟩]) (.ite (.t 8) (.seq (.reg [⟨some 9,none,.mv (.t 3)⟩,⟨some 2,none,.mv (.t 9)⟩]) .ret) .skip))) (.seq (.seq (.reg [⟨some 10,none,.ld (some 2) (.t 1)⟩,⟨some 11,none,.call topo_Closed [.t 10]⟩,⟨some 12,none,.un .not (.t 11)⟩])
 (.ite (.t 12) (.seq (.reg [⟨some 2,none,.mv (.c (.i .i64 12))⟩]) .ret) .skip)) (.seq (.seq (.reg [⟨some 13,none,.ld (some 2) (.t 1)⟩,⟨some 14,none,.call orient_Coherent [.t 13]⟩,⟨some 15,none,.un .not (.t 14)⟩]) (.ite (.t 15) (.seq (.reg [⟨some 2,none,.mv (.c (.i .i64 13))⟩]) .ret) .skip)) (.seq (.seq (.reg [⟨some 16,none,.fa 1 (.t 1)⟩,⟨some 17,none,.ld none (.t 16)⟩,⟨some 18,none,.len 0 (.t 17)⟩,⟨some 19,none,.mv (.c (.i .i64 0))⟩]) (.blk 0 (.loop (.seq (.reg [⟨some 20,none,.bin .lss (.t 19) (.t 18)⟩]) (.seq (.ite (.t 20) .skip (.exit 0)) (.seq (.blk 1 (.seq (.reg [⟨some 21,none,.mv (.t 19)⟩,
 ⟨some 4,none,.mv (.t 21)⟩]) (.seq (.reg [⟨some 22,none,.ld (some 2) (.t 1)⟩,⟨some 23,none,.mv (.t 4)⟩,⟨some 24,none,.call weld_Degenerate [.t 22,.t 23]⟩]) (.ite (.t 24) (.seq (.reg [⟨some 2,none,.mv (.c (.i .i64 1))⟩]) .ret) .skip)))) (.reg [⟨some 25,none,.bin .add (.t 19) (.c (.i .i64 1))⟩,⟨some 19,none,.mv (.t 25)⟩]))))))) (.seq (.seq (.reg [⟨some 26,none,.ld (some 2) (.t 1)⟩,⟨some 27,none,.call repair_inverted [.t 26]⟩]) (.ite (.t 27) (.seq (.reg [⟨some 2,none,.mv (.c (.i .i64 1))⟩]) .ret) .skip)) (.seq (.reg [⟨some 2,none,.mv (.c (.i .i64 0))⟩]) .ret)))))))
def repair_Check.r:List Rr:=[.tmp 2]
abbrev repair_Check.n:Nat:=28
def repair_Repair.c (repair_job_weld repair_job_clean repair_job_orient repair_job_fill repair_job_outward repair_job_check:FuncId):C :=(.seq (.reg [⟨some 1,none,.box (.t 0)⟩,⟨some 2,none,.alloc [.nil,.nil]⟩,⟨some 3,none,.alloc [(.i .i64 0),(.i .i64 0),(.i .i64 0),(.i .i64 0),(.i .i64 0),(.i .i64 0),(.i .i64 0)]⟩,⟨some 4,none,.mv (.c (.i .i64 0))⟩]) (.seq (.reg [⟨some 10,none,.bso 1 7 [.any] [(0,(.c (.f repair_job_weld []))),(1,(.c (.f repair_job_clean []))),(2,(.c (.f repair_job_weld []))),(3,(.c (.f repair_job_orient []))),(4,(.c (.f repair_job_fill []))),(5,(.c (.f repair_job_outward []))),(6,(.c (.f repair_job_check [])))]⟩,
 ⟨some 5,none,.mv (.t 10)⟩]) (.seq (.reg [⟨some 11,none,.ld (some 2) (.t 1)⟩,⟨some 12,none,.build [.nil,.nil,(.i .i64 0),(.i .i64 0),(.i .i64 0),(.i .i64 0),(.i .i64 0),(.i .i64 0),(.i .i64 0)] [(0,2,(.t 11))]⟩,⟨some 13,none,.box (.t 12)⟩,⟨some 6,none,.mv (.t 13)⟩]) (.seq (.seq (.reg [⟨some 14,none,.mv (.t 5)⟩,⟨some 15,none,.len 0 (.t 14)⟩,⟨some 16,none,.mv (.c (.i .i64 0))⟩]) (.blk 0 (.loop (.seq (.reg [⟨some 17,none,.bin .lss (.t 16) (.t 15)⟩]) (.seq (.ite (.t 17) .skip (.exit 0)) (.seq (.blk 1 (.seq (.reg [⟨some 18,none,.ia 1 (.t 14) (.t 16)⟩,⟨some 19,none,.ld none (.t 18)⟩,⟨some 8,none,.mv (.t 19)⟩])
 (.seq (.reg [⟨some 20,none,.mv (.t 8)⟩,⟨some 21,none,.mv (.t 6)⟩,⟨some 22,none,.callv (.t 20) [.t 21]⟩,⟨some 9,none,.mv (.t 22)⟩]) (.seq (.reg [⟨some 23,none,.mv (.t 9)⟩,⟨some 24,none,.bin .neq (.t 23) (.c (.i .i64 0))⟩]) (.ite (.t 24) (.seq (.reg [⟨some 25,none,.build [.nil,.nil] []⟩,⟨some 26,none,.build [(.i .i64 0),(.i .i64 0),(.i .i64 0),(.i .i64 0),(.i .i64 0),(.i .i64 0),(.i .i64 0)] []⟩,⟨some 27,none,.mv (.t 9)⟩,⟨none,none,.st 2 (.t 2) (.t 25)⟩,⟨none,none,.st 7 (.t 3) (.t 26)⟩,⟨some 4,none,.mv (.t 27)⟩]) .ret) .skip))))) (.reg [⟨some 28,none,.bin .add (.t 16) (.c (.i .i64 1))⟩,⟨some 16,none,.mv (.t 28)⟩])))))))
 (.seq (.drw [⟨some 29,none,.mv (.t 6)⟩,⟨some 30,none,.nck (.t 29)⟩,⟨some 31,none,.fa 0 (.t 30)⟩,⟨some 32,none,.ld (some 2) (.t 31)⟩,⟨some 33,none,.mv (.t 6)⟩,⟨some 34,none,.nck (.t 33)⟩,⟨some 35,none,.fa 2 (.t 34)⟩,⟨some 36,none,.ld (some 7) (.t 35)⟩,⟨none,none,.st 2 (.t 2) (.t 32)⟩,⟨none,none,.st 7 (.t 3) (.t 36)⟩,⟨some 4,none,.mv (.c (.i .i64 0))⟩] [[],[],[],[],[],[],[],[],[5,6,7],[],[]]) .ret)))))
def repair_Repair.r:List Rr:=[.cell 2 (some 2),.cell 3 (some 7),.tmp 4]
abbrev repair_Repair.n:Nat:=37
def repair_inverted.c (topo_Shells mesh_Volume6:FuncId):C :=(.seq (.reg [⟨some 1,none,.box (.t 0)⟩,⟨some 2,none,.mv (.c (.b false))⟩]) (.seq (.seq (.reg [⟨some 8,none,.ld (some 2) (.t 1)⟩,⟨some 9,none,.call topo_Shells [.t 8]⟩,⟨some 10,none,.len 0 (.t 9)⟩,⟨some 11,none,.mv (.c (.i .i64 0))⟩]) (.blk 0 (.loop (.seq (.reg [⟨some 12,none,.bin .lss (.t 11) (.t 10)⟩]) (.seq (.ite (.t 12) .skip (.exit 0)) (.seq (.blk 1 (.seq (.reg [⟨some 13,none,.ia 1 (.t 9) (.t 11)⟩,⟨some 14,none,.ld none (.t 13)⟩,⟨some 4,none,.mv (.t 14)⟩]) (.seq (.reg [⟨some 15,none,.fa 0 (.t 1)⟩,⟨some 16,none,.ld none (.t 15)⟩,⟨some 17,none,.build [.nil,.nil] [(0,1,(.t 16))]⟩,
 ⟨some 5,none,.alloc [.nil,.nil]⟩,⟨none,none,.st 2 (.t 5) (.t 17)⟩]) (.seq (.seq (.reg [⟨some 18,none,.mv (.t 4)⟩,⟨some 19,none,.len 0 (.t 18)⟩,⟨some 20,none,.mv (.c (.i .i64 0))⟩]) (.blk 2 (.loop (.seq (.reg [⟨some 21,none,.bin .lss (.t 20) (.t 19)⟩]) (.seq (.ite (.t 21) .skip (.exit 2)) (.seq (.blk 3 (.seq (.reg [⟨some 22,none,.ia 1 (.t 18) (.t 20)⟩,⟨some 23,none,.ld none (.t 22)⟩,⟨some 7,none,.mv (.t 23)⟩]) (.drw [⟨some 24,none,.fa 1 (.t 5)⟩,⟨some 25,none,.ld none (.t 24)⟩,⟨some 26,none,.fa 1 (.t 1)⟩,⟨some 27,none,.ld none (.t 26)⟩,⟨some 28,none,.mv (.t 7)⟩,⟨some 29,none,.ia 3 (.t 27) (.t 28)⟩,
 ⟨some 30,none,.ld (some 3) (.t 29)⟩,⟨some 31,none,.bsi 3 1 [(.i .i64 0),(.i .i64 0),(.i .i64 0)] [(0,(.t 30))]⟩,⟨some 32,none,.app 3 24 (.t 25) (.t 31)⟩,⟨some 33,none,.fa 1 (.t 5)⟩,⟨none,none,.st 1 (.t 33) (.t 32)⟩] []))) (.reg [⟨some 34,none,.bin .add (.t 20) (.c (.i .i64 1))⟩,⟨some 20,none,.mv (.t 34)⟩]))))))) (.seq (.reg [⟨some 35,none,.ld (some 2) (.t 5)⟩,⟨some 36,none,.call mesh_Volume6 [.t 35]⟩,⟨some 37,none,.bin .lss (.t 36) (.c (.i .i64 0))⟩]) (.ite (.t 37) (.seq (.reg [⟨some 2,none,.mv (.c (.b true))⟩]) .ret) .skip)))))) (.reg [⟨some 38,none,.bin .add (.t 11) (.c (.i .i64 1))⟩,⟨some 11,none,.mv (.t 38)⟩])))))))
 (.seq (.reg [⟨some 2,none,.mv (.c (.b false))⟩]) .ret)))
def repair_inverted.r:List Rr:=[.tmp 2]
abbrev repair_inverted.n:Nat:=39
def repair_job_check.c (topo_Shells repair_Check:FuncId):C :=(.seq (.reg [⟨some 2,none,.mv (.c (.i .i64 0))⟩]) (.seq (.reg [⟨some 3,none,.mv (.t 0)⟩,⟨some 4,none,.mv (.t 0)⟩,⟨some 5,none,.nck (.t 4)⟩,⟨some 6,none,.fa 0 (.t 5)⟩,⟨some 7,none,.ld (some 2) (.t 6)⟩,⟨some 8,none,.call topo_Shells [.t 7]⟩,⟨some 9,none,.len 0 (.t 8)⟩,⟨some 10,none,.nck (.t 3)⟩,⟨some 11,none,.fa 2 (.t 10)⟩,⟨some 12,none,.fa 6 (.t 11)⟩,⟨none,none,.st 1 (.t 12) (.t 9)⟩]) (.seq (.reg [⟨some 13,none,.mv (.t 0)⟩,⟨some 14,none,.nck (.t 13)⟩,⟨some 15,none,.fa 0 (.t 14)⟩,⟨some 16,none,.ld (some 2) (.t 15)⟩,⟨some 17,none,.call repair_Check [.t 16]⟩,
 ⟨some 2,none,.mv (.t 17)⟩]) .ret)))
def repair_job_check.r:List Rr:=[.tmp 2]
abbrev repair_job_check.n:Nat:=18
def repair_job_clean.c (weld_Clean:FuncId):C :=(.seq (.reg [⟨some 2,none,.mv (.c (.i .i64 0))⟩]) (.seq (.reg [⟨some 8,none,.mv (.t 0)⟩,⟨some 9,none,.nck (.t 8)⟩,⟨some 10,none,.fa 0 (.t 9)⟩,⟨some 11,none,.ld (some 2) (.t 10)⟩,⟨some 12,none,.call weld_Clean [.t 11]⟩,⟨some 7,none,.mv (.t 12)⟩,⟨some 13,none,.ext (.t 7) 0⟩,⟨some 14,none,.ext (.t 7) 1⟩,⟨some 15,none,.ext (.t 7) 2⟩,⟨some 16,none,.ext (.t 7) 3⟩,⟨some 3,none,.alloc [.nil,.nil]⟩,⟨none,none,.st 2 (.t 3) (.t 13)⟩,⟨some 4,none,.mv (.t 14)⟩,⟨some 5,none,.mv (.t 15)⟩,⟨some 6,none,.mv (.t 16)⟩]) (.seq (.reg [⟨some 17,none,.mv (.t 0)⟩,⟨some 18,none,.ld (some 2) (.t 3)⟩,
 ⟨some 19,none,.nck (.t 17)⟩,⟨some 20,none,.fa 0 (.t 19)⟩,⟨none,none,.st 2 (.t 20) (.t 18)⟩]) (.seq (.reg [⟨some 21,none,.mv (.t 0)⟩,⟨some 22,none,.mv (.t 4)⟩,⟨some 23,none,.nck (.t 21)⟩,⟨some 24,none,.fa 2 (.t 23)⟩,⟨some 25,none,.fa 1 (.t 24)⟩,⟨none,none,.st 1 (.t 25) (.t 22)⟩]) (.seq (.reg [⟨some 26,none,.mv (.t 0)⟩,⟨some 27,none,.mv (.t 5)⟩,⟨some 28,none,.nck (.t 26)⟩,⟨some 29,none,.fa 2 (.t 28)⟩,⟨some 30,none,.fa 2 (.t 29)⟩,⟨none,none,.st 1 (.t 30) (.t 27)⟩]) (.seq (.reg [⟨some 31,none,.mv (.t 6)⟩,⟨some 2,none,.mv (.t 31)⟩]) .ret))))))
def repair_job_clean.r:List Rr:=[.tmp 2]
abbrev repair_job_clean.n:Nat:=32
def repair_job_fill.c (holes_Fill:FuncId):C :=(.seq (.reg [⟨some 2,none,.mv (.c (.i .i64 0))⟩]) (.seq (.reg [⟨some 7,none,.mv (.t 0)⟩,⟨some 8,none,.nck (.t 7)⟩,⟨some 9,none,.fa 0 (.t 8)⟩,⟨some 10,none,.ld (some 2) (.t 9)⟩,⟨some 11,none,.call holes_Fill [.t 10]⟩,⟨some 6,none,.mv (.t 11)⟩,⟨some 12,none,.ext (.t 6) 0⟩,⟨some 13,none,.ext (.t 6) 1⟩,⟨some 14,none,.ext (.t 6) 2⟩,⟨some 3,none,.alloc [.nil,.nil]⟩,⟨none,none,.st 2 (.t 3) (.t 12)⟩,⟨some 4,none,.mv (.t 13)⟩,⟨some 5,none,.mv (.t 14)⟩]) (.seq (.reg [⟨some 15,none,.mv (.t 0)⟩,⟨some 16,none,.ld (some 2) (.t 3)⟩,⟨some 17,none,.nck (.t 15)⟩,⟨some 18,none,.fa 0 (.t 17)⟩,
 ⟨none,none,.st 2 (.t 18) (.t 16)⟩]) (.seq (.reg [⟨some 19,none,.mv (.t 0)⟩,⟨some 20,none,.mv (.t 4)⟩,⟨some 21,none,.nck (.t 19)⟩,⟨some 22,none,.fa 2 (.t 21)⟩,⟨some 23,none,.fa 4 (.t 22)⟩,⟨none,none,.st 1 (.t 23) (.t 20)⟩]) (.seq (.reg [⟨some 24,none,.mv (.t 5)⟩,⟨some 2,none,.mv (.t 24)⟩]) .ret)))))
def repair_job_fill.r:List Rr:=[.tmp 2]
abbrev repair_job_fill.n:Nat:=25
def repair_job_orient.c (orient_Orient:FuncId):C :=(.seq (.reg [⟨some 2,none,.mv (.c (.i .i64 0))⟩]) (.seq (.reg [⟨some 7,none,.mv (.t 0)⟩,⟨some 8,none,.nck (.t 7)⟩,⟨some 9,none,.fa 0 (.t 8)⟩,⟨some 10,none,.ld (some 2) (.t 9)⟩,⟨some 11,none,.call orient_Orient [.t 10]⟩,⟨some 6,none,.mv (.t 11)⟩,⟨some 12,none,.ext (.t 6) 0⟩,⟨some 13,none,.ext (.t 6) 1⟩,⟨some 14,none,.ext (.t 6) 2⟩,⟨some 3,none,.alloc [.nil,.nil]⟩,⟨none,none,.st 2 (.t 3) (.t 12)⟩,⟨some 4,none,.mv (.t 13)⟩,⟨some 5,none,.mv (.t 14)⟩]) (.seq (.reg [⟨some 15,none,.mv (.t 0)⟩,⟨some 16,none,.ld (some 2) (.t 3)⟩,⟨some 17,none,.nck (.t 15)⟩,
 ⟨some 18,none,.fa 0 (.t 17)⟩,⟨none,none,.st 2 (.t 18) (.t 16)⟩]) (.seq (.reg [⟨some 19,none,.mv (.t 0)⟩,⟨some 20,none,.mv (.t 4)⟩,⟨some 21,none,.nck (.t 19)⟩,⟨some 22,none,.fa 2 (.t 21)⟩,⟨some 23,none,.fa 3 (.t 22)⟩,⟨none,none,.st 1 (.t 23) (.t 20)⟩]) (.seq (.reg [⟨some 24,none,.mv (.t 5)⟩,⟨some 2,none,.mv (.t 24)⟩]) .ret)))))
def repair_job_orient.r:List Rr:=[.tmp 2]
abbrev repair_job_orient.n:Nat:=25
def repair_job_outward.c (orient_Outward:FuncId):C :=(.seq (.reg [⟨some 2,none,.mv (.c (.i .i64 0))⟩]) (.seq (.reg [⟨some 7,none,.mv (.t 0)⟩,⟨some 8,none,.nck (.t 7)⟩,⟨some 9,none,.fa 0 (.t 8)⟩,⟨some 10,none,.ld (some 2) (.t 9)⟩,⟨some 11,none,.call orient_Outward [.t 10]⟩,⟨some 6,none,.mv (.t 11)⟩,⟨some 12,none,.ext (.t 6) 0⟩,⟨some 13,none,.ext (.t 6) 1⟩,⟨some 14,none,.ext (.t 6) 2⟩,⟨some 3,none,.alloc [.nil,.nil]⟩,⟨none,none,.st 2 (.t 3) (.t 12)⟩,⟨some 4,none,.mv (.t 13)⟩,⟨some 5,none,.mv (.t 14)⟩]) (.seq (.reg [⟨some 15,none,.mv (.t 0)⟩,⟨some 16,none,.ld (some 2) (.t 3)⟩,⟨some 17,none,.nck (.t 15)⟩,
 ⟨some 18,none,.fa 0 (.t 17)⟩,⟨none,none,.st 2 (.t 18) (.t 16)⟩]) (.seq (.reg [⟨some 19,none,.mv (.t 0)⟩,⟨some 20,none,.mv (.t 4)⟩,⟨some 21,none,.nck (.t 19)⟩,⟨some 22,none,.fa 2 (.t 21)⟩,⟨some 23,none,.fa 5 (.t 22)⟩,⟨none,none,.st 1 (.t 23) (.t 20)⟩]) (.seq (.reg [⟨some 24,none,.mv (.t 5)⟩,⟨some 2,none,.mv (.t 24)⟩]) .ret)))))
def repair_job_outward.r:List Rr:=[.tmp 2]
abbrev repair_job_outward.n:Nat:=25
def repair_job_weld.c (weld_Weld:FuncId):C :=(.seq (.reg [⟨some 2,none,.mv (.c (.i .i64 0))⟩]) (.seq (.reg [⟨some 7,none,.mv (.t 0)⟩,⟨some 8,none,.nck (.t 7)⟩,⟨some 9,none,.fa 0 (.t 8)⟩,⟨some 10,none,.ld (some 2) (.t 9)⟩,⟨some 11,none,.call weld_Weld [.t 10]⟩,⟨some 6,none,.mv (.t 11)⟩,⟨some 12,none,.ext (.t 6) 0⟩,⟨some 13,none,.ext (.t 6) 1⟩,⟨some 14,none,.ext (.t 6) 2⟩,⟨some 3,none,.alloc [.nil,.nil]⟩,⟨none,none,.st 2 (.t 3) (.t 12)⟩,⟨some 4,none,.mv (.t 13)⟩,⟨some 5,none,.mv (.t 14)⟩]) (.seq (.reg [⟨some 15,none,.mv (.t 0)⟩,⟨some 16,none,.ld (some 2) (.t 3)⟩,⟨some 17,none,.nck (.t 15)⟩,⟨some 18,none,.fa 0 (.t 17)⟩,
 ⟨none,none,.st 2 (.t 18) (.t 16)⟩]) (.seq (.reg [⟨some 19,none,.mv (.t 0)⟩,⟨some 20,none,.nck (.t 19)⟩,⟨some 21,none,.fa 2 (.t 20)⟩,⟨some 22,none,.fa 0 (.t 21)⟩,⟨some 23,none,.ld none (.t 22)⟩,⟨some 24,none,.mv (.t 4)⟩,⟨some 25,none,.bin .add (.t 23) (.t 24)⟩,⟨some 26,none,.nck (.t 19)⟩,⟨some 27,none,.fa 2 (.t 26)⟩,⟨some 28,none,.fa 0 (.t 27)⟩,⟨none,none,.st 1 (.t 28) (.t 25)⟩]) (.seq (.reg [⟨some 29,none,.mv (.t 5)⟩,⟨some 2,none,.mv (.t 29)⟩]) .ret)))))
def repair_job_weld.r:List Rr:=[.tmp 2]
abbrev repair_job_weld.n:Nat:=30
def law14_few.c:C :=(.seq (.reg [⟨some 1,none,.box (.t 0)⟩,⟨some 2,none,.mv (.c (.b false))⟩]) (.seq (.reg [⟨some 3,none,.fa 0 (.t 1)⟩,⟨some 4,none,.ld none (.t 3)⟩,⟨some 5,none,.len 0 (.t 4)⟩,⟨some 6,none,.bin .leq (.t 5) (.c (.i .i64 60))⟩,⟨some 7,none,.mv (.t 6)⟩,⟨some 8,(some (7,true)),.fa 1 (.t 1)⟩,⟨some 9,(some (7,true)),.ld none (.t 8)⟩,⟨some 10,(some (7,true)),.len 0 (.t 9)⟩,⟨some 11,(some (7,true)),.bin .leq (.t 10) (.c (.i .i64 60))⟩,⟨some 12,none,.pick (.t 7) (.t 11) (.c (.b false))⟩,⟨some 2,none,.mv (.t 12)⟩]) .ret))
def law14_few.r:List Rr:=[.tmp 2]
abbrev law14_few.n:Nat:=13
def law14_works.c (repair_Repair repair_Check:FuncId):C :=(.seq (.reg [⟨some 0,none,.mv (.c (.b false))⟩]) (.seq (.reg [⟨some 6,none,.build [(.i .i64 0),(.i .i64 0),(.i .i64 0)] []⟩,⟨some 7,none,.build [(.i .i64 0),(.i .i64 0),(.i .i64 0)] [(0,1,(.c (.i .i64 1)))]⟩,⟨some 8,none,.build [(.i .i64 0),(.i .i64 0),(.i .i64 0)] [(0,1,(.c (.i .i64 2)))]⟩,⟨some 9,none,.bso 3 3 [(.i .i64 0),(.i .i64 0),(.i .i64 0)] [(0,(.t 6)),(1,(.t 7)),(2,(.t 8))]⟩,⟨some 1,none,.mv (.t 9)⟩]) (.seq (.reg [⟨some 10,none,.build [(.i .i64 0),(.i .i64 0),(.i .i64 0)] [(0,1,(.c (.i .i64 0))),(1,1,(.c (.i .i64 1))),(2,1,(.c (.i .i64 2)))]⟩,
 ⟨some 11,none,.bso 3 1 [(.i .i64 0),(.i .i64 0),(.i .i64 0)] [(0,(.t 10))]⟩,⟨some 2,none,.mv (.t 11)⟩]) (.seq (.reg [⟨some 13,none,.mv (.t 1)⟩,⟨some 14,none,.mv (.t 2)⟩,⟨some 15,none,.build [.nil,.nil] [(0,1,(.t 13)),(1,1,(.t 14))]⟩,⟨some 16,none,.call repair_Repair [.t 15]⟩,⟨some 12,none,.mv (.t 16)⟩,⟨some 17,none,.ext (.t 12) 0⟩,⟨some 18,none,.ext (.t 12) 1⟩,⟨some 19,none,.ext (.t 12) 2⟩,⟨some 3,none,.alloc [.nil,.nil]⟩,⟨some 4,none,.alloc [(.i .i64 0),(.i .i64 0),(.i .i64 0),(.i .i64 0),(.i .i64 0),(.i .i64 0),(.i .i64 0)]⟩,⟨none,none,.st 2 (.t 3) (.t 17)⟩,⟨none,none,.st 7 (.t 4) (.t 18)⟩,
 ⟨some 5,none,.mv (.t 19)⟩]) (.seq (.reg [⟨some 20,none,.build [.nil,.nil] []⟩,⟨some 21,none,.call repair_Check [.t 20]⟩,⟨some 22,none,.bin .eql (.t 21) (.c (.i .i64 0))⟩,⟨some 23,none,.mv (.t 22)⟩,⟨some 24,(some (23,true)),.build [(.i .i64 0),(.i .i64 0),(.i .i64 0)] []⟩,⟨some 25,(some (23,true)),.build [(.i .i64 0),(.i .i64 0),(.i .i64 0)] [(0,1,(.c (.i .i64 1)))]⟩,⟨some 26,(some (23,true)),.build [(.i .i64 0),(.i .i64 0),(.i .i64 0)] [(1,1,(.c (.i .i64 1)))]⟩,⟨some 27,(some (23,true)),.bso 3 3 [(.i .i64 0),(.i .i64 0),(.i .i64 0)] [(0,(.t 24)),(1,(.t 25)),(2,(.t 26))]⟩,⟨some 28,(some (23,true)),.mv (.t 2)⟩,
 ⟨some 29,(some (23,true)),.build [.nil,.nil] [(0,1,(.t 27)),(1,1,(.t 28))]⟩,⟨some 30,(some (23,true)),.call repair_Check [.t 29]⟩,⟨some 31,(some (23,true)),.bin .eql (.t 30) (.c (.i .i64 12))⟩,⟨some 32,none,.pick (.t 23) (.t 31) (.c (.b false))⟩,⟨some 33,none,.mv (.t 32)⟩,⟨some 34,(some (33,true)),.mv (.t 5)⟩,⟨some 35,(some (33,true)),.bin .eql (.t 34) (.c (.i .i64 0))⟩,⟨some 36,none,.pick (.t 33) (.t 35) (.c (.b false))⟩,⟨some 37,none,.mv (.t 36)⟩,⟨some 38,(some (37,true)),.fa 0 (.t 3)⟩,⟨some 39,(some (37,true)),.ld none (.t 38)⟩,⟨some 40,(some (37,true)),.len 0 (.t 39)⟩,⟨some 41,(some (37,true)),.bin .eql (.t 40) (.c (.i .i64 0))⟩,
 ⟨some 42,none,.pick (.t 37) (.t 41) (.c (.b false))⟩,⟨some 43,none,.mv (.t 42)⟩,⟨some 44,(some (43,true)),.fa 1 (.t 3)⟩,⟨some 45,(some (43,true)),.ld none (.t 44)⟩,⟨some 46,(some (43,true)),.len 0 (.t 45)⟩,⟨some 47,(some (43,true)),.bin .eql (.t 46) (.c (.i .i64 0))⟩,⟨some 48,none,.pick (.t 43) (.t 47) (.c (.b false))⟩,⟨some 49,none,.mv (.t 48)⟩,⟨some 50,(some (49,true)),.ld (some 7) (.t 4)⟩,⟨some 51,(some (49,true)),.build [(.i .i64 0),(.i .i64 0),(.i .i64 0),(.i .i64 0),(.i .i64 0),(.i .i64 0),(.i .i64 0)] [(0,1,(.c (.i .i64 3))),(1,1,(.c (.i .i64 1)))]⟩,⟨some 52,(some (49,true)),.eqa [1,1,1,1,1,1,1] false (.t 50) (.t 51)⟩,
 ⟨some 53,none,.pick (.t 49) (.t 52) (.c (.b false))⟩,⟨some 0,none,.mv (.t 53)⟩]) .ret)))))
def law14_works.r:List Rr:=[.tmp 0]
abbrev law14_works.n:Nat:=54
end Go.Abs
set_option linter.unusedVariables false
set_option linter.unusedSimpArgs false
namespace Go.Abs
def orient_Outward.c (mesh_Check topo_Closed orient_coherent slices_Clone_api_Vec_api_Vec slices_Clone_api_Tri_api_Tri topo_Shells mesh_Volume6 orient_reversed:FuncId):C :=(.seq (.reg [⟨some 1,none,.box (.t 0)⟩,⟨some 2,none,.alloc [.nil,.nil]⟩,⟨some 3,none,.mv (.c (.i .i64 0))⟩,⟨some 4,none,.mv (.c (.i .i64 0))⟩]) (.seq (.reg [⟨some 15,none,.ld (some 2) (.t 1)⟩,⟨some 16,none,.call mesh_Check [.t 15]⟩,⟨some 5,none,.mv (.t 16)⟩]) (.seq (.blk 0 (.seq (.reg [⟨some 18,none,.mv (.t 5)⟩,⟨some 19,none,.bin .neq (.t 18) (.c (.i .i64 0))⟩,⟨some 17,none,.mv (.t 19)⟩]) (.ite (.t 17) (.seq (.reg [⟨some 20,none,.build [.nil,.nil] []⟩,
 ⟨some 21,none,.mv (.t 5)⟩,⟨none,none,.st 2 (.t 2) (.t 20)⟩,⟨some 3,none,.mv (.c (.i .i64 0))⟩,⟨some 4,none,.mv (.t 21)⟩]) .ret) (.seq (.reg [⟨some 23,none,.ld (some 2) (.t 1)⟩,⟨some 24,none,.call topo_Closed [.t 23]⟩,⟨some 25,none,.un .not (.t 24)⟩,⟨some 22,none,.mv (.t 25)⟩]) (.ite (.t 22) (.seq (.reg [⟨some 26,none,.build [.nil,.nil] []⟩,⟨none,none,.st 2 (.t 2) (.t 26)⟩,⟨some 3,none,.mv (.c (.i .i64 0))⟩,⟨some 4,none,.mv (.c (.i .i64 12))⟩]) .ret) (.seq (.reg [⟨some 28,none,.fa 1 (.t 1)⟩,⟨some 29,none,.ld none (.t 28)⟩,⟨some 30,none,.call orient_coherent [.t 29]⟩,⟨some 31,none,.un .not (.t 30)⟩,
 ⟨some 27,none,.mv (.t 31)⟩]) (.ite (.t 27) (.seq (.reg [⟨some 32,none,.build [.nil,.nil] []⟩,⟨none,none,.st 2 (.t 2) (.t 32)⟩,⟨some 3,none,.mv (.c (.i .i64 0))⟩,⟨some 4,none,.mv (.c (.i .i64 13))⟩]) .ret) .skip))))))) (.seq (.drw [⟨some 33,none,.fa 0 (.t 1)⟩,⟨some 34,none,.ld none (.t 33)⟩,⟨some 35,none,.call slices_Clone_api_Vec_api_Vec [.t 34]⟩,⟨some 36,none,.fa 1 (.t 1)⟩,⟨some 37,none,.ld none (.t 36)⟩,⟨some 38,none,.call slices_Clone_api_Tri_api_Tri [.t 37]⟩,⟨some 39,none,.build [.nil,.nil] [(0,1,(.t 35)),(1,1,(.t 38))]⟩,⟨some 6,none,.alloc [.nil,.nil]⟩,⟨none,none,.st 2 (.t 6) (.t 39)⟩] [[],[],[],[2],[2],[],[],[],[]])
 (.seq (.reg [⟨some 7,none,.mv (.c (.i .i64 0))⟩]) (.seq (.seq (.reg [⟨some 40,none,.ld (some 2) (.t 1)⟩,⟨some 41,none,.call topo_Shells [.t 40]⟩,⟨some 42,none,.len 0 (.t 41)⟩,⟨some 43,none,.mv (.c (.i .i64 0))⟩]) (.blk 1 (.loop (.seq (.reg [⟨some 44,none,.bin .lss (.t 43) (.t 42)⟩]) (.seq (.ite (.t 44) .skip (.exit 1)) (.seq (.blk 2 (.seq (.reg [⟨some 45,none,.ia 1 (.t 41) (.t 43)⟩,⟨some 46,none,.ld none (.t 45)⟩,⟨some 9,none,.mv (.t 46)⟩]) (.seq (.reg [⟨some 47,none,.fa 0 (.t 1)⟩,⟨some 48,none,.ld none (.t 47)⟩,⟨some 49,none,.build [.nil,.nil] [(0,1,(.t 48))]⟩,⟨some 10,none,.alloc [.nil,.nil]⟩,
 ⟨none,none,.st 2 (.t 10) (.t 49)⟩]) (.seq (.seq (.reg [⟨some 50,none,.mv (.t 9)⟩,⟨some 51,none,.len 0 (.t 50)⟩,⟨some 52,none,.mv (.c (.i .i64 0))⟩]) (.blk 3 (.loop (.seq (.reg [⟨some 53,none,.bin .lss (.t 52) (.t 51)⟩]) (.seq (.ite (.t 53) .skip (.exit 3)) (.seq (.blk 4 (.seq (.reg [⟨some 54,none,.ia 1 (.t 50) (.t 52)⟩,⟨some 55,none,.ld none (.t 54)⟩,⟨some 12,none,.mv (.t 55)⟩]) (.drw [⟨some 56,none,.fa 1 (.t 10)⟩,⟨some 57,none,.ld none (.t 56)⟩,⟨some 58,none,.fa 1 (.t 1)⟩,⟨some 59,none,.ld none (.t 58)⟩,⟨some 60,none,.mv (.t 12)⟩,⟨some 61,none,.ia 3 (.t 59) (.t 60)⟩,⟨some 62,none,.ld (some 3) (.t 61)⟩,
 ⟨some 63,none,.bsi 3 1 [(.i .i64 0),(.i .i64 0),(.i .i64 0)] [(0,(.t 62))]⟩,⟨some 64,none,.app 3 24 (.t 57) (.t 63)⟩,⟨some 65,none,.fa 1 (.t 10)⟩,⟨none,none,.st 1 (.t 65) (.t 64)⟩] []))) (.reg [⟨some 66,none,.bin .add (.t 52) (.c (.i .i64 1))⟩,⟨some 52,none,.mv (.t 66)⟩]))))))) (.seq (.seq (.reg [⟨some 67,none,.ld (some 2) (.t 10)⟩,⟨some 68,none,.call mesh_Volume6 [.t 67]⟩,⟨some 69,none,.bin .geq (.t 68) (.c (.i .i64 0))⟩]) (.ite (.t 69) (.exit 2) .skip)) (.seq (.reg [⟨some 70,none,.mv (.t 7)⟩,⟨some 71,none,.bin .add (.t 70) (.c (.i .i64 1))⟩,⟨some 7,none,.mv (.t 71)⟩]) (.seq (.reg [⟨some 72,none,.mv (.t 9)⟩,
 ⟨some 73,none,.len 0 (.t 72)⟩,⟨some 74,none,.mv (.c (.i .i64 0))⟩]) (.blk 5 (.loop (.seq (.reg [⟨some 75,none,.bin .lss (.t 74) (.t 73)⟩]) (.seq (.ite (.t 75) .skip (.exit 5)) (.seq (.blk 6 (.seq (.reg [⟨some 76,none,.ia 1 (.t 72) (.t 74)⟩,⟨some 77,none,.ld none (.t 76)⟩,⟨some 14,none,.mv (.t 77)⟩]) (.drw [⟨some 78,none,.fa 1 (.t 6)⟩,⟨some 79,none,.ld none (.t 78)⟩,⟨some 80,none,.mv (.t 14)⟩,⟨some 81,none,.fa 1 (.t 1)⟩,⟨some 82,none,.ld none (.t 81)⟩,⟨some 83,none,.mv (.t 14)⟩,⟨some 84,none,.ia 3 (.t 82) (.t 83)⟩,⟨some 85,none,.ld (some 3) (.t 84)⟩,⟨some 86,none,.call orient_reversed [.t 85]⟩,
 ⟨some 87,none,.ia 3 (.t 79) (.t 80)⟩,⟨none,none,.st 3 (.t 87) (.t 86)⟩] [[],[],[],[],[],[],[],[],[0,1],[],[]]))) (.reg [⟨some 88,none,.bin .add (.t 74) (.c (.i .i64 1))⟩,⟨some 74,none,.mv (.t 88)⟩]))))))))))))) (.reg [⟨some 89,none,.bin .add (.t 43) (.c (.i .i64 1))⟩,⟨some 43,none,.mv (.t 89)⟩]))))))) (.seq (.reg [⟨some 90,none,.ld (some 2) (.t 6)⟩,⟨some 91,none,.mv (.t 7)⟩,⟨none,none,.st 2 (.t 2) (.t 90)⟩,⟨some 3,none,.mv (.t 91)⟩,⟨some 4,none,.mv (.c (.i .i64 0))⟩]) .ret)))))))
def orient_Outward.r:List Rr:=[.cell 2 (some 2),.tmp 3,.tmp 4]
abbrev orient_Outward.n:Nat:=92
end Go.Abs
set_option linter.unusedVariables false
set_option linter.unusedSimpArgs false
namespace Go.Abs
def SmallVC (P:Program) (f:FuncId):Prop:=∀ v:V3,CallIs P f [v.enc] (.b (v.within 131072))
def CrossVC (P:Program) (f:FuncId):Prop:=∀ b c:V3,b.valid = true→c.valid = true→CallIs P f [b.enc,c.enc] (crs b c).enc
def DotVC (P:Program) (f:FuncId):Prop:=∀ a b:V3,a.valid = true→b.within 8589934592 = true→CallIs P f [a.enc,b.enc] (.i .i64 (dot3 a b))
theorem valid_small {v:V3} (h:v.valid = true):v.within 131072 = true:=by
 have:=V3.valid_iff.1 h
 simp [V3.within];omega
theorem within_mono {v:V3} {a b:Int} (hab:a ≤ b) (h:v.within a = true):v.within b = true:=by
 simp [V3.within] at h ⊢;omega
theorem crs_within {b c:V3} (hb:b.valid = true) (hc:c.valid = true):(crs b c).within 8589934592 = true:=by
 have:=crs_b hb hc
 simp [V3.within];omega
section
variable {P:Program} (hm:P.follows .mixedOrders = true)
include hm
theorem vec_small_ok {f fw:FuncId} (hf:FnOk P f (vec_small.c fw) vec_small.r vec_small.n) (hw:WithinC P fw):SmallVC P f:=by
 intro v
 refine PureC.is (pure_of hm hf (Nat.le_of_ble_eq_true rfl) ?_) rfl
 unfold vec_small.c
 simp [go_sem,V3.enc,V3.cs]
 refine ACall_is ((hw v 131072 (by omega) (by omega)).is rfl) ?_
 simp [go_sem,vec_small.r]
set_option maxHeartbeats 4000000 in
theorem vec_Cross_ok {f fs:FuncId} (hf:FnOk P f (vec_Cross.c fs) vec_Cross.r vec_Cross.n) (hs:SmallVC P fs):CrossVC P f:=by
 intro b c hb hc
 refine PureC.is (pure_of hm hf (Nat.le_of_ble_eq_true rfl) ?_) rfl
 unfold vec_Cross.c
 have h1:=hs b
 have h2:=hs c
 rw [valid_small hb] at h1
 rw [valid_small hc] at h2
 obtain⟨b1,b2,b3,b4,b5,b6⟩:=V3.valid_iff.1 hb
 obtain⟨c1,c2,c3,c4,c5,c6⟩:=V3.valid_iff.1 hc
 have m1:=mul16 b3 b4 c5 c6
 have m2:=mul16 b5 b6 c3 c4
 have m3:=mul16 b5 b6 c1 c2
 have m4:=mul16 b1 b2 c5 c6
 have m5:=mul16 b1 b2 c3 c4
 have m6:=mul16 b3 b4 c1 c2
 have hcr:crs b c = ⟨b.y * c.z - b.z * c.y,b.z * c.x - b.x * c.z,b.x * c.y - b.y * c.x⟩:=rfl
 rw [hcr]
 simp [go_sem,V3.enc,V3.cs] at h1 h2 ⊢
 refine ACall_is h1 ?_
 simp [go_sem]
 refine ACall_is h2 ?_
 simp (disch:=omega) [go_sem,wrap64_small,vec_Cross.r]
set_option maxHeartbeats 4000000 in
theorem vec_Dot_ok {f fs fw:FuncId} (hf:FnOk P f (vec_Dot.c fs fw) vec_Dot.r vec_Dot.n) (hs:SmallVC P fs) (hw:WithinC P fw):DotVC P f:=by
 intro a b ha hb
 refine PureC.is (pure_of hm hf (Nat.le_of_ble_eq_true rfl) ?_) rfl
 unfold vec_Dot.c
 have h1:=hs a
 have h2:=(hw b 1099511627776 (by omega) (by omega)).is rfl
 rw [valid_small ha] at h1
 rw [within_mono (by omega) hb] at h2
 obtain⟨b1,b2,b3,b4,b5,b6⟩:=V3.valid_iff.1 ha
 simp only [V3.within,Bool.and_eq_true,decide_eq_true_eq] at hb
 obtain⟨⟨⟨⟨⟨c1,c2⟩,c3⟩,c4⟩,c5⟩,c6⟩:=hb
 have m1:=mulB b1 b2 c1 c2
 have m2:=mulB b3 b4 c3 c4
 have m3:=mulB b5 b6 c5 c6
 have hd:dot3 a b = a.x * b.x + a.y * b.y + a.z * b.z:=rfl
 rw [hd]
 simp [go_sem,V3.enc,V3.cs] at h1 h2 ⊢
 refine ACall_is h1 ?_
 simp [go_sem]
 refine ACall_is h2 ?_
 simp (disch:=omega) [go_sem,wrap64_small,vec_Dot.r]
theorem vec_Det_ok {f fs fc fd:FuncId} (hf:FnOk P f (vec_Det.c fs fc fd) vec_Det.r vec_Det.n) (hs:SmallVC P fs) (hc:CrossVC P fc) (hd:DotVC P fd):DetC P f:=by
 intro x y z hx hy hz
 refine PureC.is (pure_of hm hf (Nat.le_of_ble_eq_true rfl) ?_) rfl
 unfold vec_Det.c
 have h1:=hs y
 have h2:=hs z
 rw [valid_small hy] at h1
 rw [valid_small hz] at h2
 simp [go_sem,V3.enc,V3.cs] at h1 h2 ⊢
 refine ACall_is h1 ?_
 simp [go_sem]
 refine ACall_is h2 ?_
 simp [go_sem]
 refine DCall_is (hc y z hy hz) ?_
 simp [go_sem]
 refine DCall_is (hd x (crs y z) hx (crs_within hy hz)) ?_
 simp [go_sem,vec_Det.r,det3]
set_option maxHeartbeats 4000000 in
theorem mesh_Volume6_ok {f fc fd:FuncId} (hf:FnOk P f (mesh_Volume6.c fc fd) mesh_Volume6.r mesh_Volume6.n) (hc:CheckC P fc) (hd:DetC P fd):VolC P f:=by
 intro m
 refine PureC.is (pure_of hm hf (Nat.le_of_ble_eq_true rfl) ?_) rfl
 unfold mesh_Volume6.c
 have hv:m.vol6 = if m.check = 0 then volL m.verts m.tris else 0:=rfl
 by_cases hz:m.check = 0
 case neg =>
  rw [hv,if_neg hz]
  simp [go_sem,Mesh.enc,Mesh.cs]
  refine ACall_is (hc m) ?_
  simp [go_sem,hz,mesh_Volume6.r]
 rw [hv,if_pos hz]
 obtain⟨z1,z2,z3,z4⟩:=Mesh.check_zero.1 hz
 simp [go_sem,Mesh.enc,Mesh.cs]
 refine ACall_is (hc m) ?_
 simp [go_sem,hz,vsV,tsV]
 refine AS_loop (α:=Nat) (fun k=>k ≤ m.tris.length)
  (fun k=>⟨[(1,.p 0 1 0 0),(3,.i .i64 (volL m.verts (m.tris.take k))),(10,tsV m.tris),(11,.i .i64 m.tris.length),(12,.i .i64 k)],[.arr 1 2 [m.cs]]⟩)
  (fun k=>m.tris.length - k) 0 (Nat.zero_le _) ?_ ?_
 ·simp [go_sem,Mesh.cs,vsV,tsV,volL_nil]
 ·intro k hk
  by_cases hkl:k = m.tris.length
  ·subst hkl
   rw [List.take_length]
   simp [go_sem,Mesh.cs,vsV,tsV,mesh_Volume6.r]
  ·have hlt:k < m.tris.length:=by omega
   have hp:m.tris[k]? = some m.tris[k]:=List.getElem?_eq_getElem hlt
   generalize m.tris[k] = t at hp
   obtain⟨_,hp'⟩:=List.getElem?_eq_some_iff.1 hp
   have hok:=tsOk_get z4 hp
   obtain⟨a1,a2,b1,b2,c1,c2⟩:=T3.ok_iff.1 hok
   have ga:=vAt_get a1 a2
   have gb:=vAt_get b1 b2
   have gc:=vAt_get c1 c2
   have va:=vAt_valid z3 a1 a2
   have vb:=vAt_valid z3 b1 b2
   have vc:=vAt_valid z3 c1 c2
   have hb1:=volL_b z3 (ts:=m.tris.take k) (by
    simp only [tsOk,List.all_eq_true] at z4 ⊢
    exact fun x hx=>z4 x (List.mem_of_mem_take hx))
   have hb2:=volT_b z3 hok
   have hln:((m.tris.take k).length:Int) ≤ 4096:=by rw [List.length_take];omega
   have hs:volL m.verts (m.tris.take (k + 1)) = volL m.verts (m.tris.take k) + volT m.verts t:=by
    rw [List.take_add_one,hp,volL_app,Option.toList_some,volL_cons,volL_nil];omega
   have hvt:volT m.verts t = det3 (vAt m.verts t.a) (vAt m.verts t.b) (vAt m.verts t.c):=rfl
   have hdd:=hd _ _ _ va vb vc
   rw [← hvt] at hdd
   clear hvt
   generalize vAt m.verts t.a = A at *
   generalize vAt m.verts t.b = B at *
   generalize vAt m.verts t.c = C at *
   generalize volL m.verts (m.tris.take k) = S at *
   generalize volT m.verts t = T at *
   obtain⟨ia,ga'⟩:=List.getElem?_eq_some_iff.1 ga
   obtain⟨ib,gb'⟩:=List.getElem?_eq_some_iff.1 gb
   obtain⟨ic,gc'⟩:=List.getElem?_eq_some_iff.1 gc
   simp [go_sem,Mesh.cs,vsV,tsV,hlt,hp,hp',tcs,a1,b1,c1,ga,gb,gc,ia,ib,ic,ga',gb',gc',vcs]
   simp [go_sem,V3.enc,vcs] at hdd
   refine DCall_is hdd ?_
   simp (disch:=omega) [go_sem,wrap64_small]
   refine⟨k + 1,by omega,by omega,?_⟩
   exact⟨hs.symm,by omega⟩
end
end Go.Abs
set_option linter.unusedVariables false
set_option linter.unusedSimpArgs false
namespace Go.Abs
def RevTC (P:Program) (f:FuncId):Prop:=∀ t:T3,CallIs P f [t.enc] t.rev.enc
section
variable {P:Program} (hm:P.follows .mixedOrders = true)
include hm
theorem orient_reversed_ok {f:FuncId} (hf:FnOk P f orient_reversed.c orient_reversed.r orient_reversed.n):RevTC P f:=by
 intro t
 refine PureC.is (pure_of hm hf (Nat.le_of_ble_eq_true rfl) ?_) rfl
 unfold orient_reversed.c
 simp [go_sem,T3.enc,T3.cs,T3.rev,orient_reversed.r]
end
end Go.Abs
