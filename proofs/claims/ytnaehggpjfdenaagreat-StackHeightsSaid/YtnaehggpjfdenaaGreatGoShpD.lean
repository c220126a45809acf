/- Part of the library on which the proof stands: an abstract machine, its values and its soundness against the model; or what functions of the program do to such values. -/
import Derived.Test.YtnaehggpjfdenaaGreatGoShp
import Derived.Test.YtnaehggpjfdenaaGreatAbsZ
import Derived.Test.YtnaehggpjfdenaaGreatAbsCP
set_option linter.unusedVariables false
set_option linter.unusedSimpArgs false
set_option maxHeartbeats 4000000
namespace Go.Abs
def L0m.c:C :=(.seq (.reg [Ac 4 0]) (.seq (.reg [Am 5 0,Am 6 1,Aj .mul 7 5 6,Am 8 1,Ak .quo 9 8 2,Aj .add 10 7 9,Am 4 10]) .ret))
def L0m.r:List Rr:=[.tmp 4]
abbrev L0m.n:Nat:=11
def L0n.c:C :=(.seq (.reg [Ac 4 0]) (.seq (.seq (.reg [Am 12 1,Ak .lss 13 12 32,Am 14 13,Aw 15 14 (.mv (.t 1)),Aw 16 14 (.bin .gtr (.t 15) (.c (.i .i64 1024))),Ao 17 14 16,Am 18 17,Aw 19 18 (.mv (.t 1)),Aw 20 18 (.bin .rem (.t 19) (.c (.i .i64 2))),Aw 21 18 (.bin .neq (.t 20) (.c (.i .i64 0))),Ao 22 18 21]) (.ite (.t 22) (.seq (.reg [Ac 4 1]) .ret) .skip)) (.seq (.reg [Ac 5 0]) (.seq (.seq (.reg [Am 23 0,An 24 0 23,Ac 25 0]) (.blk 0 (.loop (.seq (.reg [Aj .lss 26 25 24]) (.seq (.ite (.t 26) .skip (.exit 0)) (.seq (.blk 1 (.seq (.reg [Ai 27 1 23 25,Ag 28 1 27,Au 7 (.alloc [.nil]),As 1 7 28]) (.reg [
 Am 29 5,Af 30 0 7,Al 31 30,An 32 0 31,Aj .add 33 29 32,Am 5 33]))) (.reg [Ad 34 25 1,Am 25 34]))))))) (.seq (.seq (.reg [Am 35 5,Ak .gtr 36 35 16384]) (.ite (.t 36) (.seq (.reg [Ac 4 2]) .ret) .skip)) (.seq (.seq (.reg [Am 37 0,An 38 0 37,Ac 39 0]) (.blk 2 (.loop (.seq (.reg [Aj .lss 40 39 38]) (.seq (.ite (.t 40) .skip (.exit 2)) (.seq (.blk 3 (.seq (.reg [Ai 41 1 37 39,Ag 42 1 41,Au 9 (.alloc [.nil]),As 1 9 42]) (.seq (.reg [Af 43 0 9,Al 44 43,An 45 0 44,Ac 46 0]) (.blk 4 (.loop (.seq (.reg [Aj .lss 47 46 45]) (.seq (.ite (.t 47) .skip (.exit 4)) (.seq (.blk 5 (.seq (.reg [Ai 48 2 44 46,Ag 49 2 48,
 Au 11 (.alloc [(.i .i64 0),(.i .i64 0)]),As 2 11 49]) (.seq (.reg [Af 50 0 11,Al 51 50,Ak .lss 52 51 (-65536),Am 53 52,Aw 54 53 (.fa 0 (.t 11)),Aw 55 53 (.ld none (.t 54)),Aw 56 53 (.bin .gtr (.t 55) (.c (.i .i64 65536))),Ao 57 53 56,Am 58 57,Aw 59 58 (.fa 1 (.t 11)),Aw 60 58 (.ld none (.t 59)),Aw 61 58 (.bin .lss (.t 60) (.c (.i .i64 (-65536)))),Ao 62 58 61,Am 63 62,Aw 64 63 (.fa 1 (.t 11)),Aw 65 63 (.ld none (.t 64)),Aw 66 63 (.bin .gtr (.t 65) (.c (.i .i64 65536))),Ao 67 63 66]) (.ite (.t 67) (.seq (.reg [Ac 4 8]) .ret) .skip)))) (.reg [Ad 68 46 1,Am 46 68]))))))))) (.reg [Ad 69 39 1,Am 39 69])))))))
 (.seq (.reg [Ac 4 0]) .ret)))))))
def L0n.r:List Rr:=[.tmp 4]
abbrev L0n.n:Nat:=70
def L0p.c (slices_SortFunc_raster_edge_raster_edge L0q:FuncId):C :=(.seq (.reg [Az 2]) (.seq (.reg [Az 3]) (.seq (.seq (.reg [Am 9 0,An 10 0 9,Ac 11 0]) (.blk 0 (.loop (.seq (.reg [Aj .lss 12 11 10]) (.seq (.ite (.t 12) .skip (.exit 0)) (.seq (.blk 1 (.seq (.reg [Ai 13 1 9 11,Ag 14 1 13,Au 5 (.alloc [.nil]),As 1 5 14]) (.seq (.reg [Af 15 0 5,Al 16 15,An 17 0 16,Ac 18 0]) (.blk 2 (.loop (.seq (.reg [Aj .lss 19 18 17]) (.seq (.ite (.t 19) .skip (.exit 2)) (.seq (.blk 3 (.seq (.reg [Am 20 18,Ai 21 2 16 18,Ag 22 2 21,Au 7 (.alloc [(.i .i64 0),(.i .i64 0)]),Am 6 20,As 2 7 22]) (.seq (.drw [Af 23 0 5,
 Al 24 23,Am 25 6,Ad 26 25 1,Af 27 0 5,Al 28 27,An 29 0 28,Aj .rem 30 26 29,Ai 31 2 24 30,Ag 32 2 31,Au 8 (.alloc [(.i .i64 0),(.i .i64 0)]),As 2 8 32] []) (.blk 4 (.seq (.reg [Af 34 1 7,Al 35 34,Af 36 1 8,Al 37 36,Aj .lss 38 35 37,Am 33 38]) (.ite (.t 33) (.reg [Am 39 3,Ag 40 2 7,Ag 41 2 8,Au 42 (.build [(.i .i64 0),(.i .i64 0),(.i .i64 0),(.i .i64 0),(.i .i64 0)] [(0,2,(.t 40)),(2,2,(.t 41)),(4,1,(.c (.i .i64 1)))]),Au 43 (.bsi 5 1 [(.i .i64 0),(.i .i64 0),(.i .i64 0),(.i .i64 0),(.i .i64 0)] [(0,(.t 42))]),Au 44 (.app 5 40 (.t 39) (.t 43)),Am 3 44]) (.seq (.reg [Af 46 1 8,Al 47 46,Af 48 1 7,
 Al 49 48,Aj .lss 50 47 49,Am 45 50]) (.ite (.t 45) (.reg [Am 51 3,Ag 52 2 8,Ag 53 2 7,Au 54 (.build [(.i .i64 0),(.i .i64 0),(.i .i64 0),(.i .i64 0),(.i .i64 0)] [(0,2,(.t 52)),(2,2,(.t 53)),(4,1,(.c (.i .i64 (-1))))]),Au 55 (.bsi 5 1 [(.i .i64 0),(.i .i64 0),(.i .i64 0),(.i .i64 0),(.i .i64 0)] [(0,(.t 54))]),Au 56 (.app 5 40 (.t 51) (.t 55)),Am 3 56]) .skip)))))))) (.reg [Ad 57 18 1,Am 18 57]))))))))) (.reg [Ad 58 11 1,Am 11 58]))))))) (.seq (.reg [Am 59 3,Au 60 (.call slices_SortFunc_raster_edge_raster_edge [.t 59,(.c (.f L0q []))])]) (.seq (.reg [Am 61 3,Am 2 61]) .ret)))))
def L0p.r:List Rr:=[.tmp 2]
abbrev L0p.n:Nat:=62
def L0q.c:C :=(.seq (.reg [Au 2 (.box (.t 0)),Au 3 (.box (.t 1)),Ac 4 0]) (.seq (.reg [Af 5 0 2,Af 6 1 5,Al 7 6,Af 8 0 3,Af 9 1 8,Al 10 9,Aj .sub 11 7 10,Am 4 11]) .ret))
def L0q.r:List Rr:=[.tmp 4]
abbrev L0q.n:Nat:=12
def L0o.c (L0f:FuncId):C :=(.seq (.reg [Au 3 (.box (.t 0)),Au 6 (.alloc [(.i .i64 0),(.i .i64 0)])]) (.seq (.reg [Af 11 2 3,Af 12 1 11,Al 13 12,Af 14 0 3,Af 15 1 14,Al 16 15,Aj .sub 17 13 16,Am 7 17]) (.seq (.reg [Af 18 0 3,Af 19 0 18,Al 20 19,Am 21 7,Aj .mul 22 20 21,Af 23 2 3,Af 24 0 23,Al 25 24,Af 26 0 3,Af 27 0 26,Al 28 27,Aj .sub 29 25 28,Am 30 1,Af 31 0 3,Af 32 1 31,Al 33 32,Aj .sub 34 30 33,Aj .mul 35 29 34,Aj .add 36 22 35,Am 37 2,Ak .quo 38 37 2,Am 39 7,Aj .mul 40 38 39,Aj .sub 41 36 40,Am 8 41]) (.seq (.reg [Am 43 8,Au 44 (.un .neg (.t 43)),Am 45 2,Am 46 7,Aj .mul 47 45 46,Au 48 (.call L0f [.t 44,.t 47]),
 Am 42 48,Ax1 49 0 42,Ax1 50 1 42,Am 9 49,Am 10 50]) (.seq (.reg [Am 51 9,Au 52 (.un .neg (.t 51)),Af 53 4 3,Al 54 53,Au 55 (.build [(.i .i64 0),(.i .i64 0)] [(0,1,(.t 52)),(1,1,(.t 54))]),As 2 6 55]) .ret)))))
def L0o.r:List Rr:=[.cell 6 (some 2)]
abbrev L0o.n:Nat:=56
def L0r.c (L0m L0o slices_SortFunc_raster_step_raster_step L0s L16:FuncId):C :=(.seq (.reg [Az 6]) (.seq (.reg [Am 17 2,Am 18 1,Au 19 (.call L0m [.t 17,.t 18]),Am 7 19]) (.seq (.reg [Az 8]) (.seq (.seq (.reg [Am 20 0,An 21 0 20,Ac 22 0]) (.blk 0 (.loop (.seq (.reg [Aj .lss 23 22 21]) (.seq (.ite (.t 23) .skip (.exit 0)) (.seq (.blk 1 (.seq (.reg [Ai 24 5 20 22,Ag 25 5 24,Au 10 (.alloc [(.i .i64 0),(.i .i64 0),(.i .i64 0),(.i .i64 0),(.i .i64 0)]),As 5 10 25]) (.seq (.seq (.reg [Af 26 0 10,Af 27 1 26,Al 28 27,Am 29 7,Aj .gtr 30 28 29]) (.ite (.t 30) (.exit 0) .skip)) (.seq (.reg [Am 31 7,Af 32 2 10,
 Af 33 1 32,Al 34 33,Aj .lss 35 31 34]) (.ite (.t 35) (.reg [Am 36 8,Ag 37 5 10,Am 38 7,Am 39 1,Au 40 (.call L0o [.t 37,.t 38,.t 39]),Au 41 (.bsi 2 1 [(.i .i64 0),(.i .i64 0)] [(0,(.t 40))]),Au 42 (.app 2 16 (.t 36) (.t 41)),Am 8 42]) .skip))))) (.reg [Ad 43 22 1,Am 22 43]))))))) (.seq (.reg [Am 44 8,Au 45 (.call slices_SortFunc_raster_step_raster_step [.t 44,(.c (.f L0s []))])]) (.seq (.reg [Az 11]) (.seq (.reg [Ac 12 0,Ac 13 4096]) (.seq (.seq (.reg [Am 46 8,An 47 0 46,Ac 48 0]) (.blk 2 (.loop (.seq (.reg [Aj .lss 49 48 47]) (.seq (.ite (.t 49) .skip (.exit 2)) (.seq (.blk 3 (.seq (.reg [Ai 50 2 46 48,
 Ag 51 2 50,Au 15 (.alloc [(.i .i64 0),(.i .i64 0)]),As 2 15 51]) (.seq (.reg [Af 52 0 15,Al 53 52,Au 54 (.mn [.t 53,(.c (.i .i64 4096))]),Au 55 (.mx [(.c (.i .i64 (-4096))),.t 54]),Am 16 55]) (.seq (.seq (.reg [Am 56 12,Ak .gtr 57 56 0,Am 58 57,Av 59 58 (.mv (.t 16)),Av 60 58 (.mv (.t 13)),Av 61 58 (.bin .lss (.t 59) (.t 60)),Ap 62 58 61]) (.ite (.t 62) (.reg [Am 63 11,Am 64 16,Am 65 13,Au 66 (.build [(.i .i64 0),(.i .i64 0)] [(0,1,(.t 64)),(1,1,(.t 65))]),Au 67 (.bsi 2 1 [(.i .i64 0),(.i .i64 0)] [(0,(.t 66))]),Au 68 (.app 2 16 (.t 63) (.t 67)),Am 11 68]) .skip)) (.seq (.reg [Am 69 12,Af 70 1 15,
 Al 71 70,Aj .add 72 69 71,Am 12 72]) (.reg [Am 73 16,Am 13 73])))))) (.reg [Ad 74 48 1,Am 48 74]))))))) (.seq (.seq (.reg [Am 75 12,Ak .gtr 76 75 0,Am 77 76,Av 78 77 (.mv (.t 13)),Av 79 77 (.bin .gtr (.t 78) (.c (.i .i64 (-4096)))),Ap 80 77 79]) (.ite (.t 80) (.reg [Am 81 11,Am 82 13,Au 83 (.build [(.i .i64 0),(.i .i64 0)] [(0,1,(.c (.i .i64 (-4096)))),(1,1,(.t 82))]),Au 84 (.bsi 2 1 [(.i .i64 0),(.i .i64 0)] [(0,(.t 83))]),Au 85 (.app 2 16 (.t 81) (.t 84)),Am 11 85]) .skip)) (.seq (.reg [Am 87 11,Au 88 (.call L16 [.t 87]),Am 86 88,Ax1 89 0 86,Ax1 90 1 86,Am 11 89]) (.seq (.reg [Am 91 11,Am 6 91])
 .ret)))))))))))
def L0r.r:List Rr:=[.tmp 6]
abbrev L0r.n:Nat:=92
def L0s.c:C :=(.seq (.reg [Au 2 (.box (.t 0)),Au 3 (.box (.t 1)),Ac 4 0]) (.seq (.reg [Af 5 0 3,Al 6 5,Af 7 0 2,Al 8 7,Aj .sub 9 6 8,Am 4 9]) .ret))
def L0s.r:List Rr:=[.tmp 4]
abbrev L0s.n:Nat:=10
def L0t.c (L0f:FuncId):C :=(.seq (.reg [Ac 4 0,Ac 5 0]) (.seq (.seq (.reg [Am 13 0,An 14 0 13,Ak .eql 15 14 0]) (.ite (.t 15) (.seq (.reg [Ac 4 0,Ac 5 0]) .ret) .skip)) (.seq (.reg [Am 16 0,Au 17 (.ia 5 (.t 16) (.c (.i .i64 0))),Af 18 2 17,Af 19 1 18,Al 20 19,Am 6 20]) (.seq (.seq (.reg [Am 21 0,An 22 0 21,Ac 23 0]) (.blk 0 (.loop (.seq (.reg [Aj .lss 24 23 22]) (.seq (.ite (.t 24) .skip (.exit 0)) (.seq (.blk 1 (.seq (.reg [Ai 25 5 21 23,Ag 26 5 25,Au 8 (.alloc [(.i .i64 0),(.i .i64 0),(.i .i64 0),(.i .i64 0),(.i .i64 0)]),As 5 8 26]) (.reg [Am 27 6,Af 28 2 8,Af 29 1 28,Al 30 29,Au 31 (.mx [.t 27,.t 30]),
 Am 6 31]))) (.reg [Ad 32 23 1,Am 23 32]))))))) (.seq (.reg [Am 34 0,Au 35 (.ia 5 (.t 34) (.c (.i .i64 0))),Af 36 0 35,Af 37 1 36,Al 38 37,Am 39 1,Au 40 (.call L0f [.t 38,.t 39]),Am 33 40,Ax1 41 0 33,Ax1 42 1 33,Am 9 41,Am 10 42]) (.seq (.reg [Am 44 6,Am 45 1,Au 46 (.call L0f [.t 44,.t 45]),Am 43 46,Ax1 47 0 43,Ax1 48 1 43,Am 11 47,Am 12 48]) (.seq (.reg [Am 49 9,Au 50 (.mx [.t 49,(.c (.i .i64 (-4096)))]),Am 51 11,Au 52 (.mn [.t 51,(.c (.i .i64 4095))]),Am 9 50,Am 11 52]) (.seq (.reg [Am 53 9,Am 54 11,Am 55 9,Aj .sub 56 54 55,Ad 57 56 1,Au 58 (.mx [(.c (.i .i64 0)),.t 57]),Am 4 53,Am 5 58]) .ret))))))))
def L0t.r:List Rr:=[.tmp 4,.tmp 5]
abbrev L0t.n:Nat:=59
def L0l.c (L0n L0p L0t L0r:FuncId):C :=(.seq (.reg [Au 4 (.alloc [.nil]),Ac 5 0]) (.seq (.seq (.reg [Am 13 0,Am 14 1,Au 15 (.call L0n [.t 13,.t 14]),Am 6 15]) (.seq (.reg [Am 16 6,Ak .neq 17 16 0]) (.ite (.t 17) (.seq (.reg [Au 18 (.build [.nil] []),Am 19 6,As 1 4 18,Am 5 19]) .ret) .skip))) (.seq (.reg [Am 20 0,Au 21 (.call L0p [.t 20]),Am 7 21]) (.seq (.reg [Am 23 7,Am 24 1,Au 25 (.call L0t [.t 23,.t 24]),Am 22 25,Ax1 26 0 22,Ax1 27 1 22,Am 8 26,Am 9 27]) (.seq (.reg [Au 10 (.alloc [.nil])]) (.seq (.seq (.reg [Am 28 9,Ac 29 0]) (.blk 0 (.loop (.seq (.reg [Aj .lss 30 29 28]) (.seq (.ite (.t 30)
 .skip (.exit 0)) (.seq (.blk 1 (.seq (.reg [Am 31 29,Am 11 31]) (.seq (.reg [Am 32 7,Am 33 1,Am 34 8,Am 35 11,Aj .add 36 34 35,Au 37 (.call L0r [.t 32,.t 33,.t 36]),Am 12 37]) (.seq (.reg [Am 38 12,An 39 0 38,Ak .gtr 40 39 0]) (.ite (.t 40) (.reg [Af 41 0 10,Al 42 41,Am 43 8,Am 44 11,Aj .add 45 43 44,Am 46 12,Au 47 (.build [(.i .i64 0),.nil] [(0,1,(.t 45)),(1,1,(.t 46))]),Au 48 (.bso 2 1 [(.i .i64 0),.nil] [(0,(.t 47))]),Au 49 (.app 2 32 (.t 42) (.t 48)),Af 50 0 10,As 1 50 49]) .skip))))) (.reg [Ad 51 29 1,Am 29 51]))))))) (.seq (.reg [Ag 52 1 10,As 1 4 52,Ac 5 0]) .ret)))))))
def L0l.r:List Rr:=[.cell 4 (some 1),.tmp 5]
abbrev L0l.n:Nat:=53
def L16.c (L1f slices_SortFunc_api_Run_api_Run L17 L1g:FuncId):C :=(.seq (.reg [Az 2,Ac 3 0]) (.seq (.reg [Az 4]) (.seq (.seq (.reg [Am 7 0,An 8 0 7,Ac 9 0]) (.blk 0 (.loop (.seq (.reg [Aj .lss 10 9 8]) (.seq (.ite (.t 10) .skip (.exit 0)) (.seq (.blk 1 (.seq (.reg [Ai 11 2 7 9,Ag 12 2 11,Au 6 (.alloc [(.i .i64 0),(.i .i64 0)]),As 2 6 12]) (.seq (.seq (.reg [Af 13 1 6,Al 14 13,Af 15 0 6,Al 16 15,Aj .leq 17 14 16]) (.ite (.t 17) (.exit 1) .skip)) (.seq (.seq (.reg [Ag 18 2 6,Au 19 (.call L1f [.t 18]),Au 20 (.un .not (.t 19))]) (.ite (.t 20) (.seq (.reg [Az 2,Ac 3 8]) .ret) .skip)) (.reg [Am 21 4,
 Ag 22 2 6,Au 23 (.bsi 2 1 [(.i .i64 0),(.i .i64 0)] [(0,(.t 22))]),Au 24 (.app 2 16 (.t 21) (.t 23)),Am 4 24]))))) (.reg [Ad 25 9 1,Am 9 25]))))))) (.seq (.reg [Am 26 4,Au 27 (.call slices_SortFunc_api_Run_api_Run [.t 26,(.c (.f L17 []))])]) (.seq (.reg [Am 28 4,Au 29 (.call L1g [.t 28]),Am 2 29,Ac 3 0]) .ret)))))
def L16.r:List Rr:=[.tmp 2,.tmp 3]
abbrev L16.n:Nat:=30
def L17.c:C :=(.seq (.reg [Au 2 (.box (.t 0)),Au 3 (.box (.t 1)),Ac 4 0]) (.seq (.reg [Af 5 0 2,Al 6 5,Af 7 0 3,Al 8 7,Aj .sub 9 6 8,Am 4 9]) .ret))
def L17.r:List Rr:=[.tmp 4]
abbrev L17.n:Nat:=10
def L1g.c:C :=(.seq (.reg [Az 2]) (.seq (.reg [Az 3]) (.seq (.seq (.reg [Am 7 0,An 8 0 7,Ac 9 0]) (.blk 0 (.loop (.seq (.reg [Aj .lss 10 9 8]) (.seq (.ite (.t 10) .skip (.exit 0)) (.seq (.blk 1 (.seq (.reg [Ai 11 2 7 9,Ag 12 2 11,Au 5 (.alloc [(.i .i64 0),(.i .i64 0)]),As 2 5 12]) (.seq (.reg [Am 13 3,An 14 0 13,Ak .sub 15 14 1,Am 6 15]) (.seq (.drw [Am 16 6,Ak .geq 17 16 0,Am 18 17,Av 19 18 (.fa 0 (.t 5)),Av 20 18 (.ld none (.t 19)),Av 21 18 (.mv (.t 3)),Av 22 18 (.mv (.t 6)),Av 23 18 (.ia 2 (.t 21) (.t 22)),Av 24 18 (.fa 1 (.t 23)),Av 25 18 (.ld none (.t 24)),Av 26 18 (.bin .leq (.t 20) (.t 25)),
 Ap 27 18 26] []) (.ite (.t 27) (.drw [Am 28 3,Am 29 6,Am 30 3,Am 31 6,Ai 32 2 30 31,Af 33 1 32,Al 34 33,Af 35 1 5,Al 36 35,Au 37 (.mx [.t 34,.t 36]),Ai 38 2 28 29,Af 39 1 38,As 1 39 37] []) (.reg [Am 40 3,Ag 41 2 5,Au 42 (.bsi 2 1 [(.i .i64 0),(.i .i64 0)] [(0,(.t 41))]),Au 43 (.app 2 16 (.t 40) (.t 42)),Am 3 43])))))) (.reg [Ad 44 9 1,Am 9 44]))))))) (.seq (.reg [Am 45 3,Am 2 45]) .ret))))
def L1g.r:List Rr:=[.tmp 2]
abbrev L1g.n:Nat:=46
def L1f.c:C :=(.seq (.reg [Au 1 (.box (.t 0)),Ab 2 false]) (.seq (.reg [Af 3 0 1,Al 4 3,Ak .geq 5 4 (-1048576),Am 6 5,Av 7 6 (.fa 0 (.t 1)),Av 8 6 (.ld none (.t 7)),Av 9 6 (.bin .leq (.t 8) (.c (.i .i64 1048576))),Ap 10 6 9,Am 11 10,Av 12 11 (.fa 1 (.t 1)),Av 13 11 (.ld none (.t 12)),Av 14 11 (.bin .geq (.t 13) (.c (.i .i64 (-1048576)))),Ap 15 11 14,Am 16 15,Av 17 16 (.fa 1 (.t 1)),Av 18 16 (.ld none (.t 17)),Av 19 16 (.bin .leq (.t 18) (.c (.i .i64 1048576))),Ap 20 16 19,Am 2 20]) .ret))
def L1f.r:List Rr:=[.tmp 2]
abbrev L1f.n:Nat:=21
structure Rn where
 a:Int
 b:Int
deriving DecidableEq
structure Rw where
 y:Int
 rs:List Rn
deriving DecidableEq
def Qf (l:List Rn) (x:Int):Prop:=∃r∈l,r.a<=x/\x<r.b
instance (l:List Rn) (x:Int):Decidable (Qf l x):=by unfold Qf;infer_instance
def RnsV (l:List Rn):Prop:=(∀r∈l,r.a<r.b)/\l.Pairwise λr s=>r.b<s.a
theorem RnsV.nil:RnsV []:=⟨by simp,List.Pairwise.nil⟩
theorem RnsV.tail {r:Rn} {l:List Rn} (h:RnsV (r::l)):RnsV l:=⟨λs hs=>h.1 s (by simp[hs]),(j9.1 h.2).2⟩
theorem Qk (x:Int):¬ Qf [] x:=by simp[Qf]
theorem inRns_cons {r:Rn} {l:List Rn} {x:Int}:Qf (r::l) x↔(r.a<=x/\x<r.b)∨Qf l x:=by simp[Qf]
theorem J4 {l k:List Rn} {x:Int}:Qf (l++k) x↔Qf l x∨Qf k x:=by
 simp only[Qf,qg]
 constructor
 ·rintro⟨r,h | h,h2⟩
  ·exact .inl ⟨r,h,h2⟩
  ·exact .inr ⟨r,h,h2⟩
 ·rintro (⟨r,h,h2⟩ | ⟨r,h,h2⟩)
  ·exact⟨r,.inl h,h2⟩
  ·exact⟨r,.inr h,h2⟩
theorem RnsV.behind {r:Rn} {l:List Rn} (h:RnsV (r::l)) {x:Int} (hx:Qf l x):r.b<x:=by
 obtain⟨s,hs,h1,h2⟩:=hx
 have:=(j9.1 h.2).1 s hs
 omega
theorem RnsV.ext:∀{l k:List Rn},RnsV l->RnsV k->(∀x,Qf l x↔Qf k x)->l=k
 | [],[],_,_,_=>rfl
 | [],r::k,_,hk,h=>by
   have hr:=hk.1 r (by simp)
   exact absurd ((h r.a).2 (inRns_cons.2 (.inl ⟨by omega,hr⟩))) (Qk _)
 | r::l,[],hl,_,h=>by
   have hr:=hl.1 r (by simp)
   exact absurd ((h r.a).1 (inRns_cons.2 (.inl ⟨by omega,hr⟩))) (Qk _)
 | r::l,s::k,hl,hk,h=>by
   have hr:=hl.1 r (by simp)
   have hs:=hk.1 s (by simp)
   have ea:r.a=s.a:=by
    have h1:=(h r.a).1 (inRns_cons.2 (.inl ⟨by omega,hr⟩))
    have h2:=(h s.a).2 (inRns_cons.2 (.inl ⟨by omega,hs⟩))
    rcases inRns_cons.1 h1 with h1 | h1
    ·rcases inRns_cons.1 h2 with h2 | h2
     ·omega
     ·have:=hl.behind h2;omega
    ·have:=hk.behind h1
     rcases inRns_cons.1 h2 with h2 | h2
     ·omega
     ·have:=hl.behind h2;omega
   have nb:∀{r:Rn} {l:List Rn},RnsV (r::l)->¬ Qf (r::l) r.b:=by
    intro r l hl hh
    rcases inRns_cons.1 hh with h1 | h1
    ·omega
    ·have:=hl.behind h1;omega
   have eb:r.b=s.b:=by
    have n1:=nb hl
    have n2:=nb hk
    refine j7 λhne=>?_
    by_cases hlt:r.b<s.b
    ·exact n1 ((h r.b).2 (inRns_cons.2 (.inl ⟨by omega,hlt⟩)))
    ·exact n2 ((h s.b).1 (inRns_cons.2 (.inl ⟨by omega,by omega⟩)))
   have e:r=s:=by cases r;cases s;simp_all
   subst e
   rw[RnsV.ext hl.tail hk.tail λx=>?_]
   constructor
   ·intro hx
    have hb:=hl.behind hx
    rcases inRns_cons.1 ((h x).1 (inRns_cons.2 (.inr hx))) with h1 | h1
    ·omega
    ·exact h1
   ·intro hx
    have hb:=hk.behind hx
    rcases inRns_cons.1 ((h x).2 (inRns_cons.2 (.inr hx))) with h1 | h1
    ·omega
    ·exact h1
theorem Qc7 {α:Type} (f:α->Int):∀{l k:List α},l.Pairwise (λa b=>f a<f b)->k.Pairwise (λa b=>f a<f b)->(∀a,a∈l↔a∈k)->l=k
 | [],[],_,_,_=>rfl
 | [],y::k,_,_,h=>by have:=(h y).2 (by simp);simp at this
 | x::l,[],_,_,h=>by have:=(h x).1 (by simp);simp at this
 | x::l,y::k,h1,h2,h=>by
   have p1:=j9.1 h1
   have p2:=j9.1 h2
   have hxy:x=y:=by
    rcases List.mem_cons.1 ((h x).1 (by simp)) with h3 | h3
    ·exact h3
    ·rcases List.mem_cons.1 ((h y).2 (by simp)) with h4 | h4
     ·exact h4.symm
     ·have:=p2.1 x h3;have:=p1.1 y h4;omega
   subst hxy
   rw[Qc7 f p1.2 p2.2 λa=>?_]
   constructor
   ·intro ha
    rcases List.mem_cons.1 ((h a).1 (by simp[ha])) with h3 | h3
    ·subst h3;have:=p1.1 a ha;omega
    ·exact h3
   ·intro ha
    rcases List.mem_cons.1 ((h a).2 (by simp[ha])) with h3 | h3
    ·subst h3;have:=p2.1 a ha;omega
    ·exact h3
def Wb (g:List Rw) (y x:Int):Prop:=∃w∈g,w.y=y/\Qf w.rs x
structure RgV (g:List Rw):Prop where
 rs:∀w∈g,RnsV w.rs
 ne:∀w∈g,w.rs≠[]
 asc:g.Pairwise λu v=>u.y<v.y
theorem RgV.nil:RgV []:=⟨by simp,by simp,List.Pairwise.nil⟩
theorem RgV.uniq {g:List Rw} (h:RgV g) {u v:Rw} (hu:u∈g) (hv:v∈g) (he:u.y=v.y):u=v:=by
 obtain⟨i,hi,rfl⟩:=List.mem_iff_getElem.1 hu
 obtain⟨j,hj,rfl⟩:=List.mem_iff_getElem.1 hv
 have hp:=j4.1 h.asc
 by_cases h1:i<j
 ·have:=hp i j hi hj h1;omega
 ·by_cases h2:j<i
  ·have:=hp j i hj hi h2;omega
  ·obtain rfl:i=j:=by omega
   rfl
theorem RgV.row {g:List Rw} (h:RgV g) {w:Rw} (hw:w∈g) (x:Int):Wb g w.y x↔Qf w.rs x:=by
 constructor
 ·rintro⟨v,hv,he,hx⟩
  rw[h.uniq hw hv he.symm];exact hx
 ·intro hx;exact⟨w,hw,rfl,hx⟩
theorem RnsV.some {l:List Rn} (h:RnsV l) (hn:l≠[]):∃x,Qf l x:=by
 cases l with
 | nil=>exact absurd rfl hn
 | cons r l=>exact⟨r.a,inRns_cons.2 (.inl ⟨Int.le_refl _,h.1 r (by simp)⟩)⟩
theorem RgV.ext {g k:List Rw} (hg:RgV g) (hk:RgV k) (h:∀y x,Wb g y x↔Wb k y x):g=k:=by
 have key:∀{g k:List Rw},RgV g->RgV k->(∀y x,Wb g y x↔Wb k y x)->∀w,w∈g->w∈k:=by
  intro g k hg hk h w hw
  obtain⟨x,hx⟩:=(hg.rs w hw).some (hg.ne w hw)
  obtain⟨v,hv,he,_⟩:=(h w.y x).1 ⟨w,hw,rfl,hx⟩
  have:w.rs=v.rs:=(hg.rs w hw).ext (hk.rs v hv) λx=>by
   rw[<- hg.row hw,<- hk.row hv,he];exact h w.y x
  have e:w=v:=by cases w;cases v;simp_all
  rw[e];exact hv
 exact Qc7 Rw.y hg.asc hk.asc λw=>⟨key hg hk h w,key hk hg (λy x=>(h y x).symm) w⟩
def I2 (l:List Rn) (x:Int):List Rn :=
 match l.getLast? with
 | some r=>if r.b=x then l.dropLast++[⟨r.a,x+1⟩] else l++[⟨x,x+1⟩]
 | none=>[⟨x,x+1⟩]
theorem Qhl (x:Int):I2 [] x=[⟨x,x+1⟩]:=rfl
theorem Qhm (l:List Rn) (r:Rn) (x:Int):I2 (l++[r]) x=if r.b=x then l++[⟨r.a,x+1⟩] else l++[r]++[⟨x,x+1⟩]:=by
 unfold I2;simp
theorem RnsV.snoc {l:List Rn} {s:Rn}:RnsV (l++[s])↔RnsV l/\s.a<s.b/\∀r∈l,r.b<s.a:=by
 unfold RnsV
 rw[List.pairwise_append]
 constructor
 ·rintro⟨h1,h2,_,h3⟩
  exact⟨⟨λr hr=>h1 r (by simp[hr]),h2⟩,h1 s (by simp),λr hr=>h3 r hr s (by simp)⟩
 ·rintro⟨⟨h1,h2⟩,h3,h4⟩
  refine⟨λr hr=>?_,h2,by simp,λr hr s' hs=>?_⟩
  ·rcases qg.1 hr with hr | hr
   ·exact h1 r hr
   ·rw[qn.1 hr];exact h3
  ·rw[qn.1 hs];exact h4 r hr
theorem Wv {α:Type} (l:List α):l=[]∨∃k r,l=k++[r]:=by
 rcases List.eq_nil_or_concat l with h | ⟨k,r,h⟩
 ·exact .inl h
 ·exact .inr ⟨k,r,by simpa using h⟩
theorem Ql6 {l:List Rn} {x:Int} (h:RnsV l) (hb:∀r∈l,r.b<=x):RnsV (I2 l x)/\(∀r∈I2 l x,r.b<=x+1)/\∀y,Qf (I2 l x) y↔Qf l y∨y=x:=by
 rcases Wv l with rfl | ⟨k,r,rfl⟩
 ·rw[Qhl]
  refine⟨⟨by simp;omega,by simp⟩,by simp,λy=>?_⟩
  simp only[inRns_cons,Qk,or_false,false_or]
  omega
 ·obtain⟨h1,h2,h3⟩:=RnsV.snoc.1 h
  have hr:=hb r (by simp)
  rw[Qhm]
  by_cases he:r.b=x
  ·rw[if_pos he]
   refine⟨RnsV.snoc.2 ⟨h1,by simp only[];omega,λs hs=>h3 s hs⟩,λs hs=>?_,λy=>?_⟩
   ·rcases qg.1 hs with hs | hs
    ·have:=hb s (by simp[hs]);omega
    ·rw[qn.1 hs];exact Int.le_refl _
   ·simp only[J4,inRns_cons,Qk,or_false]
    by_cases hk:Qf k y<;>simp only[hk,true_or,false_or,or_true]<;>omega
  ·rw[if_neg he]
   refine⟨RnsV.snoc.2 ⟨h,by simp only[];omega,λs hs=>?_⟩,λs hs=>?_,λy=>?_⟩
   ·rcases qg.1 hs with hs | hs
    ·have:=h3 s hs;simp only[];omega
    ·rw[qn.1 hs];simp only[];omega
   ·rcases qg.1 hs with hs | hs
    ·have:=hb s hs;omega
    ·rw[qn.1 hs];exact Int.le_refl _
   ·simp only[J4,inRns_cons,Qk,or_false]
    by_cases hk:Qf k y<;>simp only[hk,true_or,false_or,or_true]<;>omega
theorem Q43:∀(xs:List Int) {l:List Rn},RnsV l->xs.Pairwise (·<·)->(∀r∈l,∀x∈xs,r.b<=x)->RnsV (xs.foldl I2 l)/\∀y,Qf (xs.foldl I2 l) y↔Qf l y∨y∈xs
 | [],l,h,_,_=>⟨h,λy=>by simp⟩
 | x::xs,l,h,ha,hb=>by
   obtain⟨h1,h2,h3⟩:=Ql6 h (λr hr=>hb r hr x (by simp))
   obtain⟨a1,a2⟩:=j9.1 ha
   obtain⟨g1,g2⟩:=Q43 xs h1 a2 (λr hr y hy=>by have:=h2 r hr;have:=a1 y hy;omega)
   refine⟨g1,λy=>?_⟩
   rw[List.foldl_cons,g2,h3,List.mem_cons]
   constructor
   ·rintro ((h | h) | h)
    ·exact .inl h
    ·exact .inr (.inl h)
    ·exact .inr (.inr h)
   ·rintro (h | h | h)
    ·exact .inl (.inl h)
    ·exact .inl (.inr h)
    ·exact .inr h
theorem Q41:∃l:List Int,(∀x,x∈l↔-4096<=x/\x<4096)/\l.Pairwise (·<·):=by
 refine⟨(List.range 8192).map λi:Nat=>(i:Int)-4096,λx=>?_,?_⟩
 ·rw[qo]
  constructor
  ·rintro⟨i,hi,rfl⟩
   have:=qy.1 hi;omega
  ·rintro⟨h1,h2⟩
   exact⟨(x+4096).toNat,qy.2 (by omega),by omega⟩
 ·rw[jd]
  exact List.pairwise_lt_range.imp λh=>by omega
noncomputable def gridL:List Int:=Classical.choose Q41
theorem mem_gridL {x:Int}:x∈gridL↔-4096<=x/\x<4096:=(Classical.choose_spec Q41).1 x
theorem gridL_asc:gridL.Pairwise (·<·):=(Classical.choose_spec Q41).2
noncomputable def Q0k (p:Int->Bool):List Rn:=(gridL.filter p).foldl I2 []
theorem Qor (p:Int->Bool):RnsV (Q0k p):=(Q43 _ RnsV.nil (gridL_asc.filter p) (by simp)).1
theorem in_canonL {p:Int->Bool} {x:Int}:Qf (Q0k p) x↔(-4096<=x/\x<4096)/\p x=true:=by
 unfold Q0k
 rw[(Q43 _ RnsV.nil (gridL_asc.filter p) (by simp)).2,qu,mem_gridL]
 simp[Qk]
noncomputable def Jl (p:Int->Int->Bool):List Rw:=(gridL.map λy=>Rw.mk y (Q0k (p y))).filter λw=>decide (w.rs≠[])
theorem Q4b (p:Int->Int->Bool):RgV (Jl p) where
 rs w hw:=by
  unfold Jl at hw
  obtain⟨h1,_⟩:=qu.1 hw
  obtain⟨y,_,rfl⟩:=qo.1 h1
  exact Qor _
 ne w hw:=by
  unfold Jl at hw
  simpa using(qu.1 hw).2
 asc:=by
  unfold Jl
  refine List.Pairwise.filter _ ?_
  rw[jd]
  exact gridL_asc
theorem in_canonR {p:Int->Int->Bool} {y x:Int}:Wb (Jl p) y x↔(-4096<=y/\y<4096)/\(-4096<=x/\x<4096)/\p y x=true:=by
 constructor
 ·rintro⟨w,hw,rfl,hx⟩
  unfold Jl at hw
  obtain⟨h1,_⟩:=qu.1 hw
  obtain⟨y,hy,rfl⟩:=qo.1 h1
  obtain⟨h2,h3⟩:=in_canonL.1 hx
  exact⟨mem_gridL.1 hy,h2,h3⟩
 ·rintro⟨hy,hx,hp⟩
  have hin:Qf (Q0k (p y)) x:=in_canonL.2 ⟨hx,hp⟩
  unfold Jl
  refine⟨⟨y,Q0k (p y)⟩,qu.2 ⟨qo.2 ⟨y,mem_gridL.2 hy,rfl⟩,?_⟩,rfl,hin⟩
  simp only[decide_eq_true_eq]
  intro h0
  rw[h0]at hin
  exact Qk _ hin
def RgB (g:List Rw):Prop:=∀y x,Wb g y x->(-4096<=y/\y<4096)/\-4096<=x/\x<4096
theorem Qc1 (p:Int->Int->Bool):RgB (Jl p):=λy x h=>by
 obtain⟨h1,h2,_⟩:=in_canonR.1 h
 exact⟨h1,h2⟩
theorem Q6s {g:List Rw} (h:RgV g) {p:Int->Int->Bool} (hp:∀y x,Wb g y x↔(-4096<=y/\y<4096)/\(-4096<=x/\x<4096)/\p y x=true):g=Jl p :=
 h.ext (Q4b p) λy x=>by rw[hp,in_canonR]
theorem RgB.run {g:List Rw} (h:RgV g) (hb:RgB g) {w:Rw} (hw:w∈g) {r:Rn} (hr:r∈w.rs):(-4096<=w.y/\w.y<4096)/\-4096<=r.a/\r.a<r.b/\r.b<=4096:=by
 have hab:=(h.rs w hw).1 r hr
 have h1:=hb w.y r.a ⟨w,hw,rfl,r,hr,Int.le_refl _,hab⟩
 have h2:=hb w.y (r.b-1) ⟨w,hw,rfl,r,hr,by omega,by omega⟩
 omega
noncomputable def K0 (g k:List Rw):List Rw:=open Classical in Jl λy x=>decide (Wb g y x∨Wb k y x)
theorem Q2a {g k:List Rw} (hg:RgB g) (hk:RgB k) {y x:Int}:Wb (K0 g k) y x↔Wb g y x∨Wb k y x:=by
 unfold K0
 rw[in_canonR]
 constructor
 ·rintro⟨_,_,h⟩;simpa using h
 ·intro h
  have hb:(-4096<=y/\y<4096)/\-4096<=x/\x<4096:=by
   rcases h with h | h
   ·exact hg y x h
   ·exact hk y x h
  exact⟨hb.1,hb.2,by simpa using h⟩
theorem W1 (g k:List Rw):RgV (K0 g k):=Q4b _
theorem Qcq (g k:List Rw):RgB (K0 g k):=Qc1 _
theorem RgB.nil:RgB []:=λy x h=>by obtain⟨w,hw,_⟩:=h;simp at hw
theorem Qa1 {g:List Rw} (hg:RgV g) (hb:RgB g):K0 [] g=g :=
 (W1 [] g).ext hg λy x=>by
  rw[Q2a RgB.nil hb]
  constructor
  ·rintro (⟨w,hw,_⟩ | h)
   ·simp at hw
   ·exact h
  ·exact .inr
def Qfe (P:Program) (f:FuncId):Prop:=CallIs P f [] (.b true)
theorem par_i {k:IntKind} {ps:List (Bool × List Sch)} {us:List V} (h:Ee ((false,[.i k])::ps) us):∃n r,us=.i k n::r/\(k.min<=n/\n<=k.max)/\Ee ps r:=by
 simp only[Ee,Qls]at h
 obtain⟨v,r,rfl,hv,hr⟩:=h
 simp only[okL,Sch.ok]at hv
 obtain⟨x,r',h1,⟨n,rfl,h2⟩,rfl⟩:=hv
 obtain rfl:v=.i k n:=by simpa using h1
 exact⟨n,r,rfl,h2,hr⟩
theorem par_0 {us:List V} (h:Ee [] us):us=[]:=h
def Qfc (P:Program) (f:FuncId) (sz:Nat):Prop:=∀els:List (List V),els.all (λel=>el.all V.isD)=true->els.length<=1000000->NewC P f [.l sz els] (λr h=>r=.own 0 1 0 els.length/\h=[.arr 1 sz els])
theorem Kk {x:V} (n:Nat) (h:x.isD=true):x.cl n=true:=by cases x<;>simp[V.isD]at h<;>simp[V.cl,V.cl1,V.cl0]
section
variable {P:Program} (hm:P.follows .mixedOrders=true)
include hm
theorem Bl {f:FuncId} (hf:Q9 P f L1t.c L1t.r L1t.n):Qfc P f 3:=by
 intro els hel hlen
 refine Qck 3 ?_
 refine Qlu hm hf (qh rfl) ?_
 unfold L1t.c
 cases els with
 | nil=>simp[go_sem,L1t.r]
 | cons e l =>
   simp only[List.length_cons]at hlen
   simp[go_sem,L1t.r]
   simp only[List.all_cons,Bool.and_eq_true,qj]at hel
   exact⟨⟨by omega,by omega⟩,λx hx=>Kk 1 (hel.1 x hx),λa ha x hx=>Kk 1 (hel.2 a ha x hx)⟩
end
structure P2 where
 x:Int
 y:Int
deriving DecidableEq
def P2.cs (p:P2):List V:=[.i .i64 p.x,.i .i64 p.y]
def P2.enc (p:P2):V:=.a p.cs
def psV (l:List P2):V:=.l 2 (l.map P2.cs)
theorem pcs (p:P2):p.cs=[.i .i64 p.x,.i .i64 p.y]:=Rfl rfl
def inI (n:Int):Bool:=decide (-9223372036854775808<=n) && decide (n<=9223372036854775807)
def Q3p (m:Mesh) (e:Int):V:=.t [m.enc,.i .i64 e]
def Q3o:Mesh:=⟨[],[]⟩
theorem mesV_le {u v:V} {vs:List V3} {ts:List T3} {e:Int} (h1:Le0 u (vsV vs)) (h2:Le0 v (tsV ts)):Le (.t [.a [u,v],.i .i64 e]) (Q3p ⟨vs,ts⟩ e) :=
 .inr ⟨_,_,rfl,rfl,.inr ⟨_,_,rfl,rfl,h1,h2,trivial⟩,Le1.refl _,trivial⟩
theorem Q69 (e:Int):Le (.t [.a [.nil,.nil],.i .i64 e]) (Q3p Q3o e):=mesV_le (Le0.nil 3) (Le0.nil 3)
def Qf9 (P:Program) (f:FuncId):Prop:=∀l:List V3,l.length<=1000000->CallIs P f [vsV l] (.b (J7 l))
def Qpx (P:Program) (f:FuncId):Prop:=∀v:V3,CallIs P f [v.enc] (.b (v.within 131072))
def V3.plus (a b:V3):V3:=⟨IntKind.i64.wrap (a.x+b.x),IntKind.i64.wrap (a.y+b.y),IntKind.i64.wrap (a.z+b.z)⟩
def Qgl (P:Program) (f:FuncId):Prop:=∀a b:V3,CallIs P f [a.enc,b.enc] (a.plus b).enc
def V3.add (a b:V3):V3:=⟨a.x+b.x,a.y+b.y,a.z+b.z⟩
def Qb (p s:V3):List V3 :=
 [⟨p.x,p.y,p.z⟩,⟨p.x+s.x,p.y,p.z⟩,⟨p.x,p.y+s.y,p.z⟩,⟨p.x+s.x,p.y+s.y,p.z⟩,⟨p.x,p.y,p.z+s.z⟩,⟨p.x+s.x,p.y,p.z+s.z⟩,⟨p.x,p.y+s.y,p.z+s.z⟩,⟨p.x+s.x,p.y+s.y,p.z+s.z⟩]
def Q0s (P:Program) (f:FuncId):Prop:=∀p s:V3,p.valid=true->s.within 131072=true->CallIs P f [p.enc,s.enc] (.a ((Qb p s).flatMap V3.cs))
theorem within_iff {v:V3} {k:Int}:v.within k=true↔(-k<=v.x/\v.x<=k/\-k<=v.y/\v.y<=k/\-k<=v.z/\v.z<=k):=by
 simp[V3.within,and_assoc]
theorem Qau {a b:V3} (h1:a.valid=true) (h2:b.within 131072=true):a.plus b=a.add b:=by
 have:=V3.valid_iff.1 h1
 have:=within_iff.1 h2
 simp only[V3.plus,V3.add]
 rw[Q3 (by omega) (by omega),Q3 (by omega) (by omega),Q3 (by omega) (by omega)]
section
variable {P:Program} (hm:P.follows .mixedOrders=true)
include hm
theorem Q2x {f fv:FuncId} (hf:Q9 P f (L1o.c fv) L1o.r L1o.n) (hv:Ew P fv):Qf9 P f:=by
 intro l hl
 refine PureC.is (Q8 hm hf (qh rfl) ?_) rfl
 unfold L1o.c
 simp[go_sem,vsV]
 refine Qh (α:=Nat) (λk=>k<=l.length/\J7 (l.take k)=true)
  (λk=>⟨[(5,vsV l),(6,.i .i64 l.length),(7,.i .i64 k)],[]⟩)
  (λk=>l.length-k) 0 ⟨Nat.zero_le _,rfl⟩ ?_ ?_
 ·simp[go_sem,vsV]
 ·rintro k ⟨hk,hok⟩
  cases hp:l[k]? with
  | none =>
    have:¬ k<l.length:=by simpa using hp
    obtain rfl:k=l.length:=by omega
    rw[qi]at hok
    simp[go_sem,vsV,L1o.r,hok]
  | some p =>
    obtain⟨hlt,hp'⟩:=q8.1 hp
    simp[go_sem,vsV,hlt,hp',vcs]
    refine Q5 (hv p) ?_
    cases hvp:p.valid
    ·simp[go_sem,L1o.r,Q2h hp hvp]
    ·simp (disch:=omega) [go_sem,Q3]
     refine⟨k+1,⟨by omega,?_⟩,by omega,?_⟩
     ·rw[Q5v hp,hok,hvp];rfl
     ·simp (disch:=omega) [go_sem,vsV,Q3]
theorem Q2w {f:FuncId} (hf:Q9 P f L1p.c L1p.r L1p.n):Qpx P f:=by
 intro v
 refine PureC.is (Q8 hm hf (qh rfl) ?_) rfl
 unfold L1p.c
 have hw:=@within_iff v 131072
 by_cases h1:v.x<=131072/\v.y<=131072/\v.z<=131072
 ·have h2:max (max v.x v.y) v.z<=131072:=by omega
  simp +contextual -implicitDefEqProofs [go_sem,V3.enc,V3.cs,L1p.r,h1,h2]
  rw[Bool.eq_iff_iff,hw];simp;omega
 ·have h2:¬ max (max v.x v.y) v.z<=131072:=by omega
  simp +contextual -implicitDefEqProofs [go_sem,V3.enc,V3.cs,L1p.r,h1,h2]
  rw[Bool.eq_iff_iff,hw];simp;omega
theorem Q2v {f:FuncId} (hf:Q9 P f L1q.c L1q.r L1q.n):Qgl P f:=by
 intro a b
 refine PureC.is (Q8 hm hf (qh rfl) ?_) rfl
 unfold L1q.c
 simp[go_sem,V3.enc,V3.cs,L1q.r,V3.plus]
theorem I5 {f fp:FuncId} (hf:Q9 P f (L1n.c fp) L1n.r L1n.n) (hp:Qgl P fp):Q0s P f:=by
 intro p s hv hs
 have h1:=V3.valid_iff.1 hv
 have h2:=within_iff.1 hs
 refine PureC.is (Q8 hm hf (qh rfl) ?_) rfl
 unfold L1n.c
 simp[go_sem,V3.enc,V3.cs]
 refine Qh (α:=Nat) (λk=>k<=8)
  (λk=>⟨[(2,.p 0 1 0 0),(3,.p 1 1 0 0),(4,.p 2 1 0 0),(5,.p 3 1 0 0),(7,.i .i64 k)],[.arr 1 3 [p.cs],.arr 1 3 [s.cs],.arr 1 24 [List.replicate 24 (.i .i64 0)],.arr 1 24 [((Qb p s).take k).flatMap V3.cs++List.replicate (24-3*k) (.i .i64 0)]]⟩)
  (λk=>8-k) 0 (by omega) ?_ ?_
 ·simp[go_sem,vcs]
 ·intro k hk
  by_cases h8:k=8
  ·subst h8
   simp[go_sem,L1n.r,Qb,V3.cs]
  ·have:k=0∨k=1∨k=2∨k=3∨k=4∨k=5∨k=6∨k=7:=by omega
   have w0:IntKind.i64.wrap 0=0:=rfl
   have w1:IntKind.i64.wrap 1=1:=rfl
   have wx:IntKind.i64.wrap s.x=s.x:=Q3 (by omega) (by omega)
   have wy:IntKind.i64.wrap s.y=s.y:=Q3 (by omega) (by omega)
   have wz:IntKind.i64.wrap s.z=s.z:=Q3 (by omega) (by omega)
   rcases this with rfl | rfl | rfl | rfl | rfl | rfl | rfl | rfl
   ·simp[go_sem,vcs,w0,w1,wx,wy,wz]
    refine Q5 (hp p ⟨0,0,0⟩) ?_
    simp (disch:=omega) [go_sem,Q3,V3.plus,V3.enc,V3.cs,w0,w1,Qb]
    exact⟨1,by simp[go_sem,V3.cs,or_imp,forall_and,V.cl,V.cl1,V.cl0]⟩
   ·simp[go_sem,vcs,w0,w1,wx,wy,wz]
    refine Q5 (hp p ⟨s.x,0,0⟩) ?_
    simp (disch:=omega) [go_sem,Q3,V3.plus,V3.enc,V3.cs,w0,w1,Qb]
    exact⟨2,by simp[go_sem,V3.cs,or_imp,forall_and,V.cl,V.cl1,V.cl0]⟩
   ·simp[go_sem,vcs,w0,w1,wx,wy,wz]
    refine Q5 (hp p ⟨0,s.y,0⟩) ?_
    simp (disch:=omega) [go_sem,Q3,V3.plus,V3.enc,V3.cs,w0,w1,Qb]
    exact⟨3,by simp[go_sem,V3.cs,or_imp,forall_and,V.cl,V.cl1,V.cl0]⟩
   ·simp[go_sem,vcs,w0,w1,wx,wy,wz]
    refine Q5 (hp p ⟨s.x,s.y,0⟩) ?_
    simp (disch:=omega) [go_sem,Q3,V3.plus,V3.enc,V3.cs,w0,w1,Qb]
    exact⟨4,by simp[go_sem,V3.cs,or_imp,forall_and,V.cl,V.cl1,V.cl0]⟩
   ·simp[go_sem,vcs,w0,w1,wx,wy,wz]
    refine Q5 (hp p ⟨0,0,s.z⟩) ?_
    simp (disch:=omega) [go_sem,Q3,V3.plus,V3.enc,V3.cs,w0,w1,Qb]
    exact⟨5,by simp[go_sem,V3.cs,or_imp,forall_and,V.cl,V.cl1,V.cl0]⟩
   ·simp[go_sem,vcs,w0,w1,wx,wy,wz]
    refine Q5 (hp p ⟨s.x,0,s.z⟩) ?_
    simp (disch:=omega) [go_sem,Q3,V3.plus,V3.enc,V3.cs,w0,w1,Qb]
    exact⟨6,by simp[go_sem,V3.cs,or_imp,forall_and,V.cl,V.cl1,V.cl0]⟩
   ·simp[go_sem,vcs,w0,w1,wx,wy,wz]
    refine Q5 (hp p ⟨0,s.y,s.z⟩) ?_
    simp (disch:=omega) [go_sem,Q3,V3.plus,V3.enc,V3.cs,w0,w1,Qb]
    exact⟨7,by simp[go_sem,V3.cs,or_imp,forall_and,V.cl,V.cl1,V.cl0]⟩
   ·simp[go_sem,vcs,w0,w1,wx,wy,wz]
    refine Q5 (hp p ⟨s.x,s.y,s.z⟩) ?_
    simp (disch:=omega) [go_sem,Q3,V3.plus,V3.enc,V3.cs,w0,w1,Qb]
    exact⟨8,by simp[go_sem,V3.cs,or_imp,forall_and,V.cl,V.cl1,V.cl0]⟩
end
def P2.valid (p:P2):Bool:=decide (-16777216<=p.x) && decide (p.x<=16777216) && decide (-16777216<=p.y) && decide (p.y<=16777216)
theorem P2.valid_iff {p:P2}:p.valid=true↔(-16777216<=p.x/\p.x<=16777216/\-16777216<=p.y/\p.y<=16777216):=by simp[P2.valid,and_assoc]
def Ji (a b c:P2):Int:=(b.x-a.x)*(c.y-a.y)-(b.y-a.y)*(c.x-a.x)
def Q9f (P:Program) (f:FuncId):Prop:=∀p:P2,CallIs P f [p.enc] (.b p.valid)
theorem Q06 {a b:Int} {k m:Nat} (ha:-(k:Int)<=a/\a<=k) (hb:-(m:Int)<=b/\b<=m):-((k*m:Nat):Int)<=a*b/\a*b<=(k*m:Nat):=by
 have h1:a.natAbs<=k:=by omega
 have h2:b.natAbs<=m:=by omega
 have h3:=Nat.mul_le_mul h1 h2
 rw[<- Int.natAbs_mul]at h3
 omega
section
variable {P:Program} (hm:P.follows .mixedOrders=true)
include hm
theorem Q1k {f:FuncId} (hf:Q9 P f L0k.c L0k.r L0k.n):Q9f P f:=by
 intro p
 refine PureC.is (Q8 hm hf (qh rfl) ?_) rfl
 unfold L0k.c
 simp +contextual -implicitDefEqProofs [go_sem,P2.enc,P2.cs,L0k.r]
 simp[P2.valid,and_assoc]
end
end Go.Abs
