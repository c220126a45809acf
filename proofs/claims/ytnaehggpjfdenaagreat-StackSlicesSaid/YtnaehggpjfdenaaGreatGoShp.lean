/- The code of functions of the program, the functions that they call left open. -/
import Derived.Test.YtnaehggpjfdenaaGreatGoRevC
set_option linter.unusedVariables false
set_option linter.unusedSimpArgs false
namespace Go.Abs
def L3k.c (L3m L3n L3o L3l L3r:FuncId):C :=(Bs [Au 2 (.box (.t 0)),Au 3 (.box (.t 1)),Au 4 (.alloc [.nil,.nil]),Ac 5 0] (.seq (.blk 0 (Bs [Af 8 0 3,Al 9 8,Af 10 1 3,Al 11 10,Af 12 2 3,Al 13 12,Au 14 (.mn [.t 9,.t 11,.t 13]),Ak .lss 15 14 1,Am 7 15] (.ite (.t 7) (Bs [Au 16 (.build [.nil,.nil] []),As 2 4 16,Ac 5 1] .ret) (Bs [Ag 18 3 2,Au 19 (.bsi 3 1 [(.i .i64 0),(.i .i64 0),(.i .i64 0)] [(0,(.t 18))]),Au 20 (.call L3m [.t 19]),Au 21 (.un .not (.t 20)),Am 22 21,Aw 23 22 (.ld (some 3) (.t 3)),Aw 24 22 (.call L3n [.t 23]),Aw 25 22 (.un .not (.t 24)),Ao 26 22 25,Am 27 26,Aw 28 27 (.ld (some 3) (.t 2)),
 Aw 29 27 (.ld (some 3) (.t 3)),Aw 30 27 (.call L3o [.t 28,.t 29]),Aw 31 27 (.bsi 3 1 [(.i .i64 0),(.i .i64 0),(.i .i64 0)] [(0,(.t 30))]),Aw 32 27 (.call L3m [.t 31]),Aw 33 27 (.un .not (.t 32)),Ao 34 27 33,Am 17 34] (.ite (.t 17) (Bs [Au 35 (.build [.nil,.nil] []),As 2 4 35,Ac 5 8] .ret) .skip))))) (Bs [Ag 36 3 2,Ag 37 3 3,Au 38 (.call L3l [.t 36,.t 37]),Au 6 (.alloc [(.i .i64 0),(.i .i64 0),(.i .i64 0),(.i .i64 0),(.i .i64 0),(.i .i64 0),(.i .i64 0),(.i .i64 0),(.i .i64 0),(.i .i64 0),(.i .i64 0),(.i .i64 0),(.i .i64 0),(.i .i64 0),(.i .i64 0),(.i .i64 0),(.i .i64 0),(.i .i64 0),(.i .i64 0),(.i .i64 0),(.i .i64 0),(.i .i64 0),(.i .i64 0),(.i .i64 0)]),
 As 24 6 38] (Bs [Au 39 (.sla 3 8 (.t 6)),Au 40 (.call L3r [.t 39]),Au 41 (.build [(.i .i64 0),(.i .i64 0),(.i .i64 0)] [(0,1,(.c (.i .i64 0))),(1,1,(.c (.i .i64 2))),(2,1,(.c (.i .i64 3)))]),Au 42 (.build [(.i .i64 0),(.i .i64 0),(.i .i64 0)] [(0,1,(.c (.i .i64 0))),(1,1,(.c (.i .i64 3))),(2,1,(.c (.i .i64 1)))]),Au 43 (.build [(.i .i64 0),(.i .i64 0),(.i .i64 0)] [(0,1,(.c (.i .i64 4))),(1,1,(.c (.i .i64 5))),(2,1,(.c (.i .i64 7)))]),Au 44 (.build [(.i .i64 0),(.i .i64 0),(.i .i64 0)] [(0,1,(.c (.i .i64 4))),(1,1,(.c (.i .i64 7))),(2,1,(.c (.i .i64 6)))]),Au 45 (.build [(.i .i64 0),(.i .i64 0),(.i .i64 0)] [(0,1,(.c (.i .i64 0))),(1,1,(.c (.i .i64 1))),(2,1,(.c (.i .i64 5)))]),
 Au 46 (.build [(.i .i64 0),(.i .i64 0),(.i .i64 0)] [(0,1,(.c (.i .i64 0))),(1,1,(.c (.i .i64 5))),(2,1,(.c (.i .i64 4)))]),Au 47 (.build [(.i .i64 0),(.i .i64 0),(.i .i64 0)] [(0,1,(.c (.i .i64 2))),(1,1,(.c (.i .i64 6))),(2,1,(.c (.i .i64 7)))]),Au 48 (.build [(.i .i64 0),(.i .i64 0),(.i .i64 0)] [(0,1,(.c (.i .i64 2))),(1,1,(.c (.i .i64 7))),(2,1,(.c (.i .i64 3)))]),Au 49 (.build [(.i .i64 0),(.i .i64 0),(.i .i64 0)] [(0,1,(.c (.i .i64 0))),(1,1,(.c (.i .i64 4))),(2,1,(.c (.i .i64 6)))]),Au 50 (.build [(.i .i64 0),(.i .i64 0),(.i .i64 0)] [(0,1,(.c (.i .i64 0))),(1,1,(.c (.i .i64 6))),(2,1,(.c (.i .i64 2)))]),
 Au 51 (.build [(.i .i64 0),(.i .i64 0),(.i .i64 0)] [(0,1,(.c (.i .i64 1))),(1,1,(.c (.i .i64 3))),(2,1,(.c (.i .i64 7)))]),Au 52 (.build [(.i .i64 0),(.i .i64 0),(.i .i64 0)] [(0,1,(.c (.i .i64 1))),(1,1,(.c (.i .i64 7))),(2,1,(.c (.i .i64 5)))]),Au 53 (.bso 3 12 [(.i .i64 0),(.i .i64 0),(.i .i64 0)] [(0,(.t 41)),(1,(.t 42)),(2,(.t 43)),(3,(.t 44)),(4,(.t 45)),(5,(.t 46)),(6,(.t 47)),(7,(.t 48)),(8,(.t 49)),(9,(.t 50)),(10,(.t 51)),(11,(.t 52))]),Au 54 (.build [.nil,.nil] [(0,1,(.t 40)),(1,1,(.t 53))]),As 2 4 54,Ac 5 0] .ret))))
def L3k.r:List Rr:=[.cell 4 (some 2),.tmp 5]
abbrev L3k.n:Nat:=55
def L3m.c (L4d:FuncId):C :=(Bs [Ab 2 false] (.seq (Bs [Am 5 0,An 6 0 5,Ac 7 0] (.blk 0 (.loop (Bs [Aj .lss 8 7 6] (.seq (.ite (.t 8) .skip (.exit 0)) (.seq (.blk 1 (Bs [Ai 9 3 5 7,Ag 10 3 9,Au 4 (.alloc [(.i .i64 0),(.i .i64 0),(.i .i64 0)]),As 3 4 10] (Bs [Ag 11 3 4,Au 12 (.call L4d [.t 11]),Au 13 (.un .not (.t 12))] (.ite (.t 13) (Bs [Ab 2 false] .ret) .skip)))) (.reg [Ad 14 7 1,Am 7 14]))))))) (Bs [Ab 2 true] .ret)))
def L3m.r:List Rr:=[.tmp 2]
abbrev L3m.n:Nat:=15
def L3n.c:C :=(Bs [Au 1 (.box (.t 0)),Ab 2 false] (Bs [Af 3 0 1,Al 4 3,Af 5 1 1,Al 6 5,Af 7 2 1,Al 8 7,Au 9 (.mx [.t 4,.t 6,.t 8]),Ak .leq 10 9 131072,Am 11 10,Av 12 11 (.fa 0 (.t 1)),Av 13 11 (.ld none (.t 12)),Av 14 11 (.fa 1 (.t 1)),Av 15 11 (.ld none (.t 14)),Av 16 11 (.fa 2 (.t 1)),Av 17 11 (.ld none (.t 16)),Av 18 11 (.mn [.t 13,.t 15,.t 17]),Av 19 11 (.bin .geq (.t 18) (.c (.i .i64 (-131072)))),Ap 20 11 19,Am 2 20] .ret))
def L3n.r:List Rr:=[.tmp 2]
abbrev L3n.n:Nat:=21
def L3o.c:C :=(Bs [Au 2 (.box (.t 0)),Au 3 (.box (.t 1)),Au 4 (.alloc [(.i .i64 0),(.i .i64 0),(.i .i64 0)])] (Bs [Af 5 0 2,Al 6 5,Af 7 0 3,Al 8 7,Aj .add 9 6 8,Af 10 1 2,Al 11 10,Af 12 1 3,Al 13 12,Aj .add 14 11 13,Af 15 2 2,Al 16 15,Af 17 2 3,Al 18 17,Aj .add 19 16 18,Au 20 (.build [(.i .i64 0),(.i .i64 0),(.i .i64 0)] [(0,1,(.t 9)),(1,1,(.t 14)),(2,1,(.t 19))]),As 3 4 20] .ret))
def L3o.r:List Rr:=[.cell 4 (some 3)]
abbrev L3o.n:Nat:=21
def L3l.c (L3o:FuncId):C :=(Bs [Au 2 (.box (.t 0)),Au 3 (.box (.t 1)),Au 4 (.alloc [(.i .i64 0),(.i .i64 0),(.i .i64 0),(.i .i64 0),(.i .i64 0),(.i .i64 0),(.i .i64 0),(.i .i64 0),(.i .i64 0),(.i .i64 0),(.i .i64 0),(.i .i64 0),(.i .i64 0),(.i .i64 0),(.i .i64 0),(.i .i64 0),(.i .i64 0),(.i .i64 0),(.i .i64 0),(.i .i64 0),(.i .i64 0),(.i .i64 0),(.i .i64 0),(.i .i64 0)])] (Bs [Au 5 (.alloc [(.i .i64 0),(.i .i64 0),(.i .i64 0),(.i .i64 0),(.i .i64 0),(.i .i64 0),(.i .i64 0),(.i .i64 0),(.i .i64 0),(.i .i64 0),(.i .i64 0),(.i .i64 0),(.i .i64 0),(.i .i64 0),(.i .i64 0),(.i .i64 0),(.i .i64 0),(.i .i64 0),(.i .i64 0),(.i .i64 0),(.i .i64 0),(.i .i64 0),(.i .i64 0),(.i .i64 0)])]
 (.seq (Bs [Ac 7 0] (.blk 0 (.loop (Bs [Ak .lss 8 7 8] (.seq (.ite (.t 8) .skip (.exit 0)) (.seq (.blk 1 (Bs [Am 9 7,Am 6 9] (.reg [Am 10 6,Ag 11 3 2,Am 12 6,Ak .and 13 12 1,Af 14 0 3,Al 15 14,Aj .mul 16 13 15,Am 17 6,Au 18 (.bin .shr (.t 17) (.c (.i .u64 1))),Ak .and 19 18 1,Af 20 1 3,Al 21 20,Aj .mul 22 19 21,Am 23 6,Au 24 (.bin .shr (.t 23) (.c (.i .u64 2))),Ak .and 25 24 1,Af 26 2 3,Al 27 26,Aj .mul 28 25 27,Au 29 (.build [(.i .i64 0),(.i .i64 0),(.i .i64 0)] [(0,1,(.t 16)),(1,1,(.t 22)),(2,1,(.t 28))]),Au 30 (.call L3o [.t 11,.t 29]),Au 31 (.iaa 8 3 (.t 5) (.t 10)),As 3 31 30]))) (.reg [Ad 32 7 1,
 Am 7 32]))))))) (Bs [Ag 33 24 5,As 24 4 33] .ret))))
def L3l.r:List Rr:=[.cell 4 (some 24)]
abbrev L3l.n:Nat:=34
def L3r.c:C :=(Bs [Az 2] (.seq (Bs [Am 3 0,Au 4 (.isn false (.t 3))] (.ite (.t 4) (Bs [Az 2] .ret) .skip)) (Bs [Au 5 (.bso 3 0 [(.i .i64 0),(.i .i64 0),(.i .i64 0)] []),Am 6 0,Au 7 (.app 3 24 (.t 5) (.t 6)),Am 2 7] .ret)))
def L3r.r:List Rr:=[.tmp 2]
abbrev L3r.n:Nat:=8
def L16.c (L15:FuncId):C :=(Bs [Au 3 (.box (.t 0)),Au 4 (.box (.t 1)),Au 5 (.box (.t 2)),Ac 6 0] (Bs [Ag 8 2 3,Ag 9 2 4,Ag 10 2 5,Au 11 (.call L15 [.t 8,.t 9,.t 10]),Am 7 11] (.seq (Bs [Am 12 7,Ak .gtr 13 12 0] (.ite (.t 13) (Bs [Ac 6 1] .ret) .skip)) (.seq (Bs [Am 14 7,Ak .lss 15 14 0] (.ite (.t 15) (Bs [Ac 6 (-1)] .ret) .skip)) (Bs [Ac 6 0] .ret)))))
def L16.r:List Rr:=[.tmp 6]
abbrev L16.n:Nat:=16
def L0m.c (L0n:FuncId):C :=(Bs [Au 3 (.box (.t 0)),Au 4 (.box (.t 1)),Au 5 (.box (.t 2)),Ac 6 0] (.seq (Bs [Ag 7 2 3,Au 8 (.call L0n [.t 7]),Au 9 (.un .not (.t 8)),Am 10 9,Aw 11 10 (.ld (some 2) (.t 4)),Aw 12 10 (.call L0n [.t 11]),Aw 13 10 (.un .not (.t 12)),Ao 14 10 13,Am 15 14,Aw 16 15 (.ld (some 2) (.t 5)),Aw 17 15 (.call L0n [.t 16]),Aw 18 15 (.un .not (.t 17)),Ao 19 15 18] (.ite (.t 19) (Bs [Ac 6 0] .ret) .skip)) (Bs [Af 20 0 4,Al 21 20,Af 22 0 3,Al 23 22,Aj .sub 24 21 23,Af 25 1 5,Al 26 25,Af 27 1 3,Al 28 27,Aj .sub 29 26 28,Aj .mul 30 24 29,Af 31 1 4,Al 32 31,Af 33 1 3,Al 34 33,Aj .sub 35 32 34,
 Af 36 0 5,Al 37 36,Af 38 0 3,Al 39 38,Aj .sub 40 37 39,Aj .mul 41 35 40,Aj .sub 42 30 41,Am 6 42] .ret)))
def L0m.r:List Rr:=[.tmp 6]
abbrev L0m.n:Nat:=43
def L0n.c:C :=(Bs [Au 1 (.box (.t 0)),Ab 2 false] (Bs [Af 3 0 1,Al 4 3,Ak .geq 5 4 (-16777216),Am 6 5,Av 7 6 (.fa 0 (.t 1)),Av 8 6 (.ld none (.t 7)),Av 9 6 (.bin .leq (.t 8) (.c (.i .i64 16777216))),Ap 10 6 9,Am 11 10,Av 12 11 (.fa 1 (.t 1)),Av 13 11 (.ld none (.t 12)),Av 14 11 (.bin .geq (.t 13) (.c (.i .i64 (-16777216)))),Ap 15 11 14,Am 16 15,Av 17 16 (.fa 1 (.t 1)),Av 18 16 (.ld none (.t 17)),Av 19 16 (.bin .leq (.t 18) (.c (.i .i64 16777216))),Ap 20 16 19,Am 2 20] .ret))
def L0n.r:List Rr:=[.tmp 2]
abbrev L0n.n:Nat:=21
def L15.c (L17:FuncId):C :=(Bs [Au 3 (.box (.t 0)),Au 4 (.box (.t 1)),Au 5 (.box (.t 2)),Ac 6 0] (.seq (Bs [Ag 7 2 3,Au 8 (.call L17 [.t 7]),Au 9 (.un .not (.t 8)),Am 10 9,Aw 11 10 (.ld (some 2) (.t 4)),Aw 12 10 (.call L17 [.t 11]),Aw 13 10 (.un .not (.t 12)),Ao 14 10 13,Am 15 14,Aw 16 15 (.ld (some 2) (.t 5)),Aw 17 15 (.call L17 [.t 16]),Aw 18 15 (.un .not (.t 17)),Ao 19 15 18] (.ite (.t 19) (Bs [Ac 6 0] .ret) .skip)) (Bs [Af 20 0 4,Al 21 20,Af 22 0 3,Al 23 22,Aj .sub 24 21 23,Af 25 1 5,Al 26 25,Af 27 1 3,Al 28 27,Aj .sub 29 26 28,Aj .mul 30 24 29,Af 31 1 4,Al 32 31,Af 33 1 3,Al 34 33,Aj .sub 35 32 34,
 Af 36 0 5,Al 37 36,Af 38 0 3,Al 39 38,Aj .sub 40 37 39,Aj .mul 41 35 40,Aj .sub 42 30 41,Am 6 42] .ret)))
def L15.r:List Rr:=[.tmp 6]
abbrev L15.n:Nat:=43
def L17.c:C :=(Bs [Au 1 (.box (.t 0)),Ab 2 false] (Bs [Af 3 0 1,Al 4 3,Ak .geq 5 4 (-16777216),Am 6 5,Av 7 6 (.fa 0 (.t 1)),Av 8 6 (.ld none (.t 7)),Av 9 6 (.bin .leq (.t 8) (.c (.i .i64 16777216))),Ap 10 6 9,Am 11 10,Av 12 11 (.fa 1 (.t 1)),Av 13 11 (.ld none (.t 12)),Av 14 11 (.bin .geq (.t 13) (.c (.i .i64 (-16777216)))),Ap 15 11 14,Am 16 15,Av 17 16 (.fa 1 (.t 1)),Av 18 16 (.ld none (.t 17)),Av 19 16 (.bin .leq (.t 18) (.c (.i .i64 16777216))),Ap 20 16 19,Am 2 20] .ret))
def L17.r:List Rr:=[.tmp 2]
abbrev L17.n:Nat:=21
def L4a.c (L4e L49 L4b:FuncId):C :=(Bs [Au 3 (.box (.t 0)),Au 4 (.box (.t 1)),Au 5 (.box (.t 2)),Ac 6 0] (.seq (Bs [Ag 7 3 4,Au 8 (.call L4e [.t 7]),Au 9 (.un .not (.t 8)),Am 10 9,Aw 11 10 (.ld (some 3) (.t 5)),Aw 12 10 (.call L4e [.t 11]),Aw 13 10 (.un .not (.t 12)),Ao 14 10 13] (.ite (.t 14) (Bs [Ac 6 0] .ret) .skip)) (.seq (.drw [Ag 15 3 3,Ag 16 3 4,Ag 17 3 5,Au 18 (.call L49 [.t 16,.t 17]),Au 19 (.call L4b [.t 15,.t 18]),Am 6 19] [[],[],[],[0],[],[]]) .ret)))
def L4a.r:List Rr:=[.tmp 6]
abbrev L4a.n:Nat:=20
def L4e.c (L4f:FuncId):C :=(Bs [Au 1 (.box (.t 0)),Ab 2 false] (Bs [Ag 3 3 1,Au 4 (.call L4f [.t 3,(.c (.i .i64 131072))]),Am 2 4] .ret))
def L4e.r:List Rr:=[.tmp 2]
abbrev L4e.n:Nat:=5
def L4b.c (L4e L4f:FuncId):C :=(Bs [Au 2 (.box (.t 0)),Au 3 (.box (.t 1)),Ac 4 0] (.seq (Bs [Ag 5 3 2,Au 6 (.call L4e [.t 5]),Au 7 (.un .not (.t 6)),Am 8 7,Aw 9 8 (.ld (some 3) (.t 3)),Aw 10 8 (.call L4f [.t 9,(.c (.i .i64 1099511627776))]),Aw 11 8 (.un .not (.t 10)),Ao 12 8 11] (.ite (.t 12) (Bs [Ac 4 0] .ret) .skip)) (Bs [Af 13 0 2,Al 14 13,Af 15 0 3,Al 16 15,Aj .mul 17 14 16,Af 18 1 2,Al 19 18,Af 20 1 3,Al 21 20,Aj .mul 22 19 21,Aj .add 23 17 22,Af 24 2 2,Al 25 24,Af 26 2 3,Al 27 26,Aj .mul 28 25 27,Aj .add 29 23 28,Am 4 29] .ret)))
def L4b.r:List Rr:=[.tmp 4]
abbrev L4b.n:Nat:=30
def L49.c (L4e:FuncId):C :=(Bs [Au 2 (.box (.t 0)),Au 3 (.box (.t 1)),Au 4 (.alloc [(.i .i64 0),(.i .i64 0),(.i .i64 0)])] (.seq (Bs [Ag 5 3 2,Au 6 (.call L4e [.t 5]),Au 7 (.un .not (.t 6)),Am 8 7,Aw 9 8 (.ld (some 3) (.t 3)),Aw 10 8 (.call L4e [.t 9]),Aw 11 8 (.un .not (.t 10)),Ao 12 8 11] (.ite (.t 12) (Bs [Au 13 (.build [(.i .i64 0),(.i .i64 0),(.i .i64 0)] []),As 3 4 13] .ret) .skip)) (Bs [Af 14 1 2,Al 15 14,Af 16 2 3,Al 17 16,Aj .mul 18 15 17,Af 19 2 2,Al 20 19,Af 21 1 3,Al 22 21,Aj .mul 23 20 22,Aj .sub 24 18 23,Af 25 2 2,Al 26 25,Af 27 0 3,Al 28 27,Aj .mul 29 26 28,Af 30 0 2,Al 31 30,Af 32 2 3,
 Al 33 32,Aj .mul 34 31 33,Aj .sub 35 29 34,Af 36 0 2,Al 37 36,Af 38 1 3,Al 39 38,Aj .mul 40 37 39,Af 41 1 2,Al 42 41,Af 43 0 3,Al 44 43,Aj .mul 45 42 44,Aj .sub 46 40 45,Au 47 (.build [(.i .i64 0),(.i .i64 0),(.i .i64 0)] [(0,1,(.t 24)),(1,1,(.t 35)),(2,1,(.t 46))]),As 3 4 47] .ret)))
def L49.r:List Rr:=[.cell 4 (some 3)]
abbrev L49.n:Nat:=48
def L0g.c (L0e L4a:FuncId):C :=(Bs [Au 1 (.box (.t 0)),Ac 2 0] (.seq (Bs [Ag 6 2 1,Au 7 (.call L0e [.t 6]),Ak .neq 8 7 0] (.ite (.t 8) (Bs [Ac 2 0] .ret) .skip)) (Bs [Ac 3 0] (.seq (Bs [Af 9 1 1,Al 10 9,An 11 0 10,Ac 12 0] (.blk 0 (.loop (Bs [Aj .lss 13 12 11] (.seq (.ite (.t 13) .skip (.exit 0)) (.seq (.blk 1 (Bs [Ai 14 3 10 12,Ag 15 3 14,Au 5 (.alloc [(.i .i64 0),(.i .i64 0),(.i .i64 0)]),As 3 5 15] (.drw [Am 16 3,Af 17 0 1,Al 18 17,Af 19 0 5,Al 20 19,Ai 21 3 18 20,Ag 22 3 21,Af 23 0 1,Al 24 23,Af 25 1 5,Al 26 25,Ai 27 3 24 26,Ag 28 3 27,Af 29 0 1,Al 30 29,Af 31 2 5,Al 32 31,Ai 33 3 30 32,Ag 34 3 33,
 Au 35 (.call L4a [.t 22,.t 28,.t 34]),Aj .add 36 16 35,Am 3 36] []))) (.reg [Ad 37 12 1,Am 12 37]))))))) (Bs [Am 38 3,Am 2 38] .ret)))))
def L0g.r:List Rr:=[.tmp 2]
abbrev L0g.n:Nat:=39
end Go.Abs
