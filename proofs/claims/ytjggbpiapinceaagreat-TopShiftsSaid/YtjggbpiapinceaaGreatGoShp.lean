/- The code of functions of the program, the functions that they call left open. -/
import Derived.Test.YtjggbpiapinceaaGreatGoRevC
set_option linter.unusedVariables false
set_option linter.unusedSimpArgs false
namespace Go.Abs
def L19.c (L1f L1g L1h L1e L1j:FuncId):C :=(.seq (.reg [Au 2 (.box (.t 0)),Au 3 (.box (.t 1)),Au 4 (.alloc [.nil,.nil]),Ac 5 0]) (.seq (.blk 0 (.seq (.reg [Af 8 0 3,Al 9 8,Af 10 1 3,Al 11 10,Af 12 2 3,Al 13 12,Au 14 (.mn [.t 9,.t 11,.t 13]),Ak .lss 15 14 1,Am 7 15]) (.ite (.t 7) (.seq (.reg [Au 16 (.build [.nil,.nil] []),As 2 4 16,Ac 5 1]) .ret) (.seq (.reg [Ag 18 3 2,Au 19 (.bsi 3 1 [(.i .i64 0),(.i .i64 0),(.i .i64 0)] [(0,(.t 18))]),Au 20 (.call L1f [.t 19]),Au 21 (.un .not (.t 20)),Am 22 21,Aw 23 22 (.ld (some 3) (.t 3)),Aw 24 22 (.call L1g [.t 23]),Aw 25 22 (.un .not (.t 24)),Ao 26 22 25,
 Am 27 26,Aw 28 27 (.ld (some 3) (.t 2)),Aw 29 27 (.ld (some 3) (.t 3)),Aw 30 27 (.call L1h [.t 28,.t 29]),Aw 31 27 (.bsi 3 1 [(.i .i64 0),(.i .i64 0),(.i .i64 0)] [(0,(.t 30))]),Aw 32 27 (.call L1f [.t 31]),Aw 33 27 (.un .not (.t 32)),Ao 34 27 33,Am 17 34]) (.ite (.t 17) (.seq (.reg [Au 35 (.build [.nil,.nil] []),As 2 4 35,Ac 5 8]) .ret) .skip))))) (.seq (.reg [Ag 36 3 2,Ag 37 3 3,Au 38 (.call L1e [.t 36,.t 37]),Au 6 (.alloc [(.i .i64 0),(.i .i64 0),(.i .i64 0),(.i .i64 0),(.i .i64 0),(.i .i64 0),(.i .i64 0),(.i .i64 0),(.i .i64 0),(.i .i64 0),(.i .i64 0),(.i .i64 0),(.i .i64 0),(.i .i64 0),(.i .i64 0),(.i .i64 0),(.i .i64 0),(.i .i64 0),(.i .i64 0),(.i .i64 0),(.i .i64 0),(.i .i64 0),(.i .i64 0),(.i .i64 0)]),
 As 24 6 38]) (.seq (.reg [Au 39 (.sla 3 8 (.t 6)),Au 40 (.call L1j [.t 39]),Au 41 (.build [(.i .i64 0),(.i .i64 0),(.i .i64 0)] [(0,1,(.c (.i .i64 0))),(1,1,(.c (.i .i64 2))),(2,1,(.c (.i .i64 3)))]),Au 42 (.build [(.i .i64 0),(.i .i64 0),(.i .i64 0)] [(0,1,(.c (.i .i64 0))),(1,1,(.c (.i .i64 3))),(2,1,(.c (.i .i64 1)))]),Au 43 (.build [(.i .i64 0),(.i .i64 0),(.i .i64 0)] [(0,1,(.c (.i .i64 4))),(1,1,(.c (.i .i64 5))),(2,1,(.c (.i .i64 7)))]),Au 44 (.build [(.i .i64 0),(.i .i64 0),(.i .i64 0)] [(0,1,(.c (.i .i64 4))),(1,1,(.c (.i .i64 7))),(2,1,(.c (.i .i64 6)))]),Au 45 (.build [(.i .i64 0),(.i .i64 0),(.i .i64 0)] [(0,1,(.c (.i .i64 0))),(1,1,(.c (.i .i64 1))),(2,1,(.c (.i .i64 5)))]),
 Au 46 (.build [(.i .i64 0),(.i .i64 0),(.i .i64 0)] [(0,1,(.c (.i .i64 0))),(1,1,(.c (.i .i64 5))),(2,1,(.c (.i .i64 4)))]),Au 47 (.build [(.i .i64 0),(.i .i64 0),(.i .i64 0)] [(0,1,(.c (.i .i64 2))),(1,1,(.c (.i .i64 6))),(2,1,(.c (.i .i64 7)))]),Au 48 (.build [(.i .i64 0),(.i .i64 0),(.i .i64 0)] [(0,1,(.c (.i .i64 2))),(1,1,(.c (.i .i64 7))),(2,1,(.c (.i .i64 3)))]),Au 49 (.build [(.i .i64 0),(.i .i64 0),(.i .i64 0)] [(0,1,(.c (.i .i64 0))),(1,1,(.c (.i .i64 4))),(2,1,(.c (.i .i64 6)))]),Au 50 (.build [(.i .i64 0),(.i .i64 0),(.i .i64 0)] [(0,1,(.c (.i .i64 0))),(1,1,(.c (.i .i64 6))),(2,1,(.c (.i .i64 2)))]),
 Au 51 (.build [(.i .i64 0),(.i .i64 0),(.i .i64 0)] [(0,1,(.c (.i .i64 1))),(1,1,(.c (.i .i64 3))),(2,1,(.c (.i .i64 7)))]),Au 52 (.build [(.i .i64 0),(.i .i64 0),(.i .i64 0)] [(0,1,(.c (.i .i64 1))),(1,1,(.c (.i .i64 7))),(2,1,(.c (.i .i64 5)))]),Au 53 (.bso 3 12 [(.i .i64 0),(.i .i64 0),(.i .i64 0)] [(0,(.t 41)),(1,(.t 42)),(2,(.t 43)),(3,(.t 44)),(4,(.t 45)),(5,(.t 46)),(6,(.t 47)),(7,(.t 48)),(8,(.t 49)),(9,(.t 50)),(10,(.t 51)),(11,(.t 52))]),Au 54 (.build [.nil,.nil] [(0,1,(.t 40)),(1,1,(.t 53))]),As 2 4 54,Ac 5 0]) .ret))))
def L19.r:List Rr:=[.cell 4 (some 2),.tmp 5]
abbrev L19.n:Nat:=55
def L1a.c (L0c L1g L1b L1c L1d:FuncId):C :=(.seq (.reg [Au 2 (.box (.t 0)),Au 3 (.box (.t 1)),Au 4 (.alloc [.nil,.nil]),Ac 5 0]) (.seq (.blk 0 (.seq (.reg [Ag 7 2 2,Au 8 (.call L0c [.t 7]),Ak .neq 9 8 0,Am 6 9]) (.ite (.t 6) (.seq (.reg [Au 10 (.build [.nil,.nil] []),As 2 4 10,Ac 5 1]) .ret) (.seq (.reg [Af 12 0 2,Al 13 12,An 14 0 13,Ak .gtr 15 14 0,Am 16 15,Av 17 16 (.ld (some 3) (.t 3)),Av 18 16 (.call L1g [.t 17]),Av 19 16 (.un .not (.t 18)),Ap 20 16 19,Am 11 20]) (.ite (.t 11) (.seq (.reg [Au 21 (.build [.nil,.nil] []),As 2 4 21,Ac 5 8]) .ret) .skip))))) (.seq (.reg [Ag 22 2 2,Au 23 (.mkf L1b [.t 3]),
 Au 24 (.call L1c [.t 22,.t 23]),Au 25 (.call L1d [.t 24]),Ax1 26 0 25,Ax1 27 1 25,As 2 4 26,Am 5 27]) .ret)))
def L1a.r:List Rr:=[.cell 4 (some 2),.tmp 5]
abbrev L1a.n:Nat:=28
def L1f.c (L1z:FuncId):C :=(.seq (.reg [Ab 2 false]) (.seq (.seq (.reg [Am 5 0,An 6 0 5,Ac 7 0]) (.blk 0 (.loop (.seq (.reg [Aj .lss 8 7 6]) (.seq (.ite (.t 8) .skip (.exit 0)) (.seq (.blk 1 (.seq (.reg [Ai 9 3 5 7,Ag 10 3 9,Au 4 (.alloc [(.i .i64 0),(.i .i64 0),(.i .i64 0)]),As 3 4 10]) (.seq (.reg [Ag 11 3 4,Au 12 (.call L1z [.t 11]),Au 13 (.un .not (.t 12))]) (.ite (.t 13) (.seq (.reg [Ab 2 false]) .ret) .skip)))) (.reg [Ad 14 7 1,Am 7 14]))))))) (.seq (.reg [Ab 2 true]) .ret)))
def L1f.r:List Rr:=[.tmp 2]
abbrev L1f.n:Nat:=15
def L1g.c:C :=(.seq (.reg [Au 1 (.box (.t 0)),Ab 2 false]) (.seq (.reg [Af 3 0 1,Al 4 3,Af 5 1 1,Al 6 5,Af 7 2 1,Al 8 7,Au 9 (.mx [.t 4,.t 6,.t 8]),Ak .leq 10 9 131072,Am 11 10,Av 12 11 (.fa 0 (.t 1)),Av 13 11 (.ld none (.t 12)),Av 14 11 (.fa 1 (.t 1)),Av 15 11 (.ld none (.t 14)),Av 16 11 (.fa 2 (.t 1)),Av 17 11 (.ld none (.t 16)),Av 18 11 (.mn [.t 13,.t 15,.t 17]),Av 19 11 (.bin .geq (.t 18) (.c (.i .i64 (-131072)))),Ap 20 11 19,Am 2 20]) .ret))
def L1g.r:List Rr:=[.tmp 2]
abbrev L1g.n:Nat:=21
def L1h.c:C :=(.seq (.reg [Au 2 (.box (.t 0)),Au 3 (.box (.t 1)),Au 4 (.alloc [(.i .i64 0),(.i .i64 0),(.i .i64 0)])]) (.seq (.reg [Af 5 0 2,Al 6 5,Af 7 0 3,Al 8 7,Aj .add 9 6 8,Af 10 1 2,Al 11 10,Af 12 1 3,Al 13 12,Aj .add 14 11 13,Af 15 2 2,Al 16 15,Af 17 2 3,Al 18 17,Aj .add 19 16 18,Au 20 (.build [(.i .i64 0),(.i .i64 0),(.i .i64 0)] [(0,1,(.t 9)),(1,1,(.t 14)),(2,1,(.t 19))]),As 3 4 20]) .ret))
def L1h.r:List Rr:=[.cell 4 (some 3)]
abbrev L1h.n:Nat:=21
def L1e.c (L1h:FuncId):C :=(.seq (.reg [Au 2 (.box (.t 0)),Au 3 (.box (.t 1)),Au 4 (.alloc [(.i .i64 0),(.i .i64 0),(.i .i64 0),(.i .i64 0),(.i .i64 0),(.i .i64 0),(.i .i64 0),(.i .i64 0),(.i .i64 0),(.i .i64 0),(.i .i64 0),(.i .i64 0),(.i .i64 0),(.i .i64 0),(.i .i64 0),(.i .i64 0),(.i .i64 0),(.i .i64 0),(.i .i64 0),(.i .i64 0),(.i .i64 0),(.i .i64 0),(.i .i64 0),(.i .i64 0)])]) (.seq (.reg [Au 5 (.alloc [(.i .i64 0),(.i .i64 0),(.i .i64 0),(.i .i64 0),(.i .i64 0),(.i .i64 0),(.i .i64 0),(.i .i64 0),(.i .i64 0),(.i .i64 0),(.i .i64 0),(.i .i64 0),(.i .i64 0),(.i .i64 0),(.i .i64 0),(.i .i64 0),(.i .i64 0),(.i .i64 0),(.i .i64 0),(.i .i64 0),(.i .i64 0),(.i .i64 0),(.i .i64 0),(.i .i64 0)])])
 (.seq (.seq (.reg [Ac 7 0]) (.blk 0 (.loop (.seq (.reg [Ak .lss 8 7 8]) (.seq (.ite (.t 8) .skip (.exit 0)) (.seq (.blk 1 (.seq (.reg [Am 9 7,Am 6 9]) (.reg [Am 10 6,Ag 11 3 2,Am 12 6,Ak .and 13 12 1,Af 14 0 3,Al 15 14,Aj .mul 16 13 15,Am 17 6,Au 18 (.bin .shr (.t 17) (.c (.i .u64 1))),Ak .and 19 18 1,Af 20 1 3,Al 21 20,Aj .mul 22 19 21,Am 23 6,Au 24 (.bin .shr (.t 23) (.c (.i .u64 2))),Ak .and 25 24 1,Af 26 2 3,Al 27 26,Aj .mul 28 25 27,Au 29 (.build [(.i .i64 0),(.i .i64 0),(.i .i64 0)] [(0,1,(.t 16)),(1,1,(.t 22)),(2,1,(.t 28))]),Au 30 (.call L1h [.t 11,.t 29]),Au 31 (.iaa 8 3 (.t 5) (.t 10)),
 As 3 31 30]))) (.reg [Ad 32 7 1,Am 7 32]))))))) (.seq (.reg [Ag 33 24 5,As 24 4 33]) .ret))))
def L1e.r:List Rr:=[.cell 4 (some 24)]
abbrev L1e.n:Nat:=34
def L1j.c:C :=(.seq (.reg [Az 2]) (.seq (.seq (.reg [Am 3 0,Au 4 (.isn false (.t 3))]) (.ite (.t 4) (.seq (.reg [Az 2]) .ret) .skip)) (.seq (.reg [Au 5 (.bso 3 0 [(.i .i64 0),(.i .i64 0),(.i .i64 0)] []),Am 6 0,Au 7 (.app 3 24 (.t 5) (.t 6)),Am 2 7]) .ret)))
def L1j.r:List Rr:=[.tmp 2]
abbrev L1j.n:Nat:=8
def L1d.c (L1f:FuncId):C :=(.seq (.reg [Au 1 (.box (.t 0)),Au 2 (.alloc [.nil,.nil]),Ac 3 0]) (.seq (.seq (.reg [Af 4 0 1,Al 5 4,Au 6 (.call L1f [.t 5]),Au 7 (.un .not (.t 6))]) (.ite (.t 7) (.seq (.reg [Au 8 (.build [.nil,.nil] []),As 2 2 8,Ac 3 8]) .ret) .skip)) (.seq (.reg [Ag 9 2 1,As 2 2 9,Ac 3 0]) .ret)))
def L1d.r:List Rr:=[.cell 2 (some 2),.tmp 3]
abbrev L1d.n:Nat:=10
def L1c.c (L1j L1i:FuncId):C :=(.seq (.reg [Au 2 (.box (.t 0)),Au 4 (.alloc [.nil,.nil])]) (.seq (.drw [Af 8 0 2,Al 9 8,Au 10 (.call L1j [.t 9]),Af 11 1 2,Al 12 11,Au 13 (.call L1i [.t 12]),Au 14 (.build [.nil,.nil] [(0,1,(.t 10)),(1,1,(.t 13))]),Au 5 (.alloc [.nil,.nil]),As 2 5 14] [[],[],[],[2],[2],[],[],[],[]]) (.seq (.seq (.reg [Af 15 0 5,Al 16 15,An 17 0 16,Ac 18 0]) (.blk 0 (.loop (.seq (.reg [Aj .lss 19 18 17]) (.seq (.ite (.t 19) .skip (.exit 0)) (.seq (.blk 1 (.seq (.reg [Am 20 18,Ai 21 3 16 18,Ag 22 3 21,Au 7 (.alloc [(.i .i64 0),(.i .i64 0),(.i .i64 0)]),Am 6 20,As 3 7 22]) (.drw [Af 23 0 5,
 Al 24 23,Am 25 6,Am 26 1,Ag 27 3 7,Au 28 (.callv (.t 26) [.t 27]),Ai 29 3 24 25,As 3 29 28] [[],[],[],[],[],[0,1],[],[]]))) (.reg [Ad 30 18 1,Am 18 30]))))))) (.seq (.reg [Ag 31 2 5,As 2 4 31]) .ret))))
def L1c.r:List Rr:=[.cell 4 (some 2)]
abbrev L1c.n:Nat:=32
def L1b.c (L1h:FuncId):C :=(.seq (.reg [Au 2 (.box (.t 0)),Au 3 (.alloc [(.i .i64 0),(.i .i64 0),(.i .i64 0)])]) (.seq (.reg [Ag 4 3 2,Ag 5 3 1,Au 6 (.call L1h [.t 4,.t 5]),As 3 3 6]) .ret))
def L1b.r:List Rr:=[.cell 3 (some 3)]
abbrev L1b.n:Nat:=7
def L1i.c:C :=(.seq (.reg [Az 2]) (.seq (.seq (.reg [Am 3 0,Au 4 (.isn false (.t 3))]) (.ite (.t 4) (.seq (.reg [Az 2]) .ret) .skip)) (.seq (.reg [Au 5 (.bso 3 0 [(.i .i64 0),(.i .i64 0),(.i .i64 0)] []),Am 6 0,Au 7 (.app 3 24 (.t 5) (.t 6)),Am 2 7]) .ret)))
def L1i.r:List Rr:=[.tmp 2]
abbrev L1i.n:Nat:=8
def L0k.c:C :=(.seq (.reg [Au 1 (.box (.t 0)),Ab 2 false]) (.seq (.reg [Af 3 0 1,Al 4 3,Ak .geq 5 4 (-16777216),Am 6 5,Av 7 6 (.fa 0 (.t 1)),Av 8 6 (.ld none (.t 7)),Av 9 6 (.bin .leq (.t 8) (.c (.i .i64 16777216))),Ap 10 6 9,Am 11 10,Av 12 11 (.fa 1 (.t 1)),Av 13 11 (.ld none (.t 12)),Av 14 11 (.bin .geq (.t 13) (.c (.i .i64 (-16777216)))),Ap 15 11 14,Am 16 15,Av 17 16 (.fa 1 (.t 1)),Av 18 16 (.ld none (.t 17)),Av 19 16 (.bin .leq (.t 18) (.c (.i .i64 16777216))),Ap 20 16 19,Am 2 20]) .ret))
def L0k.r:List Rr:=[.tmp 2]
abbrev L0k.n:Nat:=21
def L1w.c (L20 L1v L1x:FuncId):C :=(.seq (.reg [Au 3 (.box (.t 0)),Au 4 (.box (.t 1)),Au 5 (.box (.t 2)),Ac 6 0]) (.seq (.seq (.reg [Ag 7 3 4,Au 8 (.call L20 [.t 7]),Au 9 (.un .not (.t 8)),Am 10 9,Aw 11 10 (.ld (some 3) (.t 5)),Aw 12 10 (.call L20 [.t 11]),Aw 13 10 (.un .not (.t 12)),Ao 14 10 13]) (.ite (.t 14) (.seq (.reg [Ac 6 0]) .ret) .skip)) (.seq (.drw [Ag 15 3 3,Ag 16 3 4,Ag 17 3 5,Au 18 (.call L1v [.t 16,.t 17]),Au 19 (.call L1x [.t 15,.t 18]),Am 6 19] [[],[],[],[0],[],[]]) .ret)))
def L1w.r:List Rr:=[.tmp 6]
abbrev L1w.n:Nat:=20
def L20.c (L21:FuncId):C :=(.seq (.reg [Au 1 (.box (.t 0)),Ab 2 false]) (.seq (.reg [Ag 3 3 1,Au 4 (.call L21 [.t 3,(.c (.i .i64 131072))]),Am 2 4]) .ret))
def L20.r:List Rr:=[.tmp 2]
abbrev L20.n:Nat:=5
def L1x.c (L20 L21:FuncId):C :=(.seq (.reg [Au 2 (.box (.t 0)),Au 3 (.box (.t 1)),Ac 4 0]) (.seq (.seq (.reg [Ag 5 3 2,Au 6 (.call L20 [.t 5]),Au 7 (.un .not (.t 6)),Am 8 7,Aw 9 8 (.ld (some 3) (.t 3)),Aw 10 8 (.call L21 [.t 9,(.c (.i .i64 1099511627776))]),Aw 11 8 (.un .not (.t 10)),Ao 12 8 11]) (.ite (.t 12) (.seq (.reg [Ac 4 0]) .ret) .skip)) (.seq (.reg [Af 13 0 2,Al 14 13,Af 15 0 3,Al 16 15,Aj .mul 17 14 16,Af 18 1 2,Al 19 18,Af 20 1 3,Al 21 20,Aj .mul 22 19 21,Aj .add 23 17 22,Af 24 2 2,Al 25 24,Af 26 2 3,Al 27 26,Aj .mul 28 25 27,Aj .add 29 23 28,Am 4 29]) .ret)))
def L1x.r:List Rr:=[.tmp 4]
abbrev L1x.n:Nat:=30
def L1v.c (L20:FuncId):C :=(.seq (.reg [Au 2 (.box (.t 0)),Au 3 (.box (.t 1)),Au 4 (.alloc [(.i .i64 0),(.i .i64 0),(.i .i64 0)])]) (.seq (.seq (.reg [Ag 5 3 2,Au 6 (.call L20 [.t 5]),Au 7 (.un .not (.t 6)),Am 8 7,Aw 9 8 (.ld (some 3) (.t 3)),Aw 10 8 (.call L20 [.t 9]),Aw 11 8 (.un .not (.t 10)),Ao 12 8 11]) (.ite (.t 12) (.seq (.reg [Au 13 (.build [(.i .i64 0),(.i .i64 0),(.i .i64 0)] []),As 3 4 13]) .ret) .skip)) (.seq (.reg [Af 14 1 2,Al 15 14,Af 16 2 3,Al 17 16,Aj .mul 18 15 17,Af 19 2 2,Al 20 19,Af 21 1 3,Al 22 21,Aj .mul 23 20 22,Aj .sub 24 18 23,Af 25 2 2,Al 26 25,Af 27 0 3,Al 28 27,Aj .mul 29 26 28,
 Af 30 0 2,Al 31 30,Af 32 2 3,Al 33 32,Aj .mul 34 31 33,Aj .sub 35 29 34,Af 36 0 2,Al 37 36,Af 38 1 3,Al 39 38,Aj .mul 40 37 39,Af 41 1 2,Al 42 41,Af 43 0 3,Al 44 43,Aj .mul 45 42 44,Aj .sub 46 40 45,Au 47 (.build [(.i .i64 0),(.i .i64 0),(.i .i64 0)] [(0,1,(.t 24)),(1,1,(.t 35)),(2,1,(.t 46))]),As 3 4 47]) .ret)))
def L1v.r:List Rr:=[.cell 4 (some 3)]
abbrev L1v.n:Nat:=48
def L0e.c (L0c L1w:FuncId):C :=(.seq (.reg [Au 1 (.box (.t 0)),Ac 2 0]) (.seq (.seq (.reg [Ag 6 2 1,Au 7 (.call L0c [.t 6]),Ak .neq 8 7 0]) (.ite (.t 8) (.seq (.reg [Ac 2 0]) .ret) .skip)) (.seq (.reg [Ac 3 0]) (.seq (.seq (.reg [Af 9 1 1,Al 10 9,An 11 0 10,Ac 12 0]) (.blk 0 (.loop (.seq (.reg [Aj .lss 13 12 11]) (.seq (.ite (.t 13) .skip (.exit 0)) (.seq (.blk 1 (.seq (.reg [Ai 14 3 10 12,Ag 15 3 14,Au 5 (.alloc [(.i .i64 0),(.i .i64 0),(.i .i64 0)]),As 3 5 15]) (.drw [Am 16 3,Af 17 0 1,Al 18 17,Af 19 0 5,Al 20 19,Ai 21 3 18 20,Ag 22 3 21,Af 23 0 1,Al 24 23,Af 25 1 5,Al 26 25,Ai 27 3 24 26,Ag 28 3 27,
 Af 29 0 1,Al 30 29,Af 31 2 5,Al 32 31,Ai 33 3 30 32,Ag 34 3 33,Au 35 (.call L1w [.t 22,.t 28,.t 34]),Aj .add 36 16 35,Am 3 36] []))) (.reg [Ad 37 12 1,Am 12 37]))))))) (.seq (.reg [Am 38 3,Am 2 38]) .ret)))))
def L0e.r:List Rr:=[.tmp 2]
abbrev L0e.n:Nat:=39
end Go.Abs
