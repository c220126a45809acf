/- Part of the library on which the proof stands: an abstract machine, its values and its soundness against the model; or what functions of the program do to such values. -/
import Derived.Test.YtcdjgldeiaiaoaaGreatGoRevC
import Derived.Test.YtcdjgldeiaiaoaaGreatGoShpA
import Derived.Test.YtcdjgldeiaiaoaaGreatGoOriC
set_option linter.unusedVariables false
set_option linter.unusedSimpArgs false
set_option maxHeartbeats 4000000
namespace Go.Abs
def L0v.c (L09 L1g L0c L1y L0x:FuncId):C :=(.seq (.reg [Au 1 (.box (.t 0)),Ac 2 0]) (.seq (.seq (.reg [Ag 5 2 1,Au 6 (.call L09 [.t 5]),Am 3 6]) (.seq (.reg [Am 7 3,Ak .neq 8 7 0]) (.ite (.t 8) (.seq (.reg [Am 9 3,Am 2 9]) .ret) .skip))) (.seq (.seq (.reg [Ag 10 2 1,Au 11 (.call L1g [.t 10]),Au 12 (.un .not (.t 11))]) (.ite (.t 12) (.seq (.reg [Ac 2 12]) .ret) .skip)) (.seq (.seq (.reg [Ag 13 2 1,Au 14 (.call L0c [.t 13]),Au 15 (.un .not (.t 14))]) (.ite (.t 15) (.seq (.reg [Ac 2 13]) .ret) .skip)) (.seq (.seq (.reg [Af 16 1 1,Al 17 16,An 18 0 17,Ac 19 0]) (.blk 0 (.loop (.seq (.reg [Aj .lss 20 19 18])
 (.seq (.ite (.t 20) .skip (.exit 0)) (.seq (.blk 1 (.seq (.reg [Am 21 19,Am 4 21]) (.seq (.reg [Ag 22 2 1,Am 23 4,Au 24 (.call L1y [.t 22,.t 23])]) (.ite (.t 24) (.seq (.reg [Ac 2 1]) .ret) .skip)))) (.reg [Ad 25 19 1,Am 19 25]))))))) (.seq (.seq (.reg [Ag 26 2 1,Au 27 (.call L0x [.t 26])]) (.ite (.t 27) (.seq (.reg [Ac 2 1]) .ret) .skip)) (.seq (.reg [Ac 2 0]) .ret)))))))
def L0v.r:List Rr:=[.tmp 2]
abbrev L0v.n:Nat:=28
def L0w.c (L13 L0z L11 L10 L12 L0y:FuncId):C :=(.seq (.reg [Au 1 (.box (.t 0)),Au 2 (.alloc [.nil,.nil]),Au 3 (.alloc [(.i .i64 0),(.i .i64 0),(.i .i64 0),(.i .i64 0),(.i .i64 0),(.i .i64 0),(.i .i64 0)]),Ac 4 0]) (.seq (.reg [Au 10 (.bso 1 7 [.any] [(0,(.c (.f L13 []))),(1,(.c (.f L0z []))),(2,(.c (.f L13 []))),(3,(.c (.f L11 []))),(4,(.c (.f L10 []))),(5,(.c (.f L12 []))),(6,(.c (.f L0y [])))]),Am 5 10]) (.seq (.reg [Ag 11 2 1,Au 12 (.build [.nil,.nil,(.i .i64 0),(.i .i64 0),(.i .i64 0),(.i .i64 0),(.i .i64 0),(.i .i64 0),(.i .i64 0)] [(0,2,(.t 11))]),Au 13 (.box (.t 12)),Am 6 13]) (.seq (.seq
 (.reg [Am 14 5,An 15 0 14,Ac 16 0]) (.blk 0 (.loop (.seq (.reg [Aj .lss 17 16 15]) (.seq (.ite (.t 17) .skip (.exit 0)) (.seq (.blk 1 (.seq (.reg [Ai 18 1 14 16,Al 19 18,Am 8 19]) (.seq (.reg [Am 20 8,Am 21 6,Au 22 (.callv (.t 20) [.t 21]),Am 9 22]) (.seq (.reg [Am 23 9,Ak .neq 24 23 0]) (.ite (.t 24) (.seq (.reg [Au 25 (.build [.nil,.nil] []),Au 26 (.build [(.i .i64 0),(.i .i64 0),(.i .i64 0),(.i .i64 0),(.i .i64 0),(.i .i64 0),(.i .i64 0)] []),Am 27 9,As 2 2 25,As 7 3 26,Am 4 27]) .ret) .skip))))) (.reg [Ad 28 16 1,Am 16 28]))))))) (.seq (.drw [Am 29 6,Au 30 (.nck (.t 29)),Af 31 0 30,Ag 32 2 31,
 Am 33 6,Au 34 (.nck (.t 33)),Af 35 2 34,Ag 36 7 35,As 2 2 32,As 7 3 36,Ac 4 0] [[],[],[],[],[],[],[],[],[5,6,7],[],[]]) .ret)))))
def L0w.r:List Rr:=[.cell 2 (some 2),.cell 3 (some 7),.tmp 4]
abbrev L0w.n:Nat:=37
def L0x.c (L1i L0b:FuncId):C :=(.seq (.reg [Au 1 (.box (.t 0)),Ab 2 false]) (.seq (.seq (.reg [Ag 8 2 1,Au 9 (.call L1i [.t 8]),An 10 0 9,Ac 11 0]) (.blk 0 (.loop (.seq (.reg [Aj .lss 12 11 10]) (.seq (.ite (.t 12) .skip (.exit 0)) (.seq (.blk 1 (.seq (.reg [Ai 13 1 9 11,Al 14 13,Am 4 14]) (.seq (.reg [Af 15 0 1,Al 16 15,Au 17 (.build [.nil,.nil] [(0,1,(.t 16))]),Au 5 (.alloc [.nil,.nil]),As 2 5 17]) (.seq (.seq (.reg [Am 18 4,An 19 0 18,Ac 20 0]) (.blk 2 (.loop (.seq (.reg [Aj .lss 21 20 19]) (.seq (.ite (.t 21) .skip (.exit 2)) (.seq (.blk 3 (.seq (.reg [Ai 22 1 18 20,Al 23 22,Am 7 23]) (.drw [
 Af 24 1 5,Al 25 24,Af 26 1 1,Al 27 26,Am 28 7,Ai 29 3 27 28,Ag 30 3 29,Au 31 (.bsi 3 1 [(.i .i64 0),(.i .i64 0),(.i .i64 0)] [(0,(.t 30))]),Au 32 (.app 3 24 (.t 25) (.t 31)),Af 33 1 5,As 1 33 32] []))) (.reg [Ad 34 20 1,Am 20 34]))))))) (.seq (.reg [Ag 35 2 5,Au 36 (.call L0b [.t 35]),Ak .lss 37 36 0]) (.ite (.t 37) (.seq (.reg [Ab 2 true]) .ret) .skip)))))) (.reg [Ad 38 11 1,Am 11 38]))))))) (.seq (.reg [Ab 2 false]) .ret)))
def L0x.r:List Rr:=[.tmp 2]
abbrev L0x.n:Nat:=39
def L0y.c (L1i L0v:FuncId):C :=(.seq (.reg [Ac 2 0]) (.seq (.reg [Am 3 0,Am 4 0,Au 5 (.nck (.t 4)),Af 6 0 5,Ag 7 2 6,Au 8 (.call L1i [.t 7]),An 9 0 8,Au 10 (.nck (.t 3)),Af 11 2 10,Af 12 6 11,As 1 12 9]) (.seq (.reg [Am 13 0,Au 14 (.nck (.t 13)),Af 15 0 14,Ag 16 2 15,Au 17 (.call L0v [.t 16]),Am 2 17]) .ret)))
def L0y.r:List Rr:=[.tmp 2]
abbrev L0y.n:Nat:=18
def L0z.c (L1x:FuncId):C :=(.seq (.reg [Ac 2 0]) (.seq (.reg [Am 8 0,Au 9 (.nck (.t 8)),Af 10 0 9,Ag 11 2 10,Au 12 (.call L1x [.t 11]),Am 7 12,Ax1 13 0 7,Ax1 14 1 7,Ax1 15 2 7,Ax1 16 3 7,Au 3 (.alloc [.nil,.nil]),As 2 3 13,Am 4 14,Am 5 15,Am 6 16]) (.seq (.reg [Am 17 0,Ag 18 2 3,Au 19 (.nck (.t 17)),Af 20 0 19,As 2 20 18]) (.seq (.reg [Am 21 0,Am 22 4,Au 23 (.nck (.t 21)),Af 24 2 23,Af 25 1 24,As 1 25 22]) (.seq (.reg [Am 26 0,Am 27 5,Au 28 (.nck (.t 26)),Af 29 2 28,Af 30 2 29,As 1 30 27]) (.seq (.reg [Am 31 6,Am 2 31]) .ret))))))
def L0z.r:List Rr:=[.tmp 2]
abbrev L0z.n:Nat:=32
def L10.c (L04:FuncId):C :=(.seq (.reg [Ac 2 0]) (.seq (.reg [Am 7 0,Au 8 (.nck (.t 7)),Af 9 0 8,Ag 10 2 9,Au 11 (.call L04 [.t 10]),Am 6 11,Ax1 12 0 6,Ax1 13 1 6,Ax1 14 2 6,Au 3 (.alloc [.nil,.nil]),As 2 3 12,Am 4 13,Am 5 14]) (.seq (.reg [Am 15 0,Ag 16 2 3,Au 17 (.nck (.t 15)),Af 18 0 17,As 2 18 16]) (.seq (.reg [Am 19 0,Am 20 4,Au 21 (.nck (.t 19)),Af 22 2 21,Af 23 4 22,As 1 23 20]) (.seq (.reg [Am 24 5,Am 2 24]) .ret)))))
def L10.r:List Rr:=[.tmp 2]
abbrev L10.n:Nat:=25
def L11.c (L0d:FuncId):C :=(.seq (.reg [Ac 2 0]) (.seq (.reg [Am 7 0,Au 8 (.nck (.t 7)),Af 9 0 8,Ag 10 2 9,Au 11 (.call L0d [.t 10]),Am 6 11,Ax1 12 0 6,Ax1 13 1 6,Ax1 14 2 6,Au 3 (.alloc [.nil,.nil]),As 2 3 12,Am 4 13,Am 5 14]) (.seq (.reg [Am 15 0,Ag 16 2 3,Au 17 (.nck (.t 15)),Af 18 0 17,As 2 18 16]) (.seq (.reg [Am 19 0,Am 20 4,Au 21 (.nck (.t 19)),Af 22 2 21,Af 23 3 22,As 1 23 20]) (.seq (.reg [Am 24 5,Am 2 24]) .ret)))))
def L11.r:List Rr:=[.tmp 2]
abbrev L11.n:Nat:=25
def L12.c (L0f:FuncId):C :=(.seq (.reg [Ac 2 0]) (.seq (.reg [Am 7 0,Au 8 (.nck (.t 7)),Af 9 0 8,Ag 10 2 9,Au 11 (.call L0f [.t 10]),Am 6 11,Ax1 12 0 6,Ax1 13 1 6,Ax1 14 2 6,Au 3 (.alloc [.nil,.nil]),As 2 3 12,Am 4 13,Am 5 14]) (.seq (.reg [Am 15 0,Ag 16 2 3,Au 17 (.nck (.t 15)),Af 18 0 17,As 2 18 16]) (.seq (.reg [Am 19 0,Am 20 4,Au 21 (.nck (.t 19)),Af 22 2 21,Af 23 5 22,As 1 23 20]) (.seq (.reg [Am 24 5,Am 2 24]) .ret)))))
def L12.r:List Rr:=[.tmp 2]
abbrev L12.n:Nat:=25
def L13.c (L1z:FuncId):C :=(.seq (.reg [Ac 2 0]) (.seq (.reg [Am 7 0,Au 8 (.nck (.t 7)),Af 9 0 8,Ag 10 2 9,Au 11 (.call L1z [.t 10]),Am 6 11,Ax1 12 0 6,Ax1 13 1 6,Ax1 14 2 6,Au 3 (.alloc [.nil,.nil]),As 2 3 12,Am 4 13,Am 5 14]) (.seq (.reg [Am 15 0,Ag 16 2 3,Au 17 (.nck (.t 15)),Af 18 0 17,As 2 18 16]) (.seq (.reg [Am 19 0,Au 20 (.nck (.t 19)),Af 21 2 20,Af 22 0 21,Al 23 22,Am 24 4,Aj .add 25 23 24,Au 26 (.nck (.t 19)),Af 27 2 26,Af 28 0 27,As 1 28 25]) (.seq (.reg [Am 29 5,Am 2 29]) .ret)))))
def L13.r:List Rr:=[.tmp 2]
abbrev L13.n:Nat:=30
def L07.c:C :=(.seq (.reg [Au 1 (.box (.t 0)),Ab 2 false]) (.seq (.reg [Af 3 0 1,Al 4 3,An 5 0 4,Ak .leq 6 5 60,Am 7 6,Av 8 7 (.fa 1 (.t 1)),Av 9 7 (.ld none (.t 8)),Av 10 7 (.len 0 (.t 9)),Av 11 7 (.bin .leq (.t 10) (.c (.i .i64 60))),Ap 12 7 11,Am 2 12]) .ret))
def L07.r:List Rr:=[.tmp 2]
abbrev L07.n:Nat:=13
def L08.c (L0w L0v:FuncId):C :=(.seq (.reg [Ab 0 false]) (.seq (.reg [Au 6 (.build [(.i .i64 0),(.i .i64 0),(.i .i64 0)] []),Au 7 (.build [(.i .i64 0),(.i .i64 0),(.i .i64 0)] [(0,1,(.c (.i .i64 1)))]),Au 8 (.build [(.i .i64 0),(.i .i64 0),(.i .i64 0)] [(0,1,(.c (.i .i64 2)))]),Au 9 (.bso 3 3 [(.i .i64 0),(.i .i64 0),(.i .i64 0)] [(0,(.t 6)),(1,(.t 7)),(2,(.t 8))]),Am 1 9]) (.seq (.reg [Au 10 (.build [(.i .i64 0),(.i .i64 0),(.i .i64 0)] [(0,1,(.c (.i .i64 0))),(1,1,(.c (.i .i64 1))),(2,1,(.c (.i .i64 2)))]),Au 11 (.bso 3 1 [(.i .i64 0),(.i .i64 0),(.i .i64 0)] [(0,(.t 10))]),Am 2 11]) (.seq (.reg [
 Am 13 1,Am 14 2,Au 15 (.build [.nil,.nil] [(0,1,(.t 13)),(1,1,(.t 14))]),Au 16 (.call L0w [.t 15]),Am 12 16,Ax1 17 0 12,Ax1 18 1 12,Ax1 19 2 12,Au 3 (.alloc [.nil,.nil]),Au 4 (.alloc [(.i .i64 0),(.i .i64 0),(.i .i64 0),(.i .i64 0),(.i .i64 0),(.i .i64 0),(.i .i64 0)]),As 2 3 17,As 7 4 18,Am 5 19]) (.seq (.reg [Au 20 (.build [.nil,.nil] []),Au 21 (.call L0v [.t 20]),Ak .eql 22 21 0,Am 23 22,Av 24 23 (.build [(.i .i64 0),(.i .i64 0),(.i .i64 0)] []),Av 25 23 (.build [(.i .i64 0),(.i .i64 0),(.i .i64 0)] [(0,1,(.c (.i .i64 1)))]),Av 26 23 (.build [(.i .i64 0),(.i .i64 0),(.i .i64 0)] [(1,1,(.c (.i .i64 1)))]),
 Av 27 23 (.bso 3 3 [(.i .i64 0),(.i .i64 0),(.i .i64 0)] [(0,(.t 24)),(1,(.t 25)),(2,(.t 26))]),Av 28 23 (.mv (.t 2)),Av 29 23 (.build [.nil,.nil] [(0,1,(.t 27)),(1,1,(.t 28))]),Av 30 23 (.call L0v [.t 29]),Av 31 23 (.bin .eql (.t 30) (.c (.i .i64 12))),Ap 32 23 31,Am 33 32,Av 34 33 (.mv (.t 5)),Av 35 33 (.bin .eql (.t 34) (.c (.i .i64 0))),Ap 36 33 35,Am 37 36,Av 38 37 (.fa 0 (.t 3)),Av 39 37 (.ld none (.t 38)),Av 40 37 (.len 0 (.t 39)),Av 41 37 (.bin .eql (.t 40) (.c (.i .i64 0))),Ap 42 37 41,Am 43 42,Av 44 43 (.fa 1 (.t 3)),Av 45 43 (.ld none (.t 44)),Av 46 43 (.len 0 (.t 45)),Av 47 43 (.bin .eql (.t 46) (.c (.i .i64 0))),
 Ap 48 43 47,Am 49 48,Av 50 49 (.ld (some 7) (.t 4)),Av 51 49 (.build [(.i .i64 0),(.i .i64 0),(.i .i64 0),(.i .i64 0),(.i .i64 0),(.i .i64 0),(.i .i64 0)] [(0,1,(.c (.i .i64 3))),(1,1,(.c (.i .i64 1)))]),Av 52 49 (.eqa [1,1,1,1,1,1,1] false (.t 50) (.t 51)),Ap 53 49 52,Am 0 53]) .ret)))))
def L08.r:List Rr:=[.tmp 0]
abbrev L08.n:Nat:=54
def L0f.c (L09 L1g L0h L1c L1b L1i L0b L0j:FuncId):C :=(.seq (.reg [Au 1 (.box (.t 0)),Au 2 (.alloc [.nil,.nil]),Ac 3 0,Ac 4 0]) (.seq (.reg [Ag 15 2 1,Au 16 (.call L09 [.t 15]),Am 5 16]) (.seq (.blk 0 (.seq (.reg [Am 18 5,Ak .neq 19 18 0,Am 17 19]) (.ite (.t 17) (.seq (.reg [Au 20 (.build [.nil,.nil] []),Am 21 5,As 2 2 20,Ac 3 0,Am 4 21]) .ret) (.seq (.reg [Ag 23 2 1,Au 24 (.call L1g [.t 23]),Au 25 (.un .not (.t 24)),Am 22 25]) (.ite (.t 22) (.seq (.reg [Au 26 (.build [.nil,.nil] []),As 2 2 26,Ac 3 0,Ac 4 12]) .ret) (.seq (.reg [Af 28 1 1,Al 29 28,Au 30 (.call L0h [.t 29]),Au 31 (.un .not (.t 30)),
 Am 27 31]) (.ite (.t 27) (.seq (.reg [Au 32 (.build [.nil,.nil] []),As 2 2 32,Ac 3 0,Ac 4 13]) .ret) .skip))))))) (.seq (.drw [Af 33 0 1,Al 34 33,Au 35 (.call L1c [.t 34]),Af 36 1 1,Al 37 36,Au 38 (.call L1b [.t 37]),Au 39 (.build [.nil,.nil] [(0,1,(.t 35)),(1,1,(.t 38))]),Au 6 (.alloc [.nil,.nil]),As 2 6 39] [[],[],[],[2],[2],[],[],[],[]]) (.seq (.reg [Ac 7 0]) (.seq (.seq (.reg [Ag 40 2 1,Au 41 (.call L1i [.t 40]),An 42 0 41,Ac 43 0]) (.blk 1 (.loop (.seq (.reg [Aj .lss 44 43 42]) (.seq (.ite (.t 44) .skip (.exit 1)) (.seq (.blk 2 (.seq (.reg [Ai 45 1 41 43,Al 46 45,Am 9 46]) (.seq (.reg [Af 47 0 1,
 Al 48 47,Au 49 (.build [.nil,.nil] [(0,1,(.t 48))]),Au 10 (.alloc [.nil,.nil]),As 2 10 49]) (.seq (.seq (.reg [Am 50 9,An 51 0 50,Ac 52 0]) (.blk 3 (.loop (.seq (.reg [Aj .lss 53 52 51]) (.seq (.ite (.t 53) .skip (.exit 3)) (.seq (.blk 4 (.seq (.reg [Ai 54 1 50 52,Al 55 54,Am 12 55]) (.drw [Af 56 1 10,Al 57 56,Af 58 1 1,Al 59 58,Am 60 12,Ai 61 3 59 60,Ag 62 3 61,Au 63 (.bsi 3 1 [(.i .i64 0),(.i .i64 0),(.i .i64 0)] [(0,(.t 62))]),Au 64 (.app 3 24 (.t 57) (.t 63)),Af 65 1 10,As 1 65 64] []))) (.reg [Ad 66 52 1,Am 52 66]))))))) (.seq (.seq (.reg [Ag 67 2 10,Au 68 (.call L0b [.t 67]),Ak .geq 69 68 0])
 (.ite (.t 69) (.exit 2) .skip)) (.seq (.reg [Am 70 7,Ad 71 70 1,Am 7 71]) (.seq (.reg [Am 72 9,An 73 0 72,Ac 74 0]) (.blk 5 (.loop (.seq (.reg [Aj .lss 75 74 73]) (.seq (.ite (.t 75) .skip (.exit 5)) (.seq (.blk 6 (.seq (.reg [Ai 76 1 72 74,Al 77 76,Am 14 77]) (.drw [Af 78 1 6,Al 79 78,Am 80 14,Af 81 1 1,Al 82 81,Am 83 14,Ai 84 3 82 83,Ag 85 3 84,Au 86 (.call L0j [.t 85]),Ai 87 3 79 80,As 3 87 86] [[],[],[],[],[],[],[],[],[0,1],[],[]]))) (.reg [Ad 88 74 1,Am 74 88]))))))))))))) (.reg [Ad 89 43 1,Am 43 89]))))))) (.seq (.reg [Ag 90 2 6,Am 91 7,As 2 2 90,Am 3 91,Ac 4 0]) .ret)))))))
def L0f.r:List Rr:=[.cell 2 (some 2),.tmp 3,.tmp 4]
abbrev L0f.n:Nat:=92
def L0u.c (L0s L0m:FuncId):C :=(.seq (.reg [Au 1 (.box (.t 0)),Ac 2 0]) (.seq (.seq (.reg [Ag 6 2 1,Au 7 (.call L0s [.t 6]),Ak .neq 8 7 0]) (.ite (.t 8) (.seq (.reg [Ac 2 0]) .ret) .skip)) (.seq (.reg [Ac 3 0]) (.seq (.seq (.reg [Af 9 1 1,Al 10 9,An 11 0 10,Ac 12 0]) (.blk 0 (.loop (.seq (.reg [Aj .lss 13 12 11]) (.seq (.ite (.t 13) .skip (.exit 0)) (.seq (.blk 1 (.seq (.reg [Ai 14 3 10 12,Ag 15 3 14,Au 5 (.alloc [(.i .i64 0),(.i .i64 0),(.i .i64 0)]),As 3 5 15]) (.drw [Am 16 3,Af 17 0 1,Al 18 17,Af 19 0 5,Al 20 19,Ai 21 3 18 20,Ag 22 3 21,Af 23 0 1,Al 24 23,Af 25 1 5,Al 26 25,Ai 27 3 24 26,Ag 28 3 27,
 Af 29 0 1,Al 30 29,Af 31 2 5,Al 32 31,Ai 33 3 30 32,Ag 34 3 33,Au 35 (.call L0m [.t 22,.t 28,.t 34]),Aj .add 36 16 35,Am 3 36] []))) (.reg [Ad 37 12 1,Am 12 37]))))))) (.seq (.reg [Am 38 3,Am 2 38]) .ret)))))
def L0u.r:List Rr:=[.tmp 2]
abbrev L0u.n:Nat:=39
def Xx (P:Program) (f:FuncId):Prop:=∀v:V3,CallIs P f [v.enc] (.b (v.within 131072))
def Q2i (P:Program) (f:FuncId):Prop:=∀b c:V3,b.valid=true->c.valid=true->CallIs P f [b.enc,c.enc] (crs b c).enc
def Qfm (P:Program) (f:FuncId):Prop:=∀a b:V3,a.valid=true->b.within 8589934592=true->CallIs P f [a.enc,b.enc] (.i .i64 (Ie a b))
theorem Y3 {v:V3} (h:v.valid=true):v.within 131072=true:=by
 have:=V3.valid_iff.1 h
 simp[V3.within];omega
theorem Q9d {v:V3} {a b:Int} (hab:a<=b) (h:v.within a=true):v.within b=true:=by
 simp[V3.within]at h ⊢;omega
theorem Q4w {b c:V3} (hb:b.valid=true) (hc:c.valid=true):(crs b c).within 8589934592=true:=by
 have:=crs_b hb hc
 simp[V3.within];omega
section
variable {P:Program} (hm:P.follows .mixedOrders=true)
include hm
theorem Il {f fw:FuncId} (hf:Qc P f (L1v.c fw) L1v.r L1v.n) (hw:Xl P fw):Xx P f:=by
 intro v
 refine PureC.is (Q9 hm hf (qh rfl) ?_) rfl
 unfold L1v.c
 simp[go_sem,V3.enc,V3.cs]
 refine Q6 ((hw v 131072 (by omega) (by omega)).is rfl) ?_
 simp[go_sem,L1v.r]
theorem Im {f fs:FuncId} (hf:Qc P f (L1p.c fs) L1p.r L1p.n) (hs:Xx P fs):Q2i P f:=by
 intro b c hb hc
 refine PureC.is (Q9 hm hf (qh rfl) ?_) rfl
 unfold L1p.c
 have h1:=hs b
 have h2:=hs c
 rw[Y3 hb]at h1
 rw[Y3 hc]at h2
 obtain⟨b1,b2,b3,b4,b5,b6⟩:=V3.valid_iff.1 hb
 obtain⟨c1,c2,c3,c4,c5,c6⟩:=V3.valid_iff.1 hc
 have m1:=Wg b3 b4 c5 c6
 have m2:=Wg b5 b6 c3 c4
 have m3:=Wg b5 b6 c1 c2
 have m4:=Wg b1 b2 c5 c6
 have m5:=Wg b1 b2 c3 c4
 have m6:=Wg b3 b4 c1 c2
 have hcr:crs b c=⟨b.y*c.z-b.z*c.y,b.z*c.x-b.x*c.z,b.x*c.y-b.y*c.x⟩:=rfl
 rw[hcr]
 simp[go_sem,V3.enc,V3.cs]at h1 h2 ⊢
 refine Q6 h1 ?_
 simp[go_sem]
 refine Q6 h2 ?_
 simp (disch:=omega) [go_sem,Q3,L1p.r]
theorem Q2p {f fs fw:FuncId} (hf:Qc P f (L1r.c fs fw) L1r.r L1r.n) (hs:Xx P fs) (hw:Xl P fw):Qfm P f:=by
 intro a b ha hb
 refine PureC.is (Q9 hm hf (qh rfl) ?_) rfl
 unfold L1r.c
 have h1:=hs a
 have h2:=(hw b 1099511627776 (by omega) (by omega)).is rfl
 rw[Y3 ha]at h1
 rw[Q9d (by omega) hb]at h2
 obtain⟨b1,b2,b3,b4,b5,b6⟩:=V3.valid_iff.1 ha
 simp only[V3.within,Bool.and_eq_true,decide_eq_true_eq]at hb
 obtain⟨⟨⟨⟨⟨c1,c2⟩,c3⟩,c4⟩,c5⟩,c6⟩:=hb
 have m1:=Qct b1 b2 c1 c2
 have m2:=Qct b3 b4 c3 c4
 have m3:=Qct b5 b6 c5 c6
 have hd:Ie a b=a.x*b.x+a.y*b.y+a.z*b.z:=rfl
 rw[hd]
 simp[go_sem,V3.enc,V3.cs]at h1 h2 ⊢
 refine Q6 h1 ?_
 simp[go_sem]
 refine Q6 h2 ?_
 simp (disch:=omega) [go_sem,Q3,L1r.r]
theorem Qby {f fs fc fd:FuncId} (hf:Qc P f (L1q.c fs fc fd) L1q.r L1q.n) (hs:Xx P fs) (hc:Q2i P fc) (hd:Qfm P fd):Qio P f:=by
 intro x y z hx hy hz
 refine PureC.is (Q9 hm hf (qh rfl) ?_) rfl
 unfold L1q.c
 have h1:=hs y
 have h2:=hs z
 rw[Y3 hy]at h1
 rw[Y3 hz]at h2
 simp[go_sem,V3.enc,V3.cs]at h1 h2 ⊢
 refine Q6 h1 ?_
 simp[go_sem]
 refine Q6 h2 ?_
 simp[go_sem]
 refine Qp (hc y z hy hz) ?_
 simp[go_sem]
 refine Qp (hd x (crs y z) hx (Q4w hy hz)) ?_
 simp[go_sem,L1q.r,Ig]
theorem Wh {f fc fd:FuncId} (hf:Qc P f (L0b.c fc fd) L0b.r L0b.n) (hc:Zp P fc) (hd:Qio P fd):Qdz P f:=by
 intro m
 refine PureC.is (Q9 hm hf (qh rfl) ?_) rfl
 unfold L0b.c
 have hv:m.vol6=if m.check=0 then Za m.verts m.tris else 0:=rfl
 by_cases hz:m.check=0
 case neg =>
  rw[hv,if_neg hz]
  simp[go_sem,Mesh.enc,Mesh.cs]
  refine Q6 (hc m) ?_
  simp[go_sem,hz,L0b.r]
 rw[hv,if_pos hz]
 obtain⟨z1,z2,z3,z4⟩:=Mesh.check_zero.1 hz
 simp[go_sem,Mesh.enc,Mesh.cs]
 refine Q6 (hc m) ?_
 simp[go_sem,hz,vsV,tsV]
 refine Ql (α:=Nat) (λk=>k<=m.tris.length)
  (λk=>⟨[(1,.p 0 1 0 0),(3,.i .i64 (Za m.verts (m.tris.take k))),(10,tsV m.tris),(11,.i .i64 m.tris.length),(12,.i .i64 k)],[.arr 1 2 [m.cs]]⟩)
  (λk=>m.tris.length-k) 0 (Nat.zero_le _) ?_ ?_
 ·simp[go_sem,Mesh.cs,vsV,tsV,Ik]
 ·intro k hk
  by_cases hkl:k=m.tris.length
  ·subst hkl
   rw[qi]
   simp[go_sem,Mesh.cs,vsV,tsV,L0b.r]
  ·have hlt:k<m.tris.length:=by omega
   have hp:m.tris[k]?=some m.tris[k]:=q9 hlt
   generalize m.tris[k]=t at hp
   obtain⟨_,hp'⟩:=q8.1 hp
   have hok:=Q2t z4 hp
   obtain⟨a1,a2,b1,b2,c1,c2⟩:=T3.ok_iff.1 hok
   have ga:=Io a1 a2
   have gb:=Io b1 b2
   have gc:=Io c1 c2
   have va:=Je z3 a1 a2
   have vb:=Je z3 b1 b2
   have vc:=Je z3 c1 c2
   have hb1:=Qbw z3 (ts:=m.tris.take k) (by
    simp only[Jl,qj]at z4 ⊢
    exact λx hx=>z4 x (jh hx))
   have hb2:=Qiw z3 hok
   have hln:((m.tris.take k).length:Int)<=4096:=by rw[qw];omega
   have hs:Za m.verts (m.tris.take (k+1))=Za m.verts (m.tris.take k)+Q05 m.verts t:=by
    rw[List.take_add_one,hp,Q9i,Option.toList_some,X5,Ik];omega
   have hvt:Q05 m.verts t=Ig (vAt m.verts t.a) (vAt m.verts t.b) (vAt m.verts t.c):=rfl
   have hdd:=hd _ _ _ va vb vc
   rw[<- hvt]at hdd
   clear hvt
   generalize vAt m.verts t.a=A at *
   generalize vAt m.verts t.b=B at *
   generalize vAt m.verts t.c=C at *
   generalize Za m.verts (m.tris.take k)=S at *
   generalize Q05 m.verts t=T at *
   obtain⟨ia,ga'⟩:=q8.1 ga
   obtain⟨ib,gb'⟩:=q8.1 gb
   obtain⟨ic,gc'⟩:=q8.1 gc
   simp[go_sem,Mesh.cs,vsV,tsV,hlt,hp,hp',tcs,a1,b1,c1,ga,gb,gc,ia,ib,ic,ga',gb',gc',vcs]
   simp[go_sem,V3.enc,vcs]at hdd
   refine Qp hdd ?_
   simp (disch:=omega) [go_sem,Q3]
   refine⟨k+1,by omega,by omega,?_⟩
   exact⟨hs.symm,by omega⟩
end
def Qfj (P:Program) (f:FuncId):Prop:=∀t:T3,CallIs P f [t.enc] t.rev.enc
section
variable {P:Program} (hm:P.follows .mixedOrders=true)
include hm
theorem Em {f:FuncId} (hf:Qc P f L0j.c L0j.r L0j.n):Qfj P f:=by
 intro t
 refine PureC.is (Q9 hm hf (qh rfl) ?_) rfl
 unfold L0j.c
 simp[go_sem,T3.enc,T3.cs,T3.rev,L0j.r]
end
end Go.Abs
