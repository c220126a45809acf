/- Part of the library on which the proof stands: an abstract machine, its values and its soundness against the model; or what functions of the program do to such values. -/
import Derived.Test.YtnaehggpjfdenaaGreatGoShp
import Derived.Test.YtnaehggpjfdenaaGreatGoMap
import Derived.Test.YtnaehggpjfdenaaGreatGoSl
set_option linter.unusedVariables false
set_option linter.unusedSimpArgs false
set_option maxHeartbeats 8000000
set_option maxRecDepth 20000
namespace Go.Abs
def L05.c:C :=(Bs [Au 2 (.box (.t 0)),Au 3 (.box (.t 1)),Ac 4 0] (.seq (.blk 0 (Bs [Af 6 0 2,Al 7 6,Af 8 0 3,Al 9 8,Aj .lss 10 7 9,Am 11 10,Aw 12 11 (.fa 0 (.t 2)),Aw 13 11 (.ld none (.t 12)),Aw 14 11 (.fa 0 (.t 3)),Aw 15 11 (.ld none (.t 14)),Aw 16 11 (.bin .eql (.t 13) (.t 15)),Aw 17 11 (.mv (.t 16)),Av 18 17 (.fa 1 (.t 2)),Av 19 17 (.ld none (.t 18)),Av 20 17 (.fa 1 (.t 3)),Av 21 17 (.ld none (.t 20)),Av 22 17 (.bin .lss (.t 19) (.t 21)),Aw 23 11 (.pick (.t 17) (.t 22) (.c (.b false))),Ao 24 11 23,Am 5 24] (.ite (.t 5) (Bs [Ac 4 (-1)] .ret) (Bs [Ag 26 2 2,Ag 27 2 3,Au 28 (.eqa [1,1] false (.t 26) (.t 27)),
 Am 25 28] (.ite (.t 25) (Bs [Ac 4 0] .ret) .skip))))) (Bs [Ac 4 1] .ret)))
def L05.r:List Rr:=[.tmp 4]
abbrev L05.n:Nat:=29
def L03.c:C :=(Bs [Ab 2 false] (Bs [Au 8 (.mkm none),Am 3 8] (.seq (Bs [Am 9 0,An 10 0 9,Ac 11 0] (.blk 0 (.loop (Bs [Aj .lss 12 11 10] (.seq (.ite (.t 12) .skip (.exit 0)) (.seq (.blk 1 (Bs [Ai 13 4 9 11,Ag 14 4 13,Au 5 (.alloc [(.i .i64 0),(.i .i64 0),(.i .i64 0),(.i .i64 0)]),As 4 5 14] (Bs [Am 15 3,Af 16 0 5,Ag 17 2 16,⟨none,none,.eqa [1,1] false (.t 17) (.t 17)⟩,Au 18 (.lk [1,1] (.i .i64 0) false (.t 15) (.t 17)),Ad 19 18 1,Au 20 (.ment [1,1] (.i .i64 0) (.t 15) (.t 17)),Ax1 21 1 20,⟨none,none,.est (.t 15) (.t 21) (.t 19)⟩] (.reg [Am 22 3,Af 23 2 5,Ag 24 2 23,⟨none,none,.eqa [1,1] false (.t 24) (.t 24)⟩,
 Au 25 (.lk [1,1] (.i .i64 0) false (.t 22) (.t 24)),Ak .sub 26 25 1,Au 27 (.ment [1,1] (.i .i64 0) (.t 22) (.t 24)),Ax1 28 1 27,⟨none,none,.est (.t 22) (.t 28) (.t 26)⟩])))) (.reg [Ad 29 11 1,Am 11 29]))))))) (.seq (Bs [Am 30 3,Au 31 (.mrng (.t 30))] (.blk 2 (.loop (Bs [Au 32 (.mnx (.t 31)),Ax1 33 0 32] (.seq (.ite (.t 33) .skip (.exit 2)) (.blk 3 (Bs [Au 34 (.men (.t 31)),Ax1 35 1 34,Am 7 35] (Bs [Am 36 7,Ak .neq 37 36 0] (.ite (.t 37) (Bs [Ab 2 false] .ret) .skip))))))))) (Bs [Ab 2 true] .ret)))))
def L03.r:List Rr:=[.tmp 2]
abbrev L03.n:Nat:=38
def L07.c:C :=(Bs [Au 3 (.box (.t 1)),Au 4 (.alloc [(.i .i64 0),(.i .i64 0)])] (Bs [Am 6 0,Ag 7 2 3,Au 8 (.lk [1,1] .nil false (.t 6) (.t 7)),Am 5 8] (.seq (Bs [Am 9 5,An 10 0 9,Ak .eql 11 10 1] (.ite (.t 11) (.reg [Am 12 0,Ag 13 2 3,⟨none,none,.mdel [1,1] (.t 12) (.t 13)⟩]) (.drw [Am 14 0,Ag 15 2 3,Am 16 5,Au 17 (.slc 2 (.t 16) (some (.c (.i .i64 1))) none),⟨none,none,.mup [1,1] (.t 14) (.t 15) (.t 17)⟩] []))) (Bs [Am 18 5,Au 19 (.ia 2 (.t 18) (.c (.i .i64 0))),Ag 20 2 19,As 2 4 20] .ret))))
def L07.r:List Rr:=[.cell 4 (some 2)]
abbrev L07.n:Nat:=21
def L06.c (L07:FuncId):C :=(Bs [Au 3 (.box (.t 1)),Au 4 (.alloc [.nil])] (Bs [Ag 7 2 3,Au 8 (.bso 2 1 [(.i .i64 0),(.i .i64 0)] [(0,(.t 7))]),Au 9 (.build [.nil] [(0,1,(.t 8))]),Au 5 (.alloc [.nil]),As 1 5 9] (.seq (Bs [Am 10 0,Ag 11 2 3,Au 12 (.call L07 [.t 10,.t 11]),Au 6 (.alloc [(.i .i64 0),(.i .i64 0)]),As 2 6 12] (.blk 0 (.loop (.seq (Bs [Ag 13 2 6,Ag 14 2 3,Au 15 (.eqa [1,1] true (.t 13) (.t 14)),Am 16 15,Av 17 16 (.mv (.t 0)),Av 18 16 (.ld (some 2) (.t 6)),Av 19 16 (.lk [1,1] .nil false (.t 17) (.t 18)),Av 20 16 (.len 0 (.t 19)),Av 21 16 (.bin .gtr (.t 20) (.c (.i .i64 0))),Ap 22 16 21]
 (.ite (.t 22) .skip (.exit 0))) (.seq (.blk 1 (.reg [Af 26 0 5,Al 27 26,Ag 28 2 6,Au 29 (.bsi 2 1 [(.i .i64 0),(.i .i64 0)] [(0,(.t 28))]),Au 30 (.app 2 16 (.t 27) (.t 29)),Af 31 0 5,As 1 31 30])) (.seq (Bs [Ag 32 2 6] (.reg [Au 6 (.alloc [(.i .i64 0),(.i .i64 0)]),As 2 6 32])) (.reg [Am 23 0,Ag 24 2 6,Au 25 (.call L07 [.t 23,.t 24]),As 2 6 25]))))))) (Bs [Ag 33 1 5,As 1 4 33] .ret))))
def L06.r:List Rr:=[.cell 4 (some 1)]
abbrev L06.n:Nat:=34
def L04.c (L0n L03 slices_SortFunc_api_Pt_api_Pt L05 L06:FuncId):C :=(Bs [Az 2,Ac 3 0] (.seq (Bs [Am 15 0,An 16 0 15,Ak .gtr 17 16 8192] (.ite (.t 17) (Bs [Az 2,Ac 3 2] .ret) .skip)) (.seq (Bs [Am 18 0,An 19 0 18,Ac 20 0] (.blk 0 (.loop (Bs [Aj .lss 21 20 19] (.seq (.ite (.t 21) .skip (.exit 0)) (.seq (.blk 1 (Bs [Ai 22 4 18 20,Ag 23 4 22,Au 5 (.alloc [(.i .i64 0),(.i .i64 0),(.i .i64 0),(.i .i64 0)]),As 4 5 23] (Bs [Af 24 0 5,Ag 25 2 24,Au 26 (.call L0n [.t 25]),Au 27 (.un .not (.t 26)),Am 28 27,Aw 29 28 (.fa 2 (.t 5)),Aw 30 28 (.ld (some 2) (.t 29)),Aw 31 28 (.call L0n [.t 30]),Aw 32 28 (.un .not (.t 31)),
 Ao 33 28 32] (.ite (.t 33) (Bs [Az 2,Ac 3 8] .ret) .skip)))) (.reg [Ad 34 20 1,Am 20 34]))))))) (.seq (Bs [Am 35 0,Au 36 (.call L03 [.t 35]),Au 37 (.un .not (.t 36))] (.ite (.t 37) (Bs [Az 2,Ac 3 12] .ret) .skip)) (Bs [Au 38 (.mkm none),Am 6 38] (Bs [Az 7] (.seq (Bs [Am 39 0,An 40 0 39,Ac 41 0] (.blk 2 (.loop (Bs [Aj .lss 42 41 40] (.seq (.ite (.t 42) .skip (.exit 2)) (.seq (.blk 3 (Bs [Ai 43 4 39 41,Ag 44 4 43,Au 9 (.alloc [(.i .i64 0),(.i .i64 0),(.i .i64 0),(.i .i64 0)]),As 4 9 44] (.seq (Bs [Af 45 0 9,Ag 46 2 45,Af 47 2 9,Ag 48 2 47,Au 49 (.eqa [1,1] false (.t 46) (.t 48))] (.ite (.t 49) (.exit 3)
 .skip)) (.seq (Bs [Am 50 6,Af 51 0 9,Ag 52 2 51,Au 53 (.lk [1,1] .nil false (.t 50) (.t 52)),An 54 0 53,Ak .eql 55 54 0] (.ite (.t 55) (.reg [Am 56 7,Af 57 0 9,Ag 58 2 57,Au 59 (.bsi 2 1 [(.i .i64 0),(.i .i64 0)] [(0,(.t 58))]),Au 60 (.app 2 16 (.t 56) (.t 59)),Am 7 60]) .skip)) (.reg [Am 61 6,Af 62 0 9,Ag 63 2 62,Af 65 2 9,Ag 66 2 65,Au 67 (.bsi 2 1 [(.i .i64 0),(.i .i64 0)] [(0,(.t 66))]),Au 68 (.ment [1,1] .nil (.t 61) (.t 63)),Ax1 64 0 68,Au 69 (.app 2 16 (.t 64) (.t 67)),Ax1 70 1 68,⟨none,none,.est (.t 61) (.t 70) (.t 69)⟩]))))) (.reg [Ad 71 41 1,Am 41 71]))))))) (Bs [Am 72 7,Au 73 (.call slices_SortFunc_api_Pt_api_Pt [.t 72,(.c (.f L05 []))])]
 (.seq (Bs [Am 74 7,An 75 0 74,Ac 76 0] (.blk 4 (.loop (Bs [Aj .lss 77 76 75] (.seq (.ite (.t 77) .skip (.exit 4)) (.seq (.blk 5 (Bs [Ai 78 2 74 76,Ag 79 2 78,Au 11 (.alloc [(.i .i64 0),(.i .i64 0)]),As 2 11 79] (.reg [Am 80 6,Ag 81 2 11,Au 82 (.lk [1,1] .nil false (.t 80) (.t 81)),Au 83 (.call slices_SortFunc_api_Pt_api_Pt [.t 82,(.c (.f L05 []))])]))) (.reg [Ad 84 76 1,Am 76 84]))))))) (Bs [Az 12] (.seq (Bs [Am 85 7,An 86 0 85,Ac 87 0] (.blk 6 (.loop (Bs [Aj .lss 88 87 86] (.seq (.ite (.t 88) .skip (.exit 6)) (.seq (.blk 7 (Bs [Ai 89 2 85 87,Ag 90 2 89,Au 14 (.alloc [(.i .i64 0),(.i .i64 0)]),
 As 2 14 90] (.blk 8 (.loop (.seq (Bs [Am 91 6,Ag 92 2 14,Au 93 (.lk [1,1] .nil false (.t 91) (.t 92)),An 94 0 93,Ak .gtr 95 94 0] (.ite (.t 95) .skip (.exit 8))) (.blk 9 (.reg [Am 96 12,Am 97 6,Ag 98 2 14,Au 99 (.call L06 [.t 97,.t 98]),Au 100 (.bso 1 1 [.nil] [(0,(.t 99))]),Au 101 (.app 1 24 (.t 96) (.t 100)),Am 12 101]))))))) (.reg [Ad 102 87 1,Am 87 102]))))))) (Bs [Am 103 12,Am 2 103,Ac 3 0] .ret))))))))))))
def L04.r:List Rr:=[.tmp 2,.tmp 3]
abbrev L04.n:Nat:=104
def L20.c:C :=(Bs [Au 3 (.box (.t 1)),Ac 4 0] (Bs [Ac 5 0] (.seq (Bs [Ac 6 0] (.blk 0 (.loop (.seq (Bs [Am 7 6,Am 8 0,An 9 0 8,Aj .lss 10 7 9] (.ite (.t 10) .skip (.exit 0))) (.seq (.blk 1 (.seq (.seq (.drw [Am 13 0,Am 14 6,Ai 15 4 13 14,Af 16 0 15,Ag 17 2 16,Ag 18 2 3,Au 19 (.eqa [1,1] false (.t 17) (.t 18))] []) (.ite (.t 19) (.reg [Am 20 5,Ad 21 20 1,Am 5 21]) .skip)) (.seq (.drw [Am 22 0,Am 23 6,Ai 24 4 22 23,Af 25 2 24,Ag 26 2 25,Ag 27 2 3,Au 28 (.eqa [1,1] false (.t 26) (.t 27))] []) (.ite (.t 28) (.reg [Am 29 5,Ak .sub 30 29 1,Am 5 30]) .skip)))) (.reg [Am 11 6,Ad 12 11 1,Am 6 12]))))))
 (Bs [Am 31 5,Am 4 31] .ret))))
def L20.r:List Rr:=[.tmp 4]
abbrev L20.n:Nat:=32
def L1y.c (L20:FuncId):C :=(Bs [Ab 2 false] (.seq (Bs [Ac 3 0] (.blk 0 (.loop (.seq (Bs [Am 4 3,Am 5 0,An 6 0 5,Aj .lss 7 4 6] (.ite (.t 7) .skip (.exit 0))) (.seq (.blk 1 (Bs [Am 10 0,Am 11 0,Am 12 3,Ai 13 4 11 12,Af 14 0 13,Ag 15 2 14,Au 16 (.call L20 [.t 10,.t 15]),Ak .neq 17 16 0,Am 18 17,Aw 19 18 (.mv (.t 0)),Aw 20 18 (.mv (.t 0)),Aw 21 18 (.mv (.t 3)),Aw 22 18 (.ia 4 (.t 20) (.t 21)),Aw 23 18 (.fa 2 (.t 22)),Aw 24 18 (.ld (some 2) (.t 23)),Aw 25 18 (.call L20 [.t 19,.t 24]),Aw 26 18 (.bin .neq (.t 25) (.c (.i .i64 0))),Ao 27 18 26] (.ite (.t 27) (Bs [Ab 2 false] .ret) .skip))) (.reg [Am 8 3,
 Ad 9 8 1,Am 3 9])))))) (Bs [Ab 2 true] .ret)))
def L1y.r:List Rr:=[.tmp 2]
abbrev L1y.n:Nat:=28
def L22.c:C :=(Bs [Au 2 (.box (.t 0)),Au 3 (.box (.t 1)),Ab 4 false] (.seq (Bs [Af 5 0 2,Af 6 0 5,Al 7 6,Af 8 0 3,Af 9 0 8,Al 10 9,Aj .neq 11 7 10] (.ite (.t 11) (Bs [Af 12 0 2,Af 13 0 12,Al 14 13,Af 15 0 3,Af 16 0 15,Al 17 16,Aj .lss 18 14 17,Am 4 18] .ret) .skip)) (.seq (Bs [Af 19 0 2,Af 20 1 19,Al 21 20,Af 22 0 3,Af 23 1 22,Al 24 23,Aj .neq 25 21 24] (.ite (.t 25) (Bs [Af 26 0 2,Af 27 1 26,Al 28 27,Af 29 0 3,Af 30 1 29,Al 31 30,Aj .lss 32 28 31,Am 4 32] .ret) .skip)) (.seq (Bs [Af 33 2 2,Af 34 0 33,Al 35 34,Af 36 2 3,Af 37 0 36,Al 38 37,Aj .neq 39 35 38] (.ite (.t 39) (Bs [Af 40 2 2,Af 41 0 40,
 Al 42 41,Af 43 2 3,Af 44 0 43,Al 45 44,Aj .lss 46 42 45,Am 4 46] .ret) .skip)) (Bs [Af 47 2 2,Af 48 1 47,Al 49 48,Af 50 2 3,Af 51 1 50,Al 52 51,Aj .lss 53 49 52,Am 4 53] .ret)))))
def L22.r:List Rr:=[.tmp 4]
abbrev L22.n:Nat:=54
def L21.c (L22:FuncId):C :=(Bs [Au 7 (.box (.t 3)),Ac 8 0] (Bs [Ac 9 (-1)] (.seq (Bs [Ac 10 0] (.blk 0 (.loop (.seq (Bs [Am 11 10,Am 12 0,An 13 0 12,Aj .lss 14 11 13] (.ite (.t 14) .skip (.exit 0))) (.seq (.blk 1 (.seq (.seq (.drw [Am 17 1,Am 18 10,Ai 19 1 17 18,Al 20 19,Am 21 20,Aw 22 21 (.mv (.t 0)),Aw 23 21 (.mv (.t 10)),Aw 24 21 (.ia 4 (.t 22) (.t 23)),Aw 25 21 (.fa 0 (.t 24)),Aw 26 21 (.ld (some 2) (.t 25)),Aw 27 21 (.mv (.t 0)),Aw 28 21 (.mv (.t 10)),Aw 29 21 (.ia 4 (.t 27) (.t 28)),Aw 30 21 (.fa 2 (.t 29)),Aw 31 21 (.ld (some 2) (.t 30)),Aw 32 21 (.eqa [1,1] false (.t 26) (.t 31)),Ao 33 21 32,
 Am 34 33,Aw 35 34 (.mv (.t 2)),Aw 36 34 (.mv (.t 35)),Av 37 36 (.mv (.t 0)),Av 38 36 (.mv (.t 10)),Av 39 36 (.ia 4 (.t 37) (.t 38)),Av 40 36 (.fa 0 (.t 39)),Av 41 36 (.ld (some 2) (.t 40)),Av 42 36 (.ld (some 2) (.t 7)),Av 43 36 (.eqa [1,1] true (.t 41) (.t 42)),Aw 44 34 (.pick (.t 36) (.t 43) (.c (.b false))),Ao 45 34 44] []) (.ite (.t 45) (.exit 1) .skip)) (.seq (.drw [Am 46 9,Ak .lss 47 46 0,Am 48 47,Aw 49 48 (.mv (.t 0)),Aw 50 48 (.mv (.t 10)),Aw 51 48 (.ia 4 (.t 49) (.t 50)),Aw 52 48 (.ld (some 4) (.t 51)),Aw 53 48 (.mv (.t 0)),Aw 54 48 (.mv (.t 9)),Aw 55 48 (.ia 4 (.t 53) (.t 54)),Aw 56 48 (.ld (some 4) (.t 55)),
 Aw 57 48 (.call L22 [.t 52,.t 56]),Ao 58 48 57] []) (.ite (.t 58) (.reg [Am 59 10,Am 9 59]) .skip)))) (.reg [Am 15 10,Ad 16 15 1,Am 10 16])))))) (Bs [Am 60 9,Am 8 60] .ret))))
def L21.r:List Rr:=[.tmp 8]
abbrev L21.n:Nat:=61
def L1z.c (L17 L1y L21:FuncId):C :=(Bs [Az 2,Ac 3 0] (.seq (Bs [Am 10 0,An 11 0 10,Ak .gtr 12 11 8192] (.ite (.t 12) (Bs [Az 2,Ac 3 2] .ret) .skip)) (.seq (Bs [Ac 4 0] (.blk 0 (.loop (.seq (Bs [Am 13 4,Am 14 0,An 15 0 14,Aj .lss 16 13 15] (.ite (.t 16) .skip (.exit 0))) (.seq (.blk 1 (Bs [Am 19 0,Am 20 4,Ai 21 4 19 20,Af 22 0 21,Ag 23 2 22,Au 24 (.call L17 [.t 23]),Au 25 (.un .not (.t 24)),Am 26 25,Aw 27 26 (.mv (.t 0)),Aw 28 26 (.mv (.t 4)),Aw 29 26 (.ia 4 (.t 27) (.t 28)),Aw 30 26 (.fa 2 (.t 29)),Aw 31 26 (.ld (some 2) (.t 30)),Aw 32 26 (.call L17 [.t 31]),Aw 33 26 (.un .not (.t 32)),Ao 34 26 33]
 (.ite (.t 34) (Bs [Az 2,Ac 3 8] .ret) .skip))) (.reg [Am 17 4,Ad 18 17 1,Am 4 18])))))) (.seq (Bs [Am 35 0,Au 36 (.call L1y [.t 35]),Au 37 (.un .not (.t 36))] (.ite (.t 37) (Bs [Az 2,Ac 3 12] .ret) .skip)) (Bs [Az 5] (Bs [Am 38 0,An 39 0 38,Au 40 (.mks 1 1 [(.b false)] (.t 39)),Am 6 40] (Bs [Am 41 0,Am 42 6,Au 43 (.build [(.i .i64 0),(.i .i64 0)] []),Au 44 (.call L21 [.t 41,.t 42,(.c (.b false)),.t 43]),Am 7 44] (.seq (.blk 2 (.loop (.seq (Bs [Am 45 7,Ak .geq 46 45 0] (.ite (.t 46) .skip (.exit 2))) (.blk 3 (Bs [Am 47 0,Am 48 7,Ai 49 4 47 48,Af 50 0 49,Ag 51 2 50,Au 8 (.alloc [(.i .i64 0),(.i .i64 0)]),
 As 2 8 51] (Bs [Az 9] (.seq (.blk 4 (.loop (.seq (.seq (.drw [Am 52 7,Ak .geq 53 52 0,Am 54 53,Av 55 54 (.mv (.t 0)),Av 56 54 (.mv (.t 7)),Av 57 54 (.ia 4 (.t 55) (.t 56)),Av 58 54 (.fa 2 (.t 57)),Av 59 54 (.ld (some 2) (.t 58)),Av 60 54 (.ld (some 2) (.t 8)),Av 61 54 (.eqa [1,1] true (.t 59) (.t 60)),Ap 62 54 61] []) (.ite (.t 62) .skip (.exit 4))) (.blk 5 (Bs [Am 63 9,Am 64 0,Am 65 7,Ai 66 4 64 65,Af 67 0 66,Ag 68 2 67,Au 69 (.bsi 2 1 [(.i .i64 0),(.i .i64 0)] [(0,(.t 68))]),Au 70 (.app 2 16 (.t 63) (.t 69)),Am 9 70] (Bs [Am 71 6,Am 72 7,Ai 73 1 71 72,⟨none,none,.st 1 (.t 73) (.c (.b true))⟩]
 (.reg [Am 74 0,Am 75 6,Am 76 0,Am 77 7,Ai 78 4 76 77,Af 79 2 78,Ag 80 2 79,Au 81 (.call L21 [.t 74,.t 75,(.c (.b true)),.t 80]),Am 7 81]))))))) (.seq (Bs [Am 82 7,Ak .geq 83 82 0] (.ite (.t 83) (Bs [Am 84 9,Am 85 0,Am 86 7,Ai 87 4 85 86,Af 88 0 87,Ag 89 2 88,Au 90 (.bsi 2 1 [(.i .i64 0),(.i .i64 0)] [(0,(.t 89))]),Au 91 (.app 2 16 (.t 84) (.t 90)),Am 9 91] (.reg [Am 92 6,Am 93 7,Ai 94 1 92 93,⟨none,none,.st 1 (.t 94) (.c (.b true))⟩])) .skip)) (Bs [Am 95 5,Am 96 9,Au 97 (.build [.nil] [(0,1,(.t 96))]),Au 98 (.bso 1 1 [.nil] [(0,(.t 97))]),Au 99 (.app 1 24 (.t 95) (.t 98)),Am 5 99] (.reg [Am 100 0,
 Am 101 6,Au 102 (.build [(.i .i64 0),(.i .i64 0)] []),Au 103 (.call L21 [.t 100,.t 101,(.c (.b false)),.t 102]),Am 7 103])))))))))) (Bs [Am 104 5,Am 2 104,Ac 3 0] .ret)))))))))
def L1z.r:List Rr:=[.tmp 2,.tmp 3]
abbrev L1z.n:Nat:=105
def Jb (es:List Eg) (p:P2):Int:=(es.countP (λe=>decide (e.1=p)):Int)-es.countP (λe=>decide (e.2=p))
def Q4u (es:List Eg):Bool:=es.all λe=>decide (Jb es e.1=0) && decide (Jb es e.2=0)
theorem balB_iff {es:List Eg}:Q4u es=true↔Wq es:=by
 unfold Q4u;rw[qj];constructor
 ·intro h p;by_cases hp:(∃e∈es,e.1=p)∨∃e∈es,e.2=p
  ·have:Jb es p=0:=by
    rcases hp with⟨e,he,rfl⟩ | ⟨e,he,rfl⟩
    ·have:=h e he;simp only[Bool.and_eq_true,decide_eq_true_eq]at this;exact this.1
    ·have:=h e he;simp only[Bool.and_eq_true,decide_eq_true_eq]at this;exact this.2
   unfold Jb at this;omega
  ·have h1:es.countP (λe=>decide (e.1=p))=0:=List.countP_eq_zero.2 λe he=>by
    simp only[decide_eq_true_eq];exact λhh=>hp (.inl ⟨e,he,hh⟩)
   have h2:es.countP (λe=>decide (e.2=p))=0:=List.countP_eq_zero.2 λe he=>by
    simp only[decide_eq_true_eq];exact λhh=>hp (.inr ⟨e,he,hh⟩)
   rw[h1,h2]
 ·intro h e he;have h1:=h e.1;have h2:=h e.2;simp only[Bool.and_eq_true,decide_eq_true_eq];unfold Jb;omega
def Z0g (P:Program) (f:FuncId):Prop:=∀(l:List Sg4) (p:P2),l.length<=4096->CallIs P f [Qq l,p.enc] (.i .i64 (Jb (egs l) p))
def Qf8 (P:Program) (f:FuncId):Prop:=∀l:List Sg4,l.length<=4096->CallIs P f [Qq l] (.b (Q4u (egs l)))
theorem Iz (l:List Sg4):(egs l).length=l.length:=by simp[egs]
theorem Qew (es:List Eg) (e:Eg) (p:P2):Jb (es++[e]) p=Jb es p+(if e.1=p then 1 else 0)-(if e.2=p then 1 else 0):=by
 unfold Jb;rw[List.countP_append,List.countP_append,List.countP_singleton,List.countP_singleton];by_cases h1:e.1=p<;>by_cases h2:e.2=p<;>simp[h1,h2]<;>omega
theorem Qhu (es:List Eg) (p:P2):-(es.length:Int)<=Jb es p/\Jb es p<=es.length:=by
 unfold Jb;have h1:=List.countP_le_length (p:=λe:Eg=>decide (e.1=p)) (l:=es);have h2:=List.countP_le_length (p:=λe:Eg=>decide (e.2=p)) (l:=es);omega
theorem p2_iff {a b:P2}:a=b↔a.x=b.x/\a.y=b.y:=by cases a;cases b;simp
theorem Q1e (l:List Sg4) {k:Nat} {s:Sg4} (h:l[k]?=some s):egs (l.take (k+1))=egs (l.take k)++[s.eg]:=by
 unfold egs;rw[List.take_add_one,h];simp
section
variable {P:Program} (hm:P.follows .mixedOrders=true)
include hm
theorem Q3l {f:FuncId} (hf:Q5 P f L20.c L20.r L20.n):Z0g P f:=by
 intro l p hl;refine PI hm hf ?_;unfold L20.c;simp[go_sem,Qq,P2.enc,P2.cs];refine Q8 (α:=Nat) (λk=>k<=l.length)
  (λk=>⟨[(0,Qq l),(3,.p 0 1 0 0),(5,.i .i64 (Jb (egs (l.take k)) p)),(6,.i .i64 k)],[.arr 1 2 [p.cs]]⟩)
  (λk=>l.length-k) 0 (Nat.zero_le _) ?_ ?_
 ·simp[go_sem,Qq,P2.cs,egs,Jb]
 ·intro k hk;by_cases hkl:k=l.length
  ·subst hkl;rw[qi];simp[go_sem,Qq,L20.r]
  ·have hlt:k<l.length:=by omega
   have hq:l[k]?=some l[k]:=q9 hlt;generalize l[k]=s at hq;obtain⟨_,hq'⟩:=q8.1 hq;have hs:=Qew (egs (l.take k)) s.eg p;rw[<- Q1e l hq]at hs
   have hb:=Qhu (egs (l.take k)) p;rw[Iz,qv]at hb
   generalize Jb (egs (l.take k)) p=B at *
   simp only[Sg4.eg,p2_iff]at hs;have ea:(s.a.1=p.x/\s.a.2=p.y)↔(s.a.1 == p.x && s.a.2 == p.y)=true:=by simp
   have eb:(s.b.1=p.x/\s.b.2=p.y)↔(s.b.1 == p.x && s.b.2 == p.y)=true:=by simp
   simp only[ea,eb]at hs;cases ha:(s.a.1 == p.x && s.a.2 == p.y)<;>cases hb2:(s.b.1 == p.x && s.b.2 == p.y) <;>
    simp only[ha,hb2,if_true,if_false,Bool.false_eq_true]at hs <;>
    simp (disch:=omega) [go_sem,Qq,hlt,hq,hq',Sg4.cs,P2.cs,ha,hb2,Q0] <;>
    exact⟨k+1,by omega,by omega,by simp[hs]⟩
end
def Qeb (a b:Sg4):Bool :=
 if a.a.1≠b.a.1 then decide (a.a.1<b.a.1) else if a.a.2≠b.a.2 then decide (a.a.2<b.a.2) else if a.b.1≠b.b.1 then decide (a.b.1<b.b.1) else decide (a.b.2<b.b.2)
def Sg4.enc (s:Sg4):V:=.a s.cs
def Qo6 (P:Program) (f:FuncId):Prop:=∀a b:Sg4,CallIs P f [a.enc,b.enc] (.b (Qeb a b))
def Qdh (l:List Sg4) (g:Nat->Bool) (st:Bool) (p:P2) (k:Nat):Bool :=
 match l[k]? with
 | some s=>!g k && decide (s.eg.1≠s.eg.2) && (!st || decide (s.eg.1=p))
 | none=>false
def Yn (l:List Sg4) (i:Nat):Sg4:=(l[i]?).getD Sg4.init
def Y6 (l:List Sg4) (g:Nat->Bool) (st:Bool) (p:P2):Nat->Int
 | 0=>-1
 | k+1=>if Qdh l g st p k=true then (if Y6 l g st p k<0∨Qeb (Yn l k) (Yn l (Y6 l g st p k).toNat)=true then (k:Int) else Y6 l g st p k) else Y6 l g st p k
theorem U2 (l:List Sg4) (g:Nat->Bool) (st:Bool) (p:P2):∀k,(Y6 l g st p k=-1/\∀i,i<k->Qdh l g st p i=false)∨∃i:Nat,i<k/\Y6 l g st p k=(i:Int)/\Qdh l g st p i=true
 | 0=>.inl ⟨rfl,λi hi=>by omega⟩
 | k+1=>by
   unfold Y6;by_cases hc:Qdh l g st p k=true
   ·rw[if_pos hc];split
    ·exact .inr ⟨k,by omega,rfl,hc⟩
    ·rename_i hn;rcases U2 l g st p k with⟨h1,_⟩ | ⟨i,h1,h2,h3⟩
     ·exact absurd (.inl (by omega)) hn
     ·exact .inr ⟨i,by omega,h2,h3⟩
   ·rw[if_neg hc];rcases U2 l g st p k with⟨h1,h2⟩ | ⟨i,h1,h2,h3⟩
    ·exact .inl ⟨h1,λi hi=>by
      by_cases hik:i=k
      ·subst hik;simpa using hc
      ·exact h2 i (by omega)⟩
    ·exact .inr ⟨i,by omega,h2,h3⟩
def Z1d (l:List Sg4) (k:Nat):Prop:=∀e∈egs (l.take k),Jb (egs l) e.1=0/\Jb (egs l) e.2=0
def blV (n:Nat) (g:Nat->Bool):V:=.l 1 (bl n g)
def Qo7 (P:Program) (f:FuncId):Prop:=∀(l:List Sg4) (g:Nat->Bool) (st:Bool) (p:P2),l.length<=4096 ->
 PureC P f [Qq l,blV l.length g,.b st,p.enc] (·=.i .i64 (Y6 l g st p l.length))
theorem Ql3 {P:Program} {n0:Nat} {js:List Nat} {lg:List (List Nat × List Nat)} {f:FuncId} {args:List A} {b:Bool} {env:List (Nat × V)} {h:List O} {K:List Nat × List Nat->V->List O->Prop}:Sg P n0 js lg (.call f args) (.t []) b env h K=K ([],[]) (.t []) h:=Rfl rfl
section
variable {P:Program} (hm:P.follows .mixedOrders=true)
include hm
theorem Q1q {f fb:FuncId} (hf:Q5 P f (L1y.c fb) L1y.r L1y.n) (hb:Z0g P fb):Qf8 P f:=by
 intro l hl;generalize hB:Q4u (egs l)=B;refine PI hm hf ?_;unfold L1y.c;simp[go_sem,Qq];refine Q8 (α:=Nat) (λk=>k<=l.length/\Z1d l k)
  (λk=>⟨[(0,Qq l),(3,.i .i64 k)],[]⟩)
  (λk=>l.length-k) 0 ⟨Nat.zero_le _,by simp[Z1d,egs]⟩ ?_ ?_
 ·simp[go_sem,Qq]
 ·rintro k ⟨hk,hall⟩;by_cases hkl:k=l.length
  ·subst hkl;unfold Z1d at hall;rw[qi]at hall
   obtain rfl:true=B:=by
    rw[<- hB];symm
    unfold Q4u;rw[qj];intro e he;simp[hall e he]
   simp[go_sem,Qq,L1y.r]
  ·have hlt:k<l.length:=by omega
   have hq:l[k]?=some l[k]:=q9 hlt;generalize l[k]=s at hq;obtain⟨_,hq'⟩:=q8.1 hq;have h1:=hb l s.eg.1 hl;have h2:=hb l s.eg.2 hl;have hm1:s.eg∈egs l:=qo.2 ⟨s,qb hq,rfl⟩;have hbad:¬ (Jb (egs l) s.eg.1=0/\Jb (egs l) s.eg.2=0)->B=false:=by
    intro hn;rw[<- hB];cases hbb:Q4u (egs l) with
    | false=>rfl
    | true =>
      have:=qj.1 hbb s.eg hm1;simp only[Bool.and_eq_true,decide_eq_true_eq]at this;exact absurd this hn
   have htk:=Q1e l hq;simp[go_sem,Qq,hlt,hq,hq',Sg4.cs];refine Q2 h1 ?_;by_cases z1:Jb (egs l) s.eg.1=0
   ·simp[go_sem,Qq,z1,hlt,hq,hq',Sg4.cs];refine Q2 h2 ?_;by_cases z2:Jb (egs l) s.eg.2=0
    ·simp (disch:=omega) [go_sem,Qq,z2,Q0];refine⟨k+1,⟨by omega,λe he=>?_⟩,by omega,by omega⟩;rw[htk]at he
     rcases qg.1 he with he | he
     ·exact hall e he
     ·rw[qn.1 he];exact⟨z1,z2⟩
    ·obtain rfl:=hbad (λh=>z2 h.2);have zb:(Jb (egs l) s.eg.2 != 0)=true:=by simpa using z2
     simp[go_sem,Qq,zb,L1y.r]
   ·obtain rfl:=hbad (λh=>z1 h.1);have zb:(Jb (egs l) s.eg.1 != 0)=true:=by simpa using z1
    simp[go_sem,Qq,zb,L1y.r]
theorem Qcc {f:FuncId} (hf:Q5 P f L22.c L22.r L22.n):Qo6 P f:=by
 intro a b;refine PI hm hf ?_;unfold L22.c Qeb;by_cases h1:a.a.1=b.a.1
 ·by_cases h2:a.a.2=b.a.2
  ·by_cases h3:a.b.1=b.b.1
   ·simp[go_sem,Sg4.enc,Sg4.cs,h1,h2,h3,L22.r]
   ·simp[go_sem,Sg4.enc,Sg4.cs,h1,h2,h3,L22.r]
  ·simp[go_sem,Sg4.enc,Sg4.cs,h1,h2,L22.r]
 ·simp[go_sem,Sg4.enc,Sg4.cs,h1,L22.r]
theorem Q98 {f fl:FuncId} (hf:Q5 P f (L21.c fl) L21.r L21.n) (hless:Qo6 P fl):Qo7 P f:=by
 intro l g st p hl;refine Wg hm hf (qh rfl) ?_;unfold L21.c;simp[go_sem,Qq,P2.enc,P2.cs];refine Q8 (α:=Nat) (λk=>k<=l.length)
  (λk=>⟨[(0,Qq l),(1,blV l.length g),(2,.b st),(7,.p 0 1 0 0),(9,.i .i64 (Y6 l g st p k)),(10,.i .i64 k)],[.arr 1 2 [p.cs]]⟩)
  (λk=>l.length-k) 0 (Nat.zero_le _) ?_ ?_
 ·simp[go_sem,Qq,P2.cs,blV,Y6]
 ·intro k hk;by_cases hkl:k=l.length
  ·subst hkl;simp[go_sem,Qq,blV,L21.r]
  ·have hlt:k<l.length:=by omega
   have hq:l[k]?=some l[k]:=q9 hlt;generalize l[k]=s at hq;obtain⟨_,hq'⟩:=q8.1 hq;have hbg:=Q4t (g:=g) hlt;obtain⟨_,hbg'⟩:=q8.1 hbg;have hbl:=Ux l.length g;have hk1:Y6 l g st p (k+1)=if Qdh l g st p k=true then (if Y6 l g st p k<0∨Qeb (Yn l k) (Yn l (Y6 l g st p k).toNat)=true then (k:Int) else Y6 l g st p k) else Y6 l g st p k:=rfl
   have hcd:Qdh l g st p k=(!g k && decide (s.eg.1≠s.eg.2) && (!st || decide (s.eg.1=p))):=by unfold Qdh;rw[hq]
   have hat:=U2 l g st p k;generalize Y6 l g st p k=at0 at *
   cases hg:g k with
   | true =>
     rw[hcd,hg]at hk1
     simp only[Bool.not_true,Bool.false_and,Bool.false_eq_true,if_false]at hk1;simp (disch:=omega) [go_sem,Qq,blV,hlt,hq,hq',hbg,hbg',hbl,hg,Sg4.cs,P2.cs,Q0];exact⟨k+1,by omega,by omega,by simp[hk1]⟩
   | false =>
     have hsa:Yn l k=s:=by unfold Yn;rw[hq];rfl
     have heab:decide (s.eg.1≠s.eg.2) = !(s.a.1 == s.b.1 && s.a.2 == s.b.2):=by
      simp only[Sg4.eg,ne_eq,p2_iff];rw[Bool.eq_iff_iff];simp
     have heap:decide (s.eg.1=p)=(s.a.1 == p.x && s.a.2 == p.y):=by
      simp only[Sg4.eg,p2_iff];rw[Bool.eq_iff_iff];simp
     rw[hg,heab,heap]at hcd
     by_cases hab:(s.a.1 == s.b.1 && s.a.2 == s.b.2)=true
     ·rw[hab]at hcd
      simp only[Bool.not_true,Bool.and_false,Bool.false_and]at hcd;rw[hcd,if_neg (by simp)]at hk1
      simp (disch:=omega) [go_sem,Qq,blV,hlt,hq,hq',hbg,hbg',hbl,hg,hab,Sg4.cs,P2.cs,Q0];exact⟨k+1,by omega,by omega,by simp[hk1]⟩
     ·simp only[Bool.not_eq_true]at hab;rw[hab]at hcd
      by_cases hcc:Qdh l g st p k=true
      ·rw[if_pos hcc,hsa]at hk1
       have hst:(!st || (s.a.1 == p.x && s.a.2 == p.y))=true:=by rw[hcc]at hcd;simpa using hcd.symm
       have hst2:st=false∨(st=true/\(s.a.1 == p.x && s.a.2 == p.y)=true):=by
        cases st
        ·exact .inl rfl
        ·exact .inr ⟨rfl,by simpa using hst⟩
       rcases hat with⟨h1,_⟩ | ⟨i,h1,h2,_⟩
       ·subst h1;rw[if_pos (.inl (by omega))]at hk1
        rcases hst2 with rfl | ⟨rfl,hap⟩
        ·simp (disch:=omega) [go_sem,Qq,blV,hlt,hq,hq',hbg,hbg',hbl,hg,hab,Sg4.cs,P2.cs,Ql3,Z2,I.news,Q0];exact⟨k+1,by omega,by omega,by simp[hk1]⟩
        ·simp (disch:=omega) [go_sem,Qq,blV,hlt,hq,hq',hbg,hbg',hbl,hg,hab,hap,Sg4.cs,P2.cs,Ql3,Z2,I.news,Q0];exact⟨k+1,by omega,by omega,by simp[hk1]⟩
       ·subst h2;have hil:i<l.length:=by omega
        have hqi:l[i]?=some l[i]:=q9 hil;have hsi:Yn l ((i:Int)).toNat=l[i]:=by unfold Yn;rw[Int.toNat_natCast,hqi];rfl
        rw[hsi]at hk1
        generalize l[i]=u at hqi hk1;obtain⟨_,hqi'⟩:=q8.1 hqi;have hls:=hless s u;have hn0:¬ ((i:Int)<0):=by omega
        simp only[hn0,false_or]at hk1;rcases hst2 with rfl | ⟨rfl,hap⟩
        ·simp (disch:=omega) [go_sem,Qq,blV,hlt,hq,hq',hbg,hbg',hbl,hg,hab,hil,hqi,hqi',hn0,Sg4.cs,P2.cs,Q0];refine Qa hls ?_;cases hlv:Qeb s u<;>rw[hlv]at hk1<;>simp (disch:=omega) [go_sem,Q0]<;>exact⟨k+1,by omega,by omega,by simp[hk1]⟩
        ·simp (disch:=omega) [go_sem,Qq,blV,hlt,hq,hq',hbg,hbg',hbl,hg,hab,hap,hil,hqi,hqi',hn0,Sg4.cs,P2.cs,Q0];refine Qa hls ?_;cases hlv:Qeb s u<;>rw[hlv]at hk1<;>simp (disch:=omega) [go_sem,Q0]<;>exact⟨k+1,by omega,by omega,by simp[hk1]⟩
      ·rw[if_neg hcc]at hk1
       have hst:st=true/\(s.a.1 == p.x && s.a.2 == p.y)=false:=by
        rw[hcd]at hcc
        cases st<;>simp_all
       obtain⟨rfl,hap⟩:=hst;simp (disch:=omega) [go_sem,Qq,blV,hlt,hq,hq',hbg,hbg',hbl,hg,hab,hap,Sg4.cs,P2.cs,Q0];exact⟨k+1,by omega,by omega,by simp[hk1]⟩
end
section
variable {α β:Type}
def HeldR (sz:Nat) (hd:β->List V) (en:α->List V) (b:Nat) (hx:List O) (ls:List (β × List α)) (cells:List (List V)):Prop :=
 cells.length=ls.length/\∀(i:Nat) (c:List V) (l:β × List α),cells[i]?=some c->ls[i]?=some l->∃j g,c=hd l.1++[.own (b+j) g 0 l.2.length]/\hx[j]?=some (.arr g sz (l.2.map en))
structure CellsD (hd:β->List V) (en:α->List V):Prop where
 h1:∀b h,(hd b).mapM (Bv h)=some (hd b)
 h2:∀b,∀x∈hd b,x.isD=true
 e1:∀a,∀x∈en a,x.isD=true
variable {sz:Nat} {hd:β->List V} {en:α->List V}
theorem HeldR.nil (b:Nat):HeldR sz hd en b [] [] []:=⟨rfl,by simp⟩
theorem HeldR.app {b:Nat} {hx:List O} {ls:List (β × List α)} {cells:List (List V)} (h:HeldR sz hd en b hx ls cells) (l:List O):HeldR sz hd en b (hx++l) ls cells :=
 ⟨h.1,λi c x h1 h2=>by obtain⟨j,g,h3,h4⟩:=h.2 i c x h1 h2;exact⟨j,g,h3,by rw[qd (q8.1 h4).1];exact h4⟩⟩
theorem HeldR.snoc {b:Nat} {hx:List O} {ls:List (β × List α)} {cells:List (List V)} (h:HeldR sz hd en b hx ls cells) {j g:Nat} {l:β × List α} (hj:hx[j]?=some (.arr g sz (l.2.map en))):HeldR sz hd en b hx (ls++[l]) (cells++[hd l.1++[.own (b+j) g 0 l.2.length]]):=by
 refine⟨by simp[h.1],λi c x h1 h2=>?_⟩;by_cases hi:i<ls.length
 ·rw[qd (by rw[h.1];exact hi)]at h1
  rw[qd hi]at h2
  exact h.2 i c x h1 h2
 ·rw[qf (by rw[h.1];omega)]at h1
  rw[qf (by omega)]at h2
  have hi0:i-ls.length=0:=by
   have:=(q8.1 h2).1;simp at this;omega
  rw[h.1,hi0]at h1
  rw[hi0]at h2
  simp at h1 h2;subst h1;subst h2;exact⟨j,g,rfl,hj⟩
theorem HeldR.cl (D:CellsD hd en) {b:Nat} {hx:List O} {ls:List (β × List α)} {cells:List (List V)} (h:HeldR sz hd en b hx ls cells) {n:Nat} (hn:b+hx.length<=n):∀el∈cells,∀x∈el,x.cl n=true:=by
 intro el hel x hx';obtain⟨i,hi⟩:=qq hel;have hlt:=(q8.1 hi).1;obtain⟨j,g,rfl,h4⟩:=h.2 i el _ hi (q9 (by rw[<- h.1];exact hlt));have:=(q8.1 h4).1;rcases qg.1 hx' with hx' | hx'
 ·exact K4 n (D.h2 _ x hx')
 ·simp at hx';subst hx';simp[V.cl,V.cl1,V.cl0];omega
theorem Qp3 (D:CellsD hd en) (l:List α):∀el∈l.map en,∀x∈el,x.isD=true:=by
 intro el hel x hx;obtain⟨a,_,rfl⟩:=qo.1 hel;exact D.e1 a x hx
theorem Qgp (D:CellsD hd en) (l:List α) (n:Nat):∀el∈l.map en,∀x∈el,x.cl n=true:=λel hel x hx=>K4 n (Qp3 D l el hel x hx)
def Qr4 (sz:Nat) (hd:β->List V) (en:α->List V) (l:β × List α):List V:=hd l.1++[.l sz (l.2.map en)]
theorem HeldR.frz (D:CellsD hd en) {b:Nat} {base hx:List O} {ls:List (β × List α)} {cells:List (List V)} (h:HeldR sz hd en b hx ls cells) (hb:base.length=b):cells.mapM (λel=>el.mapM (Bv (base++hx)))=some (ls.map (Qr4 sz hd en)):=by
 induction cells generalizing ls with
 | nil =>
   have:=h.1;simp at this;obtain rfl:=List.length_eq_zero_iff.1 this.symm
   rfl
 | cons c cells ih =>
   have hl:=h.1;cases ls with
   | nil=>simp at hl
   | cons l ls =>
     have h0:=h.2 0 c l rfl rfl;obtain⟨j,g,rfl,hj⟩:=h0;have ht:HeldR sz hd en b hx ls cells:=⟨by simpa using hl,λi c x h1 h2=>h.2 (i+1) c x (by simpa using h1) (by simpa using h2)⟩
     have hg:(base++hx)[b+j]?=some (.arr g sz (l.2.map en)):=by rw[<- hb,Qf];exact hj
     have ha:(l.2.map en).all (λx=>x.all V.isD)=true:=by
      rw[qj];exact λel hel=>qj.2 (Qp3 D l.2 el hel)
     have hlen:(l.2.map en).length=l.2.length:=by simp
     have hfr:Bv (base++hx) (.own (b+j) g 0 l.2.length)=some (.l sz (l.2.map en)):=by
      have ht2:List.take l.2.length (l.2.map en)=l.2.map en:=qe (by omega);simp only[Bv,Ys,hg];rw[List.drop_zero,ht2,if_pos ⟨trivial,by omega,ha⟩]
     have hrow:(hd l.1++[V.own (b+j) g 0 l.2.length]).mapM (Bv (base++hx))=some (Qr4 sz hd en l):=by
      rw[List.mapM_append,D.h1];simp[List.mapM_cons,hfr,Qr4]
     rw[List.mapM_cons,hrow,ih ht]
     rfl
theorem Qk7 (D:CellsD hd en) {b rz:Nat} {base hx:List O} {ls:List (β × List α)} {cells:List (List V)} (h:HeldR sz hd en b hx ls cells) (hb:base.length=b) :
  (if ls.length<=cells.length then Option.map (V.l rz) (List.mapM (λel=>List.mapM (Bv (base++hx)) el) (List.take ls.length cells)) else none)=some (.l rz (ls.map (Qr4 sz hd en))):=by
 have h1:=h.frz D hb;have ht:List.take ls.length cells=cells:=qe (by rw[h.1];exact Nat.le_refl _);simp only[ht,h1,h.1,Nat.le_refl,if_true,Option.map_some]
end
end Go.Abs
