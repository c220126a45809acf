/- Part of the library on which the proof stands: an abstract machine, its values and its soundness against the model; or what functions of the program do to such values. -/
import Derived.Test.YtnaehggpjfdenaaGreatGoRpA
set_option linter.unusedVariables false
set_option linter.unusedSimpArgs false
namespace Go.Abs
def L0z.c (L13 L0y L10:FuncId):C :=(Bs [Au 3 (.box (.t 0)),Au 4 (.box (.t 1)),Au 5 (.box (.t 2)),Ac 6 0] (.seq (Bs [Ag 7 3 3,Au 8 (.call L13 [.t 7]),Au 9 (.un .not (.t 8)),Am 10 9,Aw 11 10 (.ld (some 3) (.t 4)),Aw 12 10 (.call L13 [.t 11]),Aw 13 10 (.un .not (.t 12)),Ao 14 10 13,Am 15 14,Aw 16 15 (.ld (some 3) (.t 5)),Aw 17 15 (.call L13 [.t 16]),Aw 18 15 (.un .not (.t 17)),Ao 19 15 18] (.ite (.t 19) (Bs [Ac 6 0] .ret) .skip)) (.seq (.drw [Ag 20 3 3,Ag 21 3 4,Ag 22 3 5,Au 23 (.call L0y [.t 21,.t 22]),Au 24 (.call L10 [.t 20,.t 23]),Am 6 24] [[],[],[],[0],[],[]]) .ret)))
def L0z.r:List Rr:=[.tmp 6]
abbrev L0z.n:Nat:=25
def L13.c (L14:FuncId):C :=(Bs [Au 1 (.box (.t 0)),Ab 2 false] (Bs [Ag 3 3 1,Au 4 (.call L14 [.t 3,(.c (.i .i64 131072))]),Am 2 4] .ret))
def L13.r:List Rr:=[.tmp 2]
abbrev L13.n:Nat:=5
def L10.c (L13 L14:FuncId):C :=(Bs [Au 2 (.box (.t 0)),Au 3 (.box (.t 1)),Ac 4 0] (.seq (Bs [Ag 5 3 2,Au 6 (.call L13 [.t 5]),Au 7 (.un .not (.t 6)),Am 8 7,Aw 9 8 (.ld (some 3) (.t 3)),Aw 10 8 (.call L14 [.t 9,(.c (.i .i64 1099511627776))]),Aw 11 8 (.un .not (.t 10)),Ao 12 8 11] (.ite (.t 12) (Bs [Ac 4 0] .ret) .skip)) (Bs [Af 13 0 2,Al 14 13,Af 15 0 3,Al 16 15,Aj .mul 17 14 16,Af 18 1 2,Al 19 18,Af 20 1 3,Al 21 20,Aj .mul 22 19 21,Aj .add 23 17 22,Af 24 2 2,Al 25 24,Af 26 2 3,Al 27 26,Aj .mul 28 25 27,Aj .add 29 23 28,Am 4 29] .ret)))
def L10.r:List Rr:=[.tmp 4]
abbrev L10.n:Nat:=30
def L0y.c (L13:FuncId):C :=(Bs [Au 2 (.box (.t 0)),Au 3 (.box (.t 1)),Au 4 (.alloc [(.i .i64 0),(.i .i64 0),(.i .i64 0)])] (.seq (Bs [Ag 5 3 2,Au 6 (.call L13 [.t 5]),Au 7 (.un .not (.t 6)),Am 8 7,Aw 9 8 (.ld (some 3) (.t 3)),Aw 10 8 (.call L13 [.t 9]),Aw 11 8 (.un .not (.t 10)),Ao 12 8 11] (.ite (.t 12) (Bs [Au 13 (.build [(.i .i64 0),(.i .i64 0),(.i .i64 0)] []),As 3 4 13] .ret) .skip)) (Bs [Af 14 1 2,Al 15 14,Af 16 2 3,Al 17 16,Aj .mul 18 15 17,Af 19 2 2,Al 20 19,Af 21 1 3,Al 22 21,Aj .mul 23 20 22,Aj .sub 24 18 23,Af 25 2 2,Al 26 25,Af 27 0 3,Al 28 27,Aj .mul 29 26 28,Af 30 0 2,Al 31 30,Af 32 2 3,
 Al 33 32,Aj .mul 34 31 33,Aj .sub 35 29 34,Af 36 0 2,Al 37 36,Af 38 1 3,Al 39 38,Aj .mul 40 37 39,Af 41 1 2,Al 42 41,Af 43 0 3,Al 44 43,Aj .mul 45 42 44,Aj .sub 46 40 45,Au 47 (.build [(.i .i64 0),(.i .i64 0),(.i .i64 0)] [(0,1,(.t 24)),(1,1,(.t 35)),(2,1,(.t 46))]),As 3 4 47] .ret)))
def L0y.r:List Rr:=[.cell 4 (some 3)]
abbrev L0y.n:Nat:=48
section
variable {P:Program} (hm:P.follows .mixedOrders=true)
include hm
theorem Q9g {f fw:FuncId} (hf:Q5 P f (L13.c fw) L13.r L13.n) (hw:Xx P fw):Jh P f:=Q1b hm hf hw
theorem Q9i {f fs:FuncId} (hf:Q5 P f (L0y.c fs) L0y.r L0y.n) (hs:Jh P fs):Q88 P f:=Q1c hm hf hs
theorem Qfx {f fs fw:FuncId} (hf:Q5 P f (L10.c fs fw) L10.r L10.n) (hs:Jh P fs) (hw:Xx P fw):Qq0 P f:=Q8b hm hf hs hw
theorem Qfy {f fs fc fd:FuncId} (hf:Q5 P f (L0z.c fs fc fd) L0z.r L0z.n) (hs:Jh P fs) (hc:Q88 P fc) (hd:Qq0 P fd):Qtw P f:=by
 intro x y z hx hy hz;refine PI hm hf ?_;unfold L0z.c;have h0:=hs x;have h1:=hs y;have h2:=hs z;rw[Ya hx]at h0
 rw[Ya hy]at h1
 rw[Ya hz]at h2
 simp[go_sem,V3.enc,V3.cs]at h0 h1 h2 ⊢
 refine Q2 h0 ?_;simp[go_sem];refine Q2 h1 ?_;simp[go_sem];refine Q2 h2 ?_;simp[go_sem];refine Qa (hc y z hy hz) ?_;simp[go_sem];refine Qa (hd x (crs y z) hx (Qbb hy hz)) ?_;simp[go_sem,L0z.r,Qhm]
theorem Q3o {f fc fd:FuncId} (hf:Q5 P f (L1a.c fc fd) L1a.r L1a.n) (hc:Y0 P fc) (hd:Qtw P fd):Qtg P f:=Eb hm hf hc hd
end
end Go.Abs
