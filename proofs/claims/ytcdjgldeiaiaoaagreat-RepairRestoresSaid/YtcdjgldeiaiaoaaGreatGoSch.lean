/- Part of the library on which the proof stands: an abstract machine, its values and its soundness against the model; or what functions of the program do to such values. -/
import Derived.Test.YtcdjgldeiaiaoaaGreatGoRevC
import Derived.Test.YtcdjgldeiaiaoaaGreatAbsSS
set_option linter.unusedVariables false
set_option linter.unusedSimpArgs false
namespace Go.Abs
def L10.c (L12 L13 L14 L11 L16:FuncId):C :=(.seq (.reg [Au 2 (.box (.t 0)),Au 3 (.box (.t 1)),Au 4 (.alloc [.nil,.nil]),Ac 5 0]) (.seq (.blk 0 (.seq (.reg [Af 8 0 3,Al 9 8,Af 10 1 3,Al 11 10,Af 12 2 3,Al 13 12,Au 14 (.mn [.t 9,.t 11,.t 13]),Ak .lss 15 14 1,Am 7 15]) (.ite (.t 7) (.seq (.reg [Au 16 (.build [.nil,.nil] []),As 2 4 16,Ac 5 1]) .ret) (.seq (.reg [Ag 18 3 2,Au 19 (.bsi 3 1 [(.i .i64 0),(.i .i64 0),(.i .i64 0)] [(0,(.t 18))]),Au 20 (.call L12 [.t 19]),Au 21 (.un .not (.t 20)),Am 22 21,Aw 23 22 (.ld (some 3) (.t 3)),Aw 24 22 (.call L13 [.t 23]),Aw 25 22 (.un .not (.t 24)),Ao 26 22 25,
 Am 27 26,Aw 28 27 (.ld (some 3) (.t 2)),Aw 29 27 (.ld (some 3) (.t 3)),Aw 30 27 (.call L14 [.t 28,.t 29]),Aw 31 27 (.bsi 3 1 [(.i .i64 0),(.i .i64 0),(.i .i64 0)] [(0,(.t 30))]),Aw 32 27 (.call L12 [.t 31]),Aw 33 27 (.un .not (.t 32)),Ao 34 27 33,Am 17 34]) (.ite (.t 17) (.seq (.reg [Au 35 (.build [.nil,.nil] []),As 2 4 35,Ac 5 8]) .ret) .skip))))) (.seq (.reg [Ag 36 3 2,Ag 37 3 3,Au 38 (.call L11 [.t 36,.t 37]),Au 6 (.alloc [(.i .i64 0),(.i .i64 0),(.i .i64 0),(.i .i64 0),(.i .i64 0),(.i .i64 0),(.i .i64 0),(.i .i64 0),(.i .i64 0),(.i .i64 0),(.i .i64 0),(.i .i64 0),(.i .i64 0),(.i .i64 0),(.i .i64 0),(.i .i64 0),(.i .i64 0),(.i .i64 0),(.i .i64 0),(.i .i64 0),(.i .i64 0),(.i .i64 0),(.i .i64 0),(.i .i64 0)]),
 As 24 6 38]) (.seq (.reg [Au 39 (.sla 3 8 (.t 6)),Au 40 (.call L16 [.t 39]),Au 41 (.build [(.i .i64 0),(.i .i64 0),(.i .i64 0)] [(0,1,(.c (.i .i64 0))),(1,1,(.c (.i .i64 2))),(2,1,(.c (.i .i64 3)))]),Au 42 (.build [(.i .i64 0),(.i .i64 0),(.i .i64 0)] [(0,1,(.c (.i .i64 0))),(1,1,(.c (.i .i64 3))),(2,1,(.c (.i .i64 1)))]),Au 43 (.build [(.i .i64 0),(.i .i64 0),(.i .i64 0)] [(0,1,(.c (.i .i64 4))),(1,1,(.c (.i .i64 5))),(2,1,(.c (.i .i64 7)))]),Au 44 (.build [(.i .i64 0),(.i .i64 0),(.i .i64 0)] [(0,1,(.c (.i .i64 4))),(1,1,(.c (.i .i64 7))),(2,1,(.c (.i .i64 6)))]),Au 45 (.build [(.i .i64 0),(.i .i64 0),(.i .i64 0)] [(0,1,(.c (.i .i64 0))),(1,1,(.c (.i .i64 1))),(2,1,(.c (.i .i64 5)))]),
 Au 46 (.build [(.i .i64 0),(.i .i64 0),(.i .i64 0)] [(0,1,(.c (.i .i64 0))),(1,1,(.c (.i .i64 5))),(2,1,(.c (.i .i64 4)))]),Au 47 (.build [(.i .i64 0),(.i .i64 0),(.i .i64 0)] [(0,1,(.c (.i .i64 2))),(1,1,(.c (.i .i64 6))),(2,1,(.c (.i .i64 7)))]),Au 48 (.build [(.i .i64 0),(.i .i64 0),(.i .i64 0)] [(0,1,(.c (.i .i64 2))),(1,1,(.c (.i .i64 7))),(2,1,(.c (.i .i64 3)))]),Au 49 (.build [(.i .i64 0),(.i .i64 0),(.i .i64 0)] [(0,1,(.c (.i .i64 0))),(1,1,(.c (.i .i64 4))),(2,1,(.c (.i .i64 6)))]),Au 50 (.build [(.i .i64 0),(.i .i64 0),(.i .i64 0)] [(0,1,(.c (.i .i64 0))),(1,1,(.c (.i .i64 6))),(2,1,(.c (.i .i64 2)))]),
 Au 51 (.build [(.i .i64 0),(.i .i64 0),(.i .i64 0)] [(0,1,(.c (.i .i64 1))),(1,1,(.c (.i .i64 3))),(2,1,(.c (.i .i64 7)))]),Au 52 (.build [(.i .i64 0),(.i .i64 0),(.i .i64 0)] [(0,1,(.c (.i .i64 1))),(1,1,(.c (.i .i64 7))),(2,1,(.c (.i .i64 5)))]),Au 53 (.bso 3 12 [(.i .i64 0),(.i .i64 0),(.i .i64 0)] [(0,(.t 41)),(1,(.t 42)),(2,(.t 43)),(3,(.t 44)),(4,(.t 45)),(5,(.t 46)),(6,(.t 47)),(7,(.t 48)),(8,(.t 49)),(9,(.t 50)),(10,(.t 51)),(11,(.t 52))]),Au 54 (.build [.nil,.nil] [(0,1,(.t 40)),(1,1,(.t 53))]),As 2 4 54,Ac 5 0]) .ret))))
def L10.r:List Rr:=[.cell 4 (some 2),.tmp 5]
abbrev L10.n:Nat:=55
def L12.c (L1o:FuncId):C :=(.seq (.reg [Ab 2 false]) (.seq (.seq (.reg [Am 5 0,An 6 0 5,Ac 7 0]) (.blk 0 (.loop (.seq (.reg [Aj .lss 8 7 6]) (.seq (.ite (.t 8) .skip (.exit 0)) (.seq (.blk 1 (.seq (.reg [Ai 9 3 5 7,Ag 10 3 9,Au 4 (.alloc [(.i .i64 0),(.i .i64 0),(.i .i64 0)]),As 3 4 10]) (.seq (.reg [Ag 11 3 4,Au 12 (.call L1o [.t 11]),Au 13 (.un .not (.t 12))]) (.ite (.t 13) (.seq (.reg [Ab 2 false]) .ret) .skip)))) (.reg [Ad 14 7 1,Am 7 14]))))))) (.seq (.reg [Ab 2 true]) .ret)))
def L12.r:List Rr:=[.tmp 2]
abbrev L12.n:Nat:=15
def L13.c:C :=(.seq (.reg [Au 1 (.box (.t 0)),Ab 2 false]) (.seq (.reg [Af 3 0 1,Al 4 3,Af 5 1 1,Al 6 5,Af 7 2 1,Al 8 7,Au 9 (.mx [.t 4,.t 6,.t 8]),Ak .leq 10 9 131072,Am 11 10,Av 12 11 (.fa 0 (.t 1)),Av 13 11 (.ld none (.t 12)),Av 14 11 (.fa 1 (.t 1)),Av 15 11 (.ld none (.t 14)),Av 16 11 (.fa 2 (.t 1)),Av 17 11 (.ld none (.t 16)),Av 18 11 (.mn [.t 13,.t 15,.t 17]),Av 19 11 (.bin .geq (.t 18) (.c (.i .i64 (-131072)))),Ap 20 11 19,Am 2 20]) .ret))
def L13.r:List Rr:=[.tmp 2]
abbrev L13.n:Nat:=21
def L14.c:C :=(.seq (.reg [Au 2 (.box (.t 0)),Au 3 (.box (.t 1)),Au 4 (.alloc [(.i .i64 0),(.i .i64 0),(.i .i64 0)])]) (.seq (.reg [Af 5 0 2,Al 6 5,Af 7 0 3,Al 8 7,Aj .add 9 6 8,Af 10 1 2,Al 11 10,Af 12 1 3,Al 13 12,Aj .add 14 11 13,Af 15 2 2,Al 16 15,Af 17 2 3,Al 18 17,Aj .add 19 16 18,Au 20 (.build [(.i .i64 0),(.i .i64 0),(.i .i64 0)] [(0,1,(.t 9)),(1,1,(.t 14)),(2,1,(.t 19))]),As 3 4 20]) .ret))
def L14.r:List Rr:=[.cell 4 (some 3)]
abbrev L14.n:Nat:=21
def L11.c (L14:FuncId):C :=(.seq (.reg [Au 2 (.box (.t 0)),Au 3 (.box (.t 1)),Au 4 (.alloc [(.i .i64 0),(.i .i64 0),(.i .i64 0),(.i .i64 0),(.i .i64 0),(.i .i64 0),(.i .i64 0),(.i .i64 0),(.i .i64 0),(.i .i64 0),(.i .i64 0),(.i .i64 0),(.i .i64 0),(.i .i64 0),(.i .i64 0),(.i .i64 0),(.i .i64 0),(.i .i64 0),(.i .i64 0),(.i .i64 0),(.i .i64 0),(.i .i64 0),(.i .i64 0),(.i .i64 0)])]) (.seq (.reg [Au 5 (.alloc [(.i .i64 0),(.i .i64 0),(.i .i64 0),(.i .i64 0),(.i .i64 0),(.i .i64 0),(.i .i64 0),(.i .i64 0),(.i .i64 0),(.i .i64 0),(.i .i64 0),(.i .i64 0),(.i .i64 0),(.i .i64 0),(.i .i64 0),(.i .i64 0),(.i .i64 0),(.i .i64 0),(.i .i64 0),(.i .i64 0),(.i .i64 0),(.i .i64 0),(.i .i64 0),(.i .i64 0)])])
 (.seq (.seq (.reg [Ac 7 0]) (.blk 0 (.loop (.seq (.reg [Ak .lss 8 7 8]) (.seq (.ite (.t 8) .skip (.exit 0)) (.seq (.blk 1 (.seq (.reg [Am 9 7,Am 6 9]) (.reg [Am 10 6,Ag 11 3 2,Am 12 6,Ak .and 13 12 1,Af 14 0 3,Al 15 14,Aj .mul 16 13 15,Am 17 6,Au 18 (.bin .shr (.t 17) (.c (.i .u64 1))),Ak .and 19 18 1,Af 20 1 3,Al 21 20,Aj .mul 22 19 21,Am 23 6,Au 24 (.bin .shr (.t 23) (.c (.i .u64 2))),Ak .and 25 24 1,Af 26 2 3,Al 27 26,Aj .mul 28 25 27,Au 29 (.build [(.i .i64 0),(.i .i64 0),(.i .i64 0)] [(0,1,(.t 16)),(1,1,(.t 22)),(2,1,(.t 28))]),Au 30 (.call L14 [.t 11,.t 29]),Au 31 (.iaa 8 3 (.t 5) (.t 10)),
 As 3 31 30]))) (.reg [Ad 32 7 1,Am 7 32]))))))) (.seq (.reg [Ag 33 24 5,As 24 4 33]) .ret))))
def L11.r:List Rr:=[.cell 4 (some 24)]
abbrev L11.n:Nat:=34
def L16.c:C :=(.seq (.reg [Az 2]) (.seq (.seq (.reg [Am 3 0,Au 4 (.isn false (.t 3))]) (.ite (.t 4) (.seq (.reg [Az 2]) .ret) .skip)) (.seq (.reg [Au 5 (.bso 3 0 [(.i .i64 0),(.i .i64 0),(.i .i64 0)] []),Am 6 0,Au 7 (.app 3 24 (.t 5) (.t 6)),Am 2 7]) .ret)))
def L16.r:List Rr:=[.tmp 2]
abbrev L16.n:Nat:=8
def L15.c:C :=(.seq (.reg [Az 2]) (.seq (.seq (.reg [Am 3 0,Au 4 (.isn false (.t 3))]) (.ite (.t 4) (.seq (.reg [Az 2]) .ret) .skip)) (.seq (.reg [Au 5 (.bso 3 0 [(.i .i64 0),(.i .i64 0),(.i .i64 0)] []),Am 6 0,Au 7 (.app 3 24 (.t 5) (.t 6)),Am 2 7]) .ret)))
def L15.r:List Rr:=[.tmp 2]
abbrev L15.n:Nat:=8
def L1k.c (L1p L1j L1l:FuncId):C :=(.seq (.reg [Au 3 (.box (.t 0)),Au 4 (.box (.t 1)),Au 5 (.box (.t 2)),Ac 6 0]) (.seq (.seq (.reg [Ag 7 3 4,Au 8 (.call L1p [.t 7]),Au 9 (.un .not (.t 8)),Am 10 9,Aw 11 10 (.ld (some 3) (.t 5)),Aw 12 10 (.call L1p [.t 11]),Aw 13 10 (.un .not (.t 12)),Ao 14 10 13]) (.ite (.t 14) (.seq (.reg [Ac 6 0]) .ret) .skip)) (.seq (.drw [Ag 15 3 3,Ag 16 3 4,Ag 17 3 5,Au 18 (.call L1j [.t 16,.t 17]),Au 19 (.call L1l [.t 15,.t 18]),Am 6 19] [[],[],[],[0],[],[]]) .ret)))
def L1k.r:List Rr:=[.tmp 6]
abbrev L1k.n:Nat:=20
def L1p.c (L1q:FuncId):C :=(.seq (.reg [Au 1 (.box (.t 0)),Ab 2 false]) (.seq (.reg [Ag 3 3 1,Au 4 (.call L1q [.t 3,(.c (.i .i64 131072))]),Am 2 4]) .ret))
def L1p.r:List Rr:=[.tmp 2]
abbrev L1p.n:Nat:=5
def L1l.c (L1p L1q:FuncId):C :=(.seq (.reg [Au 2 (.box (.t 0)),Au 3 (.box (.t 1)),Ac 4 0]) (.seq (.seq (.reg [Ag 5 3 2,Au 6 (.call L1p [.t 5]),Au 7 (.un .not (.t 6)),Am 8 7,Aw 9 8 (.ld (some 3) (.t 3)),Aw 10 8 (.call L1q [.t 9,(.c (.i .i64 1099511627776))]),Aw 11 8 (.un .not (.t 10)),Ao 12 8 11]) (.ite (.t 12) (.seq (.reg [Ac 4 0]) .ret) .skip)) (.seq (.reg [Af 13 0 2,Al 14 13,Af 15 0 3,Al 16 15,Aj .mul 17 14 16,Af 18 1 2,Al 19 18,Af 20 1 3,Al 21 20,Aj .mul 22 19 21,Aj .add 23 17 22,Af 24 2 2,Al 25 24,Af 26 2 3,Al 27 26,Aj .mul 28 25 27,Aj .add 29 23 28,Am 4 29]) .ret)))
def L1l.r:List Rr:=[.tmp 4]
abbrev L1l.n:Nat:=30
def L1j.c (L1p:FuncId):C :=(.seq (.reg [Au 2 (.box (.t 0)),Au 3 (.box (.t 1)),Au 4 (.alloc [(.i .i64 0),(.i .i64 0),(.i .i64 0)])]) (.seq (.seq (.reg [Ag 5 3 2,Au 6 (.call L1p [.t 5]),Au 7 (.un .not (.t 6)),Am 8 7,Aw 9 8 (.ld (some 3) (.t 3)),Aw 10 8 (.call L1p [.t 9]),Aw 11 8 (.un .not (.t 10)),Ao 12 8 11]) (.ite (.t 12) (.seq (.reg [Au 13 (.build [(.i .i64 0),(.i .i64 0),(.i .i64 0)] []),As 3 4 13]) .ret) .skip)) (.seq (.reg [Af 14 1 2,Al 15 14,Af 16 2 3,Al 17 16,Aj .mul 18 15 17,Af 19 2 2,Al 20 19,Af 21 1 3,Al 22 21,Aj .mul 23 20 22,Aj .sub 24 18 23,Af 25 2 2,Al 26 25,Af 27 0 3,Al 28 27,Aj .mul 29 26 28,
 Af 30 0 2,Al 31 30,Af 32 2 3,Al 33 32,Aj .mul 34 31 33,Aj .sub 35 29 34,Af 36 0 2,Al 37 36,Af 38 1 3,Al 39 38,Aj .mul 40 37 39,Af 41 1 2,Al 42 41,Af 43 0 3,Al 44 43,Aj .mul 45 42 44,Aj .sub 46 40 45,Au 47 (.build [(.i .i64 0),(.i .i64 0),(.i .i64 0)] [(0,1,(.t 24)),(1,1,(.t 35)),(2,1,(.t 46))]),As 3 4 47]) .ret)))
def L1j.r:List Rr:=[.cell 4 (some 3)]
abbrev L1j.n:Nat:=48
def L0a.c (L08 L1k:FuncId):C :=(.seq (.reg [Au 1 (.box (.t 0)),Ac 2 0]) (.seq (.seq (.reg [Ag 6 2 1,Au 7 (.call L08 [.t 6]),Ak .neq 8 7 0]) (.ite (.t 8) (.seq (.reg [Ac 2 0]) .ret) .skip)) (.seq (.reg [Ac 3 0]) (.seq (.seq (.reg [Af 9 1 1,Al 10 9,An 11 0 10,Ac 12 0]) (.blk 0 (.loop (.seq (.reg [Aj .lss 13 12 11]) (.seq (.ite (.t 13) .skip (.exit 0)) (.seq (.blk 1 (.seq (.reg [Ai 14 3 10 12,Ag 15 3 14,Au 5 (.alloc [(.i .i64 0),(.i .i64 0),(.i .i64 0)]),As 3 5 15]) (.drw [Am 16 3,Af 17 0 1,Al 18 17,Af 19 0 5,Al 20 19,Ai 21 3 18 20,Ag 22 3 21,Af 23 0 1,Al 24 23,Af 25 1 5,Al 26 25,Ai 27 3 24 26,Ag 28 3 27,
 Af 29 0 1,Al 30 29,Af 31 2 5,Al 32 31,Ai 33 3 30 32,Ag 34 3 33,Au 35 (.call L1k [.t 22,.t 28,.t 34]),Aj .add 36 16 35,Am 3 36] []))) (.reg [Ad 37 12 1,Am 12 37]))))))) (.seq (.reg [Am 38 3,Am 2 38]) .ret)))))
def L0a.r:List Rr:=[.tmp 2]
abbrev L0a.n:Nat:=39
def Qce (P:Program) (f:FuncId):Prop:=CallIs P f [] (.b true)
theorem par_i {k:IntKind} {ps:List (Bool × List Sch)} {us:List V} (h:Xh ((false,[.i k])::ps) us):∃n r,us=.i k n::r/\(k.min<=n/\n<=k.max)/\Xh ps r:=by
 simp only[Xh,Q8a]at h
 obtain⟨v,r,rfl,hv,hr⟩:=h
 simp only[okL,Sch.ok]at hv
 obtain⟨x,r',h1,⟨n,rfl,h2⟩,rfl⟩:=hv
 obtain rfl:v=.i k n:=by simpa using h1
 exact⟨n,r,rfl,h2,hr⟩
theorem par_0 {us:List V} (h:Xh [] us):us=[]:=h
def Xt (P:Program) (f:FuncId) (sz:Nat):Prop:=∀els:List (List V),els.all (λel=>el.all V.isD)=true->els.length<=1000000->NewC P f [.l sz els] (λr h=>r=.own 0 1 0 els.length/\h=[.arr 1 sz els])
theorem Qb5 {x:V} (n:Nat) (h:x.isD=true):x.cl n=true:=by cases x<;>simp[V.isD]at h<;>simp[V.cl,V.cl1,V.cl0]
section
variable {P:Program} (hm:P.follows .mixedOrders=true)
include hm
theorem Jv {f:FuncId} (hf:Qb P f L16.c L16.r L16.n):Xt P f 3:=by
 intro els hel hlen
 refine Q9z 3 ?_
 refine Qi3 hm hf (qh rfl) ?_
 unfold L16.c
 cases els with
 | nil=>simp[go_sem,L16.r]
 | cons e l =>
   simp only[List.length_cons]at hlen
   simp[go_sem,L16.r]
   simp only[List.all_cons,Bool.and_eq_true,qj]at hel
   exact⟨⟨by omega,by omega⟩,λx hx=>Qb5 1 (hel.1 x hx),λa ha x hx=>Qb5 1 (hel.2 a ha x hx)⟩
theorem B4 {f:FuncId} (hf:Qb P f L15.c L15.r L15.n):Xt P f 3:=Jv hm hf
end
def L0b.c (L08 L0g:FuncId):C :=(.seq (.reg [Au 1 (.box (.t 0)),Ab 2 false]) (.seq (.reg [Ag 3 2 1,Au 4 (.call L08 [.t 3]),Ak .eql 5 4 0,Am 6 5,Av 7 6 (.fa 1 (.t 1)),Av 8 6 (.ld none (.t 7)),Av 9 6 (.call L0g [.t 8]),Ap 10 6 9,Am 2 10]) .ret))
def L0b.r:List Rr:=[.tmp 2]
abbrev L0b.n:Nat:=11
def L0g.c (L0h:FuncId):C :=(.seq (.reg [Ab 2 false]) (.seq (.reg [Au 8 (.mkm none),Am 3 8]) (.seq (.seq (.reg [Am 9 0,An 10 0 9,Ac 11 0]) (.blk 0 (.loop (.seq (.reg [Aj .lss 12 11 10]) (.seq (.ite (.t 12) .skip (.exit 0)) (.seq (.blk 1 (.seq (.reg [Ai 13 3 9 11,Ag 14 3 13,Au 5 (.alloc [(.i .i64 0),(.i .i64 0),(.i .i64 0)]),As 3 5 14]) (.seq (.reg [Ag 15 3 5,Au 16 (.call L0h [.t 15]),An 17 0 16,Ac 18 0]) (.blk 2 (.loop (.seq (.reg [Aj .lss 19 18 17]) (.seq (.ite (.t 19) .skip (.exit 2)) (.seq (.blk 3 (.seq (.reg [Ai 20 2 16 18,Ag 21 2 20,Au 7 (.alloc [(.i .i64 0),(.i .i64 0)]),As 2 7 21]) (.seq
 (.reg [Am 22 3,Ag 23 2 7,⟨none,none,.eqa [1,1] false (.t 23) (.t 23)⟩,Au 24 (.lk [1,1] (.i .i64 0) false (.t 22) (.t 23)),Ad 25 24 1,Au 26 (.ment [1,1] (.i .i64 0) (.t 22) (.t 23)),Ax1 27 1 26,⟨none,none,.est (.t 22) (.t 27) (.t 25)⟩]) (.seq (.reg [Am 28 3,Ag 29 2 7,Au 30 (.lk [1,1] (.i .i64 0) false (.t 28) (.t 29)),Ak .gtr 31 30 1]) (.ite (.t 31) (.seq (.reg [Ab 2 false]) .ret) .skip))))) (.reg [Ad 32 18 1,Am 18 32]))))))))) (.reg [Ad 33 11 1,Am 11 33]))))))) (.seq (.reg [Ab 2 true]) .ret))))
def L0g.r:List Rr:=[.tmp 2]
abbrev L0g.n:Nat:=34
def L0h.c:C :=(.seq (.reg [Au 1 (.box (.t 0)),Az 2]) (.seq (.reg [Az 3]) (.seq (.seq (.reg [Af 6 0 1,Al 7 6,Af 8 1 1,Al 9 8,Au 10 (.build [(.i .i64 0),(.i .i64 0)] [(0,1,(.t 7)),(1,1,(.t 9))]),Af 11 1 1,Al 12 11,Af 13 2 1,Al 14 13,Au 15 (.build [(.i .i64 0),(.i .i64 0)] [(0,1,(.t 12)),(1,1,(.t 14))]),Af 16 2 1,Al 17 16,Af 18 0 1,Al 19 18,Au 20 (.build [(.i .i64 0),(.i .i64 0)] [(0,1,(.t 17)),(1,1,(.t 19))]),Au 21 (.build [(.i .i64 0),(.i .i64 0),(.i .i64 0),(.i .i64 0),(.i .i64 0),(.i .i64 0)] [(0,2,(.t 10)),(2,2,(.t 15)),(4,2,(.t 20))]),Ac 22 0]) (.blk 0 (.loop (.seq (.reg [Ak .lss 23 22 3]) (.seq
 (.ite (.t 23) .skip (.exit 0)) (.seq (.blk 1 (.seq (.reg [Au 24 (.ix 3 2 (some 2) (.t 21) (.t 22)),Au 5 (.alloc [(.i .i64 0),(.i .i64 0)]),As 2 5 24]) (.seq (.reg [Af 25 0 5,Al 26 25,Af 27 1 5,Al 28 27,Aj .neq 29 26 28]) (.ite (.t 29) (.reg [Am 30 3,Ag 31 2 5,Au 32 (.bsi 2 1 [(.i .i64 0),(.i .i64 0)] [(0,(.t 31))]),Au 33 (.app 2 16 (.t 30) (.t 32)),Am 3 33]) .skip)))) (.reg [Ad 34 22 1,Am 22 34]))))))) (.seq (.reg [Am 35 3,Am 2 35]) .ret))))
def L0h.r:List Rr:=[.tmp 2]
abbrev L0h.n:Nat:=36
def L0c.c (L08 L15 L0h L0f L0d L0g L16:FuncId):C :=(.seq (.reg [Au 1 (.box (.t 0)),Au 2 (.alloc [.nil,.nil]),Ac 3 0,Ac 4 0]) (.seq (.seq (.reg [Ag 22 2 1,Au 23 (.call L08 [.t 22]),Am 5 23]) (.seq (.reg [Am 24 5,Ak .neq 25 24 0]) (.ite (.t 25) (.seq (.reg [Au 26 (.build [.nil,.nil] []),Am 27 5,As 2 2 26,Ac 3 0,Am 4 27]) .ret) .skip))) (.seq (.reg [Af 28 1 1,Al 29 28,Au 30 (.call L15 [.t 29]),Au 6 (.alloc [.nil]),As 1 6 30]) (.seq (.reg [Au 31 (.mkm none),Am 7 31]) (.seq (.seq (.reg [Al 32 6,An 33 0 32,Ac 34 0]) (.blk 0 (.loop (.seq (.reg [Aj .lss 35 34 33]) (.seq (.ite (.t 35) .skip (.exit 0)) (.seq
 (.blk 1 (.seq (.reg [Am 36 34,Ai 37 3 32 34,Ag 38 3 37,Au 9 (.alloc [(.i .i64 0),(.i .i64 0),(.i .i64 0)]),Am 8 36,As 3 9 38]) (.seq (.reg [Ag 39 3 9,Au 40 (.call L0h [.t 39]),An 41 0 40,Ac 42 0]) (.blk 2 (.loop (.seq (.reg [Aj .lss 43 42 41]) (.seq (.ite (.t 43) .skip (.exit 2)) (.seq (.blk 3 (.seq (.reg [Ai 44 2 40 42,Ag 45 2 44,Au 11 (.alloc [(.i .i64 0),(.i .i64 0)]),As 2 11 45]) (.drw [Am 46 7,Ag 47 2 11,Au 48 (.call L0f [.t 47]),Am 49 7,Ag 50 2 11,Au 51 (.call L0f [.t 50]),Au 52 (.lk [1,1] .nil false (.t 49) (.t 51)),Am 53 8,Au 54 (.bsi 1 1 [(.i .i64 0)] [(0,(.t 53))]),Au 55 (.app 1 8 (.t 52) (.t 54)),
 ⟨none,none,.mup [1,1] (.t 46) (.t 48) (.t 55)⟩] [[],[],[],[],[2],[],[],[],[],[],[]]))) (.reg [Ad 56 42 1,Am 42 56]))))))))) (.reg [Ad 57 34 1,Am 34 57]))))))) (.seq (.reg [Al 58 6,An 59 0 58,Au 60 (.mks 1 1 [(.b false)] (.t 59)),Au 12 (.alloc [.nil]),As 1 12 60]) (.seq (.reg [Au 13 (.alloc [(.i .i64 0)]),⟨none,none,.st 1 (.t 13) (.c (.i .i64 0))⟩]) (.seq (.reg [Au 14 (.alloc [.nil])]) (.seq (.reg [Au 61 (.mkf L0d [.t 12,.t 6,.t 13,.t 14]),Am 15 61]) (.seq (.seq (.reg [Al 62 6,An 63 0 62,Ac 64 0]) (.blk 4 (.loop (.seq (.reg [Aj .lss 65 64 63]) (.seq (.ite (.t 65) .skip (.exit 4)) (.seq (.blk 5
 (.seq (.reg [Am 66 64,Am 16 66]) (.seq (.reg [Am 67 15,Am 68 16,Au 69 (.build [(.i .i64 0),(.i .i64 0)] [(0,1,(.c (.i .i64 (-1)))),(1,1,(.c (.i .i64 (-1))))]),Au 70 (.callv (.t 67) [.t 68,.t 69])]) (.blk 6 (.loop (.seq (.seq (.reg [Al 71 14,An 72 0 71,Ak .gtr 73 72 0]) (.ite (.t 73) .skip (.exit 6))) (.blk 7 (.seq (.reg [Al 74 14,Au 75 (.ia 1 (.t 74) (.c (.i .i64 0))),Al 76 75,Am 17 76]) (.seq (.reg [Al 77 14,Au 78 (.slc 1 (.t 77) (some (.c (.i .i64 1))) none),As 1 14 78]) (.seq (.reg [Al 79 6,Am 80 17,Ai 81 3 79 80,Ag 82 3 81,Au 83 (.call L0h [.t 82]),An 84 0 83,Ac 85 0]) (.blk 8 (.loop (.seq
 (.reg [Aj .lss 86 85 84]) (.seq (.ite (.t 86) .skip (.exit 8)) (.seq (.blk 9 (.seq (.reg [Ai 87 2 83 85,Ag 88 2 87,Au 19 (.alloc [(.i .i64 0),(.i .i64 0)]),As 2 19 88]) (.seq (.reg [Am 89 7,Ag 90 2 19,Au 91 (.call L0f [.t 90]),Au 92 (.lk [1,1] .nil false (.t 89) (.t 91)),An 93 0 92,Ac 94 0]) (.blk 10 (.loop (.seq (.reg [Aj .lss 95 94 93]) (.seq (.ite (.t 95) .skip (.exit 10)) (.seq (.blk 11 (.seq (.reg [Ai 96 1 92 94,Al 97 96,Am 21 97]) (.reg [Am 98 15,Am 99 21,Ag 100 2 19,Au 101 (.callv (.t 98) [.t 99,.t 100])]))) (.reg [Ad 102 94 1,Am 94 102]))))))))) (.reg [Ad 103 85 1,Am 85 103]))))))))))))))))
 (.reg [Ad 104 64 1,Am 64 104]))))))) (.seq (.seq (.reg [Al 105 6,Au 106 (.call L0g [.t 105]),Au 107 (.un .not (.t 106))]) (.ite (.t 107) (.seq (.reg [Au 108 (.build [.nil,.nil] []),As 2 2 108,Ac 3 0,Ac 4 13]) .ret) .skip)) (.seq (.drw [Af 109 0 1,Al 110 109,Au 111 (.call L16 [.t 110]),Al 112 6,Au 113 (.build [.nil,.nil] [(0,1,(.t 111)),(1,1,(.t 112))]),Al 114 13,As 2 2 113,Am 3 114,Ac 4 0] [[],[],[],[2],[],[2],[5],[],[]]) .ret))))))))))))
def L0c.r:List Rr:=[.cell 2 (some 2),.tmp 3,.tmp 4]
abbrev L0c.n:Nat:=115
def L0f.c:C :=(.seq (.reg [Au 1 (.box (.t 0)),Au 2 (.alloc [(.i .i64 0),(.i .i64 0)])]) (.seq (.reg [Af 3 0 1,Al 4 3,Af 5 1 1,Al 6 5,Au 7 (.mn [.t 4,.t 6]),Af 8 0 1,Al 9 8,Af 10 1 1,Al 11 10,Au 12 (.mx [.t 9,.t 11]),Au 13 (.build [(.i .i64 0),(.i .i64 0)] [(0,1,(.t 7)),(1,1,(.t 12))]),As 2 2 13]) .ret))
def L0f.r:List Rr:=[.cell 2 (some 2)]
abbrev L0f.n:Nat:=14
def L0d.c (L0h L17 L0i:FuncId):C :=(.seq (.reg [Au 7 (.box (.t 1))]) (.seq (.seq (.reg [Al 8 2,Am 9 0,Ai 10 1 8 9,Al 11 10]) (.ite (.t 11) .ret .skip)) (.seq (.reg [Al 12 2,Am 13 0,Ai 14 1 12 13,⟨none,none,.st 1 (.t 14) (.c (.b true))⟩]) (.seq (.seq (.drw [Al 15 3,Am 16 0,Ai 17 3 15 16,Ag 18 3 17,Au 19 (.call L0h [.t 18]),Ag 20 2 7,Au 21 (.call L17 [.t 19,.t 20])] [[],[],[],[],[],[4],[]]) (.ite (.t 21) (.seq (.drw [Al 22 3,Am 23 0,Al 24 3,Am 25 0,Ai 26 3 24 25,Ag 27 3 26,Au 28 (.call L0i [.t 27]),Ai 29 3 22 23,As 3 29 28] [[],[],[],[],[],[],[0],[],[]]) (.reg [Al 30 4,Ad 31 30 1,As 1 4 31])) .skip))
 (.reg [Al 32 5,Am 33 0,Au 34 (.bsi 1 1 [(.i .i64 0)] [(0,(.t 33))]),Au 35 (.app 1 8 (.t 32) (.t 34)),As 1 5 35])))))
def L0d.r:List Rr:=[]
abbrev L0d.n:Nat:=36
def L17.c (L18:FuncId):C :=(.seq (.reg [Au 3 (.box (.t 1)),Ab 4 false]) (.seq (.reg [Am 5 0,Ag 6 2 3,Au 7 (.call L18 [.t 5,.t 6]),Ak .geq 8 7 0,Am 4 8]) .ret))
def L17.r:List Rr:=[.tmp 4]
abbrev L17.n:Nat:=9
def L18.c:C :=(.seq (.reg [Au 3 (.box (.t 1)),Ac 4 0]) (.seq (.seq (.reg [Am 6 0,An 7 0 6,Ac 8 0]) (.blk 0 (.loop (.seq (.reg [Aj .lss 9 8 7]) (.seq (.ite (.t 9) .skip (.exit 0)) (.seq (.blk 1 (.seq (.reg [Am 10 8,Am 5 10]) (.seq (.drw [Ag 11 2 3,Am 12 0,Am 13 5,Ai 14 2 12 13,Ag 15 2 14,Au 16 (.eqa [1,1] false (.t 11) (.t 15))] []) (.ite (.t 16) (.seq (.reg [Am 17 5,Am 4 17]) .ret) .skip)))) (.reg [Ad 18 8 1,Am 8 18]))))))) (.seq (.reg [Ac 4 (-1)]) .ret)))
def L18.r:List Rr:=[.tmp 4]
abbrev L18.n:Nat:=19
def L0i.c:C :=(.seq (.reg [Au 1 (.box (.t 0)),Au 2 (.alloc [(.i .i64 0),(.i .i64 0),(.i .i64 0)])]) (.seq (.reg [Af 3 0 1,Al 4 3,Af 5 2 1,Al 6 5,Af 7 1 1,Al 8 7,Au 9 (.build [(.i .i64 0),(.i .i64 0),(.i .i64 0)] [(0,1,(.t 4)),(1,1,(.t 6)),(2,1,(.t 8))]),As 3 2 9]) .ret))
def L0i.r:List Rr:=[.cell 2 (some 3)]
abbrev L0i.n:Nat:=10
def schV:List Sch:=[.i .i64,.i .i64,.i .i64]
theorem Qd3 {α:Type} {f:α->List V} {el:List Sch} (hf:∀e,okL el e->∃v,e=f v):∀els:List (List V),(∀e∈els,okL el e)->∃l:List α,els=l.map f
 | [],_=>⟨[],rfl⟩
 | e::els,h=>by
   obtain⟨l,rfl⟩:=Qd3 hf els (λe he=>h e (by simp[he]))
   obtain⟨v,rfl⟩:=hf e (h e (by simp))
   exact⟨v::l,rfl⟩
end Go.Abs
