/- Part of the library on which the proof stands: an abstract machine, its values and its soundness against the model; or what functions of the program do to such values. -/
import Derived.Test.YtjggbpiapinceaaGreatGoRevC
import Derived.Test.YtjggbpiapinceaaGreatGoOriB
import Derived.Test.YtjggbpiapinceaaGreatGoSkJ
import Derived.Test.YtjggbpiapinceaaGreatGoSecH
import Derived.Test.YtjggbpiapinceaaGreatGoRw
import Derived.Test.YtjggbpiapinceaaGreatGoSkB
import Derived.Test.YtjggbpiapinceaaGreatGoSkE
import Derived.Test.YtjggbpiapinceaaGreatGoSkC
import Derived.Test.YtjggbpiapinceaaGreatGoTpE
import Derived.Test.YtjggbpiapinceaaGreatGoSecE
import Derived.Test.YtjggbpiapinceaaGreatAbsSP
set_option linter.unusedVariables false
set_option linter.unusedSimpArgs false
set_option maxHeartbeats 8000000
set_option maxRecDepth 20000
namespace Go.Abs
def L17.c (L0g L20 L0l L2k L19:FuncId):C :=(.seq (.reg [Au 1 (.box (.t 0)),Ac 2 0]) (.seq (.seq (.reg [Ag 5 2 1,Au 6 (.call L0g [.t 5]),Am 3 6]) (.seq (.reg [Am 7 3,Ak .neq 8 7 0]) (.ite (.t 8) (.seq (.reg [Am 9 3,Am 2 9]) .ret) .skip))) (.seq (.seq (.reg [Ag 10 2 1,Au 11 (.call L20 [.t 10]),Au 12 (.un .not (.t 11))]) (.ite (.t 12) (.seq (.reg [Ac 2 12]) .ret) .skip)) (.seq (.seq (.reg [Ag 13 2 1,Au 14 (.call L0l [.t 13]),Au 15 (.un .not (.t 14))]) (.ite (.t 15) (.seq (.reg [Ac 2 13]) .ret) .skip)) (.seq (.seq (.reg [Af 16 1 1,Al 17 16,An 18 0 17,Ac 19 0]) (.blk 0 (.loop (.seq (.reg [Aj .lss 20 19 18])
 (.seq (.ite (.t 20) .skip (.exit 0)) (.seq (.blk 1 (.seq (.reg [Am 21 19,Am 4 21]) (.seq (.reg [Ag 22 2 1,Am 23 4,Au 24 (.call L2k [.t 22,.t 23])]) (.ite (.t 24) (.seq (.reg [Ac 2 1]) .ret) .skip)))) (.reg [Ad 25 19 1,Am 19 25]))))))) (.seq (.seq (.reg [Ag 26 2 1,Au 27 (.call L19 [.t 26])]) (.ite (.t 27) (.seq (.reg [Ac 2 1]) .ret) .skip)) (.seq (.reg [Ac 2 0]) .ret)))))))
def L17.r:List Rr:=[.tmp 2]
abbrev L17.n:Nat:=28
def L18.c (L1f L1b L1d L1c L1e L1a:FuncId):C :=(.seq (.reg [Au 1 (.box (.t 0)),Au 2 (.alloc [.nil,.nil]),Au 3 (.alloc [(.i .i64 0),(.i .i64 0),(.i .i64 0),(.i .i64 0),(.i .i64 0),(.i .i64 0),(.i .i64 0)]),Ac 4 0]) (.seq (.reg [Au 10 (.bso 1 7 [.any] [(0,(.c (.f L1f []))),(1,(.c (.f L1b []))),(2,(.c (.f L1f []))),(3,(.c (.f L1d []))),(4,(.c (.f L1c []))),(5,(.c (.f L1e []))),(6,(.c (.f L1a [])))]),Am 5 10]) (.seq (.reg [Ag 11 2 1,Au 12 (.build [.nil,.nil,(.i .i64 0),(.i .i64 0),(.i .i64 0),(.i .i64 0),(.i .i64 0),(.i .i64 0),(.i .i64 0)] [(0,2,(.t 11))]),Au 13 (.box (.t 12)),Am 6 13]) (.seq (.seq
 (.reg [Am 14 5,An 15 0 14,Ac 16 0]) (.blk 0 (.loop (.seq (.reg [Aj .lss 17 16 15]) (.seq (.ite (.t 17) .skip (.exit 0)) (.seq (.blk 1 (.seq (.reg [Ai 18 1 14 16,Al 19 18,Am 8 19]) (.seq (.reg [Am 20 8,Am 21 6,Au 22 (.callv (.t 20) [.t 21]),Am 9 22]) (.seq (.reg [Am 23 9,Ak .neq 24 23 0]) (.ite (.t 24) (.seq (.reg [Au 25 (.build [.nil,.nil] []),Au 26 (.build [(.i .i64 0),(.i .i64 0),(.i .i64 0),(.i .i64 0),(.i .i64 0),(.i .i64 0),(.i .i64 0)] []),Am 27 9,As 2 2 25,As 7 3 26,Am 4 27]) .ret) .skip))))) (.reg [Ad 28 16 1,Am 16 28]))))))) (.seq (.drw [Am 29 6,Au 30 (.nck (.t 29)),Af 31 0 30,Ag 32 2 31,
 Am 33 6,Au 34 (.nck (.t 33)),Af 35 2 34,Ag 36 7 35,As 2 2 32,As 7 3 36,Ac 4 0] [[],[],[],[],[],[],[],[],[5,6,7],[],[]]) .ret)))))
def L18.r:List Rr:=[.cell 2 (some 2),.cell 3 (some 7),.tmp 4]
abbrev L18.n:Nat:=37
def L19.c (L22 L0i:FuncId):C :=(.seq (.reg [Au 1 (.box (.t 0)),Ab 2 false]) (.seq (.seq (.reg [Ag 8 2 1,Au 9 (.call L22 [.t 8]),An 10 0 9,Ac 11 0]) (.blk 0 (.loop (.seq (.reg [Aj .lss 12 11 10]) (.seq (.ite (.t 12) .skip (.exit 0)) (.seq (.blk 1 (.seq (.reg [Ai 13 1 9 11,Al 14 13,Am 4 14]) (.seq (.reg [Af 15 0 1,Al 16 15,Au 17 (.build [.nil,.nil] [(0,1,(.t 16))]),Au 5 (.alloc [.nil,.nil]),As 2 5 17]) (.seq (.seq (.reg [Am 18 4,An 19 0 18,Ac 20 0]) (.blk 2 (.loop (.seq (.reg [Aj .lss 21 20 19]) (.seq (.ite (.t 21) .skip (.exit 2)) (.seq (.blk 3 (.seq (.reg [Ai 22 1 18 20,Al 23 22,Am 7 23]) (.drw [
 Af 24 1 5,Al 25 24,Af 26 1 1,Al 27 26,Am 28 7,Ai 29 3 27 28,Ag 30 3 29,Au 31 (.bsi 3 1 [(.i .i64 0),(.i .i64 0),(.i .i64 0)] [(0,(.t 30))]),Au 32 (.app 3 24 (.t 25) (.t 31)),Af 33 1 5,As 1 33 32] []))) (.reg [Ad 34 20 1,Am 20 34]))))))) (.seq (.reg [Ag 35 2 5,Au 36 (.call L0i [.t 35]),Ak .lss 37 36 0]) (.ite (.t 37) (.seq (.reg [Ab 2 true]) .ret) .skip)))))) (.reg [Ad 38 11 1,Am 11 38]))))))) (.seq (.reg [Ab 2 false]) .ret)))
def L19.r:List Rr:=[.tmp 2]
abbrev L19.n:Nat:=39
def L1a.c (L22 L17:FuncId):C :=(.seq (.reg [Ac 2 0]) (.seq (.reg [Am 3 0,Am 4 0,Au 5 (.nck (.t 4)),Af 6 0 5,Ag 7 2 6,Au 8 (.call L22 [.t 7]),An 9 0 8,Au 10 (.nck (.t 3)),Af 11 2 10,Af 12 6 11,As 1 12 9]) (.seq (.reg [Am 13 0,Au 14 (.nck (.t 13)),Af 15 0 14,Ag 16 2 15,Au 17 (.call L17 [.t 16]),Am 2 17]) .ret)))
def L1a.r:List Rr:=[.tmp 2]
abbrev L1a.n:Nat:=18
def L1b.c (L2j:FuncId):C :=(.seq (.reg [Ac 2 0]) (.seq (.reg [Am 8 0,Au 9 (.nck (.t 8)),Af 10 0 9,Ag 11 2 10,Au 12 (.call L2j [.t 11]),Am 7 12,Ax1 13 0 7,Ax1 14 1 7,Ax1 15 2 7,Ax1 16 3 7,Au 3 (.alloc [.nil,.nil]),As 2 3 13,Am 4 14,Am 5 15,Am 6 16]) (.seq (.reg [Am 17 0,Ag 18 2 3,Au 19 (.nck (.t 17)),Af 20 0 19,As 2 20 18]) (.seq (.reg [Am 21 0,Am 22 4,Au 23 (.nck (.t 21)),Af 24 2 23,Af 25 1 24,As 1 25 22]) (.seq (.reg [Am 26 0,Am 27 5,Au 28 (.nck (.t 26)),Af 29 2 28,Af 30 2 29,As 1 30 27]) (.seq (.reg [Am 31 6,Am 2 31]) .ret))))))
def L1b.r:List Rr:=[.tmp 2]
abbrev L1b.n:Nat:=32
def L1c.c (L0d:FuncId):C :=(.seq (.reg [Ac 2 0]) (.seq (.reg [Am 7 0,Au 8 (.nck (.t 7)),Af 9 0 8,Ag 10 2 9,Au 11 (.call L0d [.t 10]),Am 6 11,Ax1 12 0 6,Ax1 13 1 6,Ax1 14 2 6,Au 3 (.alloc [.nil,.nil]),As 2 3 12,Am 4 13,Am 5 14]) (.seq (.reg [Am 15 0,Ag 16 2 3,Au 17 (.nck (.t 15)),Af 18 0 17,As 2 18 16]) (.seq (.reg [Am 19 0,Am 20 4,Au 21 (.nck (.t 19)),Af 22 2 21,Af 23 4 22,As 1 23 20]) (.seq (.reg [Am 24 5,Am 2 24]) .ret)))))
def L1c.r:List Rr:=[.tmp 2]
abbrev L1c.n:Nat:=25
def L1d.c (L0m:FuncId):C :=(.seq (.reg [Ac 2 0]) (.seq (.reg [Am 7 0,Au 8 (.nck (.t 7)),Af 9 0 8,Ag 10 2 9,Au 11 (.call L0m [.t 10]),Am 6 11,Ax1 12 0 6,Ax1 13 1 6,Ax1 14 2 6,Au 3 (.alloc [.nil,.nil]),As 2 3 12,Am 4 13,Am 5 14]) (.seq (.reg [Am 15 0,Ag 16 2 3,Au 17 (.nck (.t 15)),Af 18 0 17,As 2 18 16]) (.seq (.reg [Am 19 0,Am 20 4,Au 21 (.nck (.t 19)),Af 22 2 21,Af 23 3 22,As 1 23 20]) (.seq (.reg [Am 24 5,Am 2 24]) .ret)))))
def L1d.r:List Rr:=[.tmp 2]
abbrev L1d.n:Nat:=25
def L1e.c (L0o:FuncId):C :=(.seq (.reg [Ac 2 0]) (.seq (.reg [Am 7 0,Au 8 (.nck (.t 7)),Af 9 0 8,Ag 10 2 9,Au 11 (.call L0o [.t 10]),Am 6 11,Ax1 12 0 6,Ax1 13 1 6,Ax1 14 2 6,Au 3 (.alloc [.nil,.nil]),As 2 3 12,Am 4 13,Am 5 14]) (.seq (.reg [Am 15 0,Ag 16 2 3,Au 17 (.nck (.t 15)),Af 18 0 17,As 2 18 16]) (.seq (.reg [Am 19 0,Am 20 4,Au 21 (.nck (.t 19)),Af 22 2 21,Af 23 5 22,As 1 23 20]) (.seq (.reg [Am 24 5,Am 2 24]) .ret)))))
def L1e.r:List Rr:=[.tmp 2]
abbrev L1e.n:Nat:=25
def L1f.c (L2l:FuncId):C :=(.seq (.reg [Ac 2 0]) (.seq (.reg [Am 7 0,Au 8 (.nck (.t 7)),Af 9 0 8,Ag 10 2 9,Au 11 (.call L2l [.t 10]),Am 6 11,Ax1 12 0 6,Ax1 13 1 6,Ax1 14 2 6,Au 3 (.alloc [.nil,.nil]),As 2 3 12,Am 4 13,Am 5 14]) (.seq (.reg [Am 15 0,Ag 16 2 3,Au 17 (.nck (.t 15)),Af 18 0 17,As 2 18 16]) (.seq (.reg [Am 19 0,Au 20 (.nck (.t 19)),Af 21 2 20,Af 22 0 21,Al 23 22,Am 24 4,Aj .add 25 23 24,Au 26 (.nck (.t 19)),Af 27 2 26,Af 28 0 27,As 1 28 25]) (.seq (.reg [Am 29 5,Am 2 29]) .ret)))))
def L1f.r:List Rr:=[.tmp 2]
abbrev L1f.n:Nat:=30
def Qjt (P:Program) (f:FuncId):Prop:=∀t:T3,CallIs P f [t.enc] t.rev.enc
section
variable {P:Program} (hm:P.follows .mixedOrders=true)
include hm
theorem B0 {f:FuncId} (hf:Qa P f L0s.c L0s.r L0s.n):Qjt P f:=by
 intro t
 refine PureC.is (Q8 hm hf (qh rfl) ?_) rfl
 unfold L0s.c
 simp[go_sem,T3.enc,T3.cs,T3.rev,L0s.r]
end
theorem Q2u {ts:List T3} {sh:List Int} {j:Nat} {v:Int} (h:sh[j]?=some v):Qq ts (sh.take (j+1))=Qq ts (sh.take j)++[tAt ts v.toNat]:=by
 unfold Qq;rw[Qd h,qx];rfl
theorem Wp (ts:List T3) (sh:List Int):(Qq ts sh).length=sh.length:=by simp[Qq]
section
variable {P:Program} (hm:P.follows .mixedOrders=true)
include hm
theorem Q09 {f fc fl fh fcv fct fs fv fr:FuncId} (hf:Qa P f (L0o.c fc fl fh fcv fct fs fv fr) L0o.r L0o.n) (hc:Ys P fc) (hl:Q48 P fl) (hh:Qu5 P fh) (hcv:Jj P fcv 3) (hct:Jj P fct 3) (hs:Q14 P fs) (hv:VolC P fv) (hr:Qjt P fr):Q6t P f:=by
 intro m
 by_cases hz:m.check=0
 case neg =>
  have hR:Yu m=(⟨[],[]⟩,0,m.check):=by unfold Yu;rw[if_pos hz]
  rw[hR]
  refine CallIs.res ?_ (Q0i _)
  refine PureC.is (Q8 hm hf (qh rfl) ?_) rfl
  unfold L0o.c
  simp[go_sem,Mesh.enc,Mesh.cs]
  refine Q4 (hc m) ?_
  simp[go_sem,hz,L0o.r]
 have hl1:=hl m
 by_cases hcl:m.closed=false
 case pos =>
  have hR:Yu m=(⟨[],[]⟩,0,12):=by unfold Yu;rw[if_neg (by simpa using hz),if_pos hcl]
  rw[hR]
  rw[hcl]at hl1
  refine CallIs.res ?_ (Q0i _)
  refine PureC.is (Q8 hm hf (qh rfl) ?_) rfl
  unfold L0o.c
  simp[go_sem,Mesh.enc,Mesh.cs]
  refine Q4 (hc m) ?_
  simp[go_sem,hz]
  refine Q4 hl1 ?_
  simp[go_sem,L0o.r]
 have hcl':m.closed=true:=by simpa using hcl
 obtain⟨z1,z2,z3,z4⟩:=Mesh.check_zero.1 hz
 have hh1:=hh m.tris (by omega)
 rw[hcl']at hl1
 by_cases hco:Ke m.tris=false
 case pos =>
  have hR:Yu m=(⟨[],[]⟩,0,13):=by unfold Yu;rw[if_neg (by simpa using hz),if_neg hcl,if_pos hco]
  rw[hR]
  rw[hco]at hh1
  refine CallIs.res ?_ (Q0i _)
  refine PureC.is (Q8 hm hf (qh rfl) ?_) rfl
  unfold L0o.c
  simp[go_sem,Mesh.enc,Mesh.cs]
  refine Q4 (hc m) ?_
  simp[go_sem,hz]
  refine Q4 hl1 ?_
  simp[go_sem]
  refine Q4 hh1 ?_
  simp[go_sem,L0o.r]
 have hco':Ke m.tris=true:=by simpa using hco
 rw[hco']at hh1
 have hR:Yu m=(⟨m.verts,flp m.tris (Y9 m.verts m.tris m.shells).flatten⟩,((Y9 m.verts m.tris m.shells).length:Int),0):=by unfold Yu;rw[if_neg (by simpa using hz),if_neg hcl,if_neg hco];rfl
 rw[hR]
 have hok:=Q8g hz
 have hs1:=hs m
 generalize m.shells=shs at *
 refine PureC.is (Q8 hm hf (qh rfl) ?_) rfl
 unfold L0o.c
 simp[go_sem,Mesh.enc,Mesh.cs,vsV,tsV]
 refine Q4 (hc m) ?_
 simp[go_sem,hz]
 refine Q4 hl1 ?_
 simp[go_sem]
 refine Q4 hh1 ?_
 simp[go_sem]
 refine Wd (hcv (m.verts.map V3.cs) (by simp[Kf]) (by simp;omega)) (by simp[V.cl,V.cl1,V.cl0]) ?_
 simp[go_sem]
 refine Wd (hct (m.tris.map T3.cs) (by simp[Xj]) (by simp;omega)) (by simp[V.cl,V.cl1,V.cl0]) ?_
 have hsv:∀(n:Nat) (a:V3),List.map (V.sh1 n) a.cs=a.cs:=λn a=>by simp[vcs,V.sh1,V.sh0]
 have hst:∀(n:Nat) (a:T3),List.map (V.sh1 n) a.cs=a.cs:=λn a=>by simp[tcs,V.sh1,V.sh0]
 simp[go_sem,hsv,hst]
 refine Q4 hs1 ?_
 simp[go_sem,lsV]
 refine Qf (α:=Nat) (λk=>k<=shs.length)
  (λk=>⟨[(1,.p 0 1 0 0),(2,.p 1 1 0 0),(6,.p 4 1 0 0),(7,.i .i64 (Y9 m.verts m.tris (shs.take k)).length),(41,lsV shs),(42,.i .i64 shs.length),(43,.i .i64 k)],
   [.arr 1 2 [m.cs],.arr 1 2 [[.nil,.nil]],.arr 1 3 (m.verts.map V3.cs),.arr 1 3 ((flp m.tris (Y9 m.verts m.tris (shs.take k)).flatten).map T3.cs),.arr 1 2 [[.own 2 1 0 m.verts.length,.own 3 1 0 m.tris.length]]]⟩)
  (λk=>shs.length-k) 0 (Nat.zero_le _) ?_ ?_
 ·simp[go_sem,lsV,Y9,flp_nil,Mesh.cs,vsV,tsV,U1,Zy,hsv,hst]
 ·intro k hk
  by_cases hkl:k=shs.length
  ·subst hkl
   rw[qi]
   have hfl:=Y1 m.tris (Y9 m.verts m.tris shs).flatten
   generalize flp m.tris (Y9 m.verts m.tris shs).flatten=T at *
   have htk:List.take m.tris.length (T.map T3.cs)=T.map T3.cs:=qe (by simp;omega)
   simp[go_sem,lsV,L0o.r,Q7t,Mesh.enc,Mesh.cs,vsV,tsV,Kf,Xj,htk,hfl]
  ·have hlt:k<shs.length:=by omega
   have hp:shs[k]?=some shs[k]:=q9 hlt
   have hmw:shs[k]∈shs:=List.getElem_mem _
   have htk:=Qd hp
   generalize shs[k]=sh at hp hmw htk
   obtain⟨_,hp'⟩:=q8.1 hp
   have hshl:=hok.len sh hmw
   have hshm:=hok.mem sh hmw
   have hnl:=Qgi m.verts m.tris (shs.take k)
   have hnl2:(shs.take k).length=k:=by rw[qw];omega
   have hnum:=hok.num
   have hsn:=Qdi m.verts m.tris (shs.take k) sh
   rw[<- htk]at hsn
   generalize hN:Y9 m.verts m.tris (shs.take k)=N at *
   have hfl:=Y1 m.tris N.flatten
   simp[go_sem,lsV,hlt,hp,hp',Mesh.cs,vsV,tsV,isV]
   have hmcs:m.cs=[vsV m.verts,.l 3 (m.tris.map T3.cs)]:=rfl
   refine Z5 [.c 5 0 1 3] (α:=Nat) (λj=>j<=sh.length)
    (λj=>⟨[(1,.p 0 1 0 0),(2,.p 1 1 0 0),(6,.p 4 1 0 0),(7,.i .i64 N.length),(9,isV sh),(10,.p 5 1 0 0),(41,lsV shs),(42,.i .i64 shs.length),(43,.i .i64 k),(50,isV sh),(51,.i .i64 sh.length),(52,.i .i64 j)],
     [.arr 1 2 [m.cs],.arr 1 2 [[.nil,.nil]],.arr 1 3 (m.verts.map V3.cs),.arr 1 3 ((flp m.tris N.flatten).map T3.cs),.arr 1 2 [[.own 2 1 0 m.verts.length,.own 3 1 0 m.tris.length]],
      .arr 1 2 [[vsV m.verts,.own 6 (j+1) 0 j]],.arr (j+1) 3 ((Qq m.tris (sh.take j)).map T3.cs)]⟩)
    (λj=>sh.length-j) 0 (Nat.zero_le _) ?_ ?_
   ·simp[go_sem,lsV,isV,Qq,Mesh.cs,vsV,tsV,U1,Zy]
   ·intro j hj
    by_cases hjl:j=sh.length
    ·subst hjl
     rw[qi]
     have hpl:=Wp m.tris sh
     have hvol:=hv ⟨m.verts,Qq m.tris sh⟩
     have hve:(Mesh.mk m.verts (Qq m.tris sh)).vol6=Y5 m.verts (Qq m.tris sh):=by unfold Mesh.vol6;rw[if_pos (Q5a hz hshl hshm)]
     rw[hve]at hvol
     generalize Qq m.tris sh=PT at *
     have htkp:List.take sh.length (PT.map T3.cs)=PT.map T3.cs:=qe (by simp;omega)
     simp[go_sem,lsV,isV]
     refine Jv (vs:=[(Mesh.mk m.verts PT).enc]) ?_ hvol ?_
     ·simp[go_sem,X8,frz,Ji,Mesh.enc,Mesh.cs,vsV,tsV,Xj,htkp,hpl]
     ·by_cases hneg:Y5 m.verts PT<0
      ·rw[if_pos hneg]at hsn
       simp (disch:=omega) [go_sem,vsV,tsV,show ¬ (0<=Y5 m.verts PT) by omega,Q3]
       refine Qf (α:=Nat) (λj=>j<=sh.length)
        (λj=>⟨[(1,.p 0 1 0 0),(2,.p 1 1 0 0),(6,.p 4 1 0 0),(7,.i .i64 (N.length+1:Nat)),(41,lsV shs),(42,.i .i64 shs.length),(43,.i .i64 k),(72,isV sh),(73,.i .i64 sh.length),(74,.i .i64 j)],
         [.arr 1 2 [m.cs],.arr 1 2 [[.nil,.nil]],.arr 1 3 (m.verts.map V3.cs),.arr 1 3 ((flp m.tris (N.flatten++sh.take j)).map T3.cs),.arr 1 2 [[.own 2 1 0 m.verts.length,.own 3 1 0 m.tris.length]]]⟩)
        (λj=>sh.length-j) 0 (Nat.zero_le _) ?_ ?_
       ·simp[go_sem,lsV,isV,Mesh.cs,vsV,tsV,U1,Zy]
       ·intro j hj
        by_cases hjl:j=sh.length
        ·subst hjl
         rw[qi]
         simp (disch:=omega) [go_sem,lsV,isV,Q3]
         refine⟨k+1,by omega,by omega,?_⟩
         rw[hsn]
         simp[go_sem,Mesh.cs,vsV,tsV,U1,Zy]
        ·have hjlt:j<sh.length:=by omega
         have hq:sh[j]?=some sh[j]:=q9 hjlt
         have hqm:sh[j]∈sh:=List.getElem_mem _
         have htj:=Qd hq
         generalize sh[j]=v at hq hqm htj
         obtain⟨_,hq'⟩:=q8.1 hq
         obtain⟨v0,v1⟩:=hshm v hqm
         have v2:v.toNat<m.tris.length:=by omega
         have ht:=Qr v2
         have hset:=flp_set (ts:=m.tris) (F:=N.flatten++sh.take j) v2
         rw[Int.toNat_of_nonneg v0,j3,<- htj]at hset
         have hfl2:=Y1 m.tris (N.flatten++sh.take j)
         generalize tAt m.tris v.toNat=t at ht hset
         obtain⟨_,ht'⟩:=q8.1 ht
         generalize hF:flp m.tris (N.flatten++sh.take j)=FT at *
         have hFi:v.toNat<FT.length:=by omega
         have hFg:FT[v.toNat]?=some FT[v.toNat]:=q9 hFi
         generalize FT[v.toNat]=t2 at hFg
         obtain⟨_,hFg'⟩:=q8.1 hFg
         have hr1:=hr t
         simp[go_sem,T3.enc,tcs]at hr1
         simp (disch:=omega) [go_sem,lsV,isV,Mesh.cs,vsV,tsV,hjlt,hq,hq',v0,v1,v2,ht,ht',hFi,hFg,hFg',tcs,Q3]
         refine Qp hr1 ?_
         simp (disch:=omega) [go_sem,lsV,isV,Mesh.cs,vsV,tsV,hjlt,hq,hq',v0,v1,v2,ht,ht',hFi,hFg,hFg',tcs,Q3]
         refine⟨j+1,by omega,by omega,?_⟩
         exact⟨by omega,by rw[<- hset,List.map_set];rfl⟩
      ·rw[if_neg hneg,List.append_nil]at hsn
       simp (disch:=omega) [go_sem,vsV,tsV,show 0<=Y5 m.verts PT by omega,Q3]
       refine⟨k+1,by omega,by omega,?_⟩
       rw[hsn]
       simp[go_sem,lsV,Mesh.cs,vsV,tsV,U1,Zy]
    ·have hjlt:j<sh.length:=by omega
     have hq:sh[j]?=some sh[j]:=q9 hjlt
     have hqm:sh[j]∈sh:=List.getElem_mem _
     have hpj:=λv (h:sh[j]?=some v)=>Q2u (ts:=m.tris) h
     generalize sh[j]=v at hq hqm
     have hpj:=hpj v hq
     obtain⟨_,hq'⟩:=q8.1 hq
     obtain⟨v0,v1⟩:=hshm v hqm
     have v2:v.toNat<m.tris.length:=by omega
     have ht:=Qr v2
     have hpl:=Wp m.tris (sh.take j)
     rw[qw,Nat.min_eq_left (by omega)]at hpl
     generalize tAt m.tris v.toNat=t at ht hpj
     obtain⟨_,ht'⟩:=q8.1 ht
     generalize hPT:Qq m.tris (sh.take j)=PT at *
     have htkp:List.take j (PT.map T3.cs)=PT.map T3.cs:=qe (by simp;omega)
     simp (disch:=omega) [go_sem,lsV,isV,Mesh.cs,vsV,tsV,hjlt,hq,hq',v0,v1,v2,ht,ht',tcs,htkp,hpl,Q3]
     refine⟨⟨by omega,by omega⟩,j+1,by omega,by omega,?_⟩
     rw[hpj]
     exact⟨by omega,rfl,by rw[qx];rfl⟩
end
def InvC (P:Program) (f:FuncId):Prop:=∀m:Mesh,m.check=0->CallIs P f [m.enc] (.b m.inv)
def ChkC (P:Program) (f:FuncId):Prop:=∀m:Mesh,CallIs P f [m.enc] (.i .i64 (W9 m))
def NoneTo {α:Type} (p:α->Bool) (l:List α) (k:Nat):Prop:=(l.take k).any p=false
theorem NoneTo.zero {α:Type} (p:α->Bool) (l:List α):NoneTo p l 0:=by simp[NoneTo]
theorem NoneTo.all {α:Type} {p:α->Bool} {l:List α} (h:NoneTo p l l.length):l.any p=false:=by unfold NoneTo at h;rwa [qi]at h
theorem Qco {α:Type} (p:α->Bool) {l:List α} {k:Nat} {a:α} (h:l[k]?=some a) (hn:NoneTo p l k) (ha:p a=false):NoneTo p l (k+1):=by
 unfold NoneTo at *
 rw[Qd h,List.any_append,hn];simp[ha]
theorem Qjq {α:Type} (p:α->Bool) {l:List α} {k:Nat} {a:α} (h:l[k]?=some a) (ha:p a=true):l.any p=true :=
 List.any_eq_true.2 ⟨a,qb h,ha⟩
theorem degI_at {m:Mesh} (hz:m.check=0) {k:Nat} {t:T3} (h:m.tris[k]?=some t):m.degI (k:Int)=m.deg t:=by
 have hl:=(q8.1 h).1
 unfold Mesh.degI
 rw[if_pos ⟨by omega,by omega,hz⟩,Int.toNat_natCast,h]
theorem chkR_1 {m:Mesh} (h:m.check≠0):W9 m=m.check:=by unfold W9;rw[if_pos h]
theorem chkR_2 {m:Mesh} (h:m.check=0) (h2:m.closed=false):W9 m=12:=by unfold W9;rw[if_neg (by simpa using h),if_pos h2]
theorem chkR_3 {m:Mesh} (h:m.check=0) (h2:m.closed=true) (h3:Ke m.tris=false):W9 m=13:=by unfold W9;rw[if_neg (by simpa using h),if_neg (by rw[h2];simp),if_pos h3]
theorem chkR_4 {m:Mesh} (h:m.check=0) (h2:m.closed=true) (h3:Ke m.tris=true):W9 m=if m.tris.any m.deg=true then 1 else if m.inv=true then 1 else 0:=by
 unfold W9;rw[if_neg (by simpa using h),if_neg (by rw[h2];simp),if_neg (by rw[h3];simp)]
theorem Qs9 {m:Mesh} (h:m.check=0):m.coh=Ke m.tris:=by unfold Mesh.coh;rw[h];simp
section
variable {P:Program} (hm:P.follows .mixedOrders=true)
include hm
theorem Ix {f fs fv:FuncId} (hf:Qa P f (L19.c fs fv) L19.r L19.n) (hs:Q14 P fs) (hv:VolC P fv):InvC P f:=by
 intro m hz
 obtain⟨z1,z2,z3,z4⟩:=Mesh.check_zero.1 hz
 have hok:=Q8g hz
 have hs1:=hs m
 unfold Mesh.inv
 generalize m.shells=shs at *
 generalize hp:(λsh=>decide (Y5 m.verts (Qq m.tris sh)<0))=p
 generalize hB:shs.any p=B
 refine PureC.is (Q8 hm hf (qh rfl) ?_) rfl
 unfold L19.c
 simp[go_sem,Mesh.enc,Mesh.cs,vsV,tsV]
 refine Q4 hs1 ?_
 simp[go_sem,lsV]
 have hsv:∀(n:Nat) (a:V3),List.map (V.sh1 n) a.cs=a.cs:=λn a=>by simp[vcs,V.sh1,V.sh0]
 have hst:∀(n:Nat) (a:T3),List.map (V.sh1 n) a.cs=a.cs:=λn a=>by simp[tcs,V.sh1,V.sh0]
 refine Qf (α:=Nat) (λk=>k<=shs.length/\NoneTo p shs k)
  (λk=>⟨[(1,.p 0 1 0 0),(9,lsV shs),(10,.i .i64 shs.length),(11,.i .i64 k)],
   [.arr 1 2 [m.cs]]⟩)
  (λk=>shs.length-k) 0 ⟨Nat.zero_le _,NoneTo.zero _ _⟩ ?_ ?_
 ·simp[go_sem,lsV,Mesh.cs,vsV,tsV,U1,Zy,hsv,hst]
 ·rintro k ⟨hk,hno⟩
  by_cases hkl:k=shs.length
  ·subst hkl
   obtain rfl:=hB.symm.trans hno.all
   simp[go_sem,lsV,L19.r]
  ·have hlt:k<shs.length:=by omega
   have hnum:=hok.num
   have hq:shs[k]?=some shs[k]:=q9 hlt
   have hmw:shs[k]∈shs:=List.getElem_mem _
   generalize shs[k]=sh at hq hmw
   obtain⟨_,hq'⟩:=q8.1 hq
   have hshl:=hok.len sh hmw
   have hshm:=hok.mem sh hmw
   simp[go_sem,lsV,hlt,hq,hq',Mesh.cs,vsV,tsV,isV]
   refine Z5 [.c 1 0 1 3] (α:=Nat) (λj=>j<=sh.length)
    (λj=>⟨[(1,.p 0 1 0 0),(4,isV sh),(5,.p 1 1 0 0),(9,lsV shs),(10,.i .i64 shs.length),(11,.i .i64 k),(18,isV sh),(19,.i .i64 sh.length),(20,.i .i64 j)],
     [.arr 1 2 [m.cs],.arr 1 2 [[vsV m.verts,.own 2 (j+1) 0 j]],.arr (j+1) 3 ((Qq m.tris (sh.take j)).map T3.cs)]⟩)
    (λj=>sh.length-j) 0 (Nat.zero_le _) ?_ ?_
   ·simp[go_sem,lsV,isV,Qq,Mesh.cs,vsV,tsV,U1,Zy]
   ·intro j hj
    by_cases hjl:j=sh.length
    ·subst hjl
     rw[qi]
     have hpl:=Wp m.tris sh
     have hvol:=hv ⟨m.verts,Qq m.tris sh⟩
     have hve:(Mesh.mk m.verts (Qq m.tris sh)).vol6=Y5 m.verts (Qq m.tris sh):=by unfold Mesh.vol6;rw[if_pos (Q5a hz hshl hshm)]
     rw[hve]at hvol
     have hps:p sh=decide (Y5 m.verts (Qq m.tris sh)<0):=by rw[<- hp]
     generalize Qq m.tris sh=PT at *
     have htkp:List.take sh.length (PT.map T3.cs)=PT.map T3.cs:=qe (by simp;omega)
     simp[go_sem,lsV,isV]
     refine Jv (vs:=[(Mesh.mk m.verts PT).enc]) ?_ hvol ?_
     ·simp[go_sem,X8,frz,Ji,Mesh.enc,Mesh.cs,vsV,tsV,Xj,htkp,hpl]
     ·by_cases hneg:Y5 m.verts PT<0
      ·have ha:shs.any p=true:=Qjq p hq (by rw[hps];simpa using hneg)
       obtain rfl:=hB.symm.trans ha
       simp (disch:=omega) [go_sem,vsV,tsV,hneg,L19.r]
      ·have ha:=Qco p hq hno (by rw[hps];simpa using hneg)
       simp (disch:=omega) [go_sem,vsV,tsV,hneg,Q3]
       refine⟨k+1,⟨by omega,ha⟩,by omega,?_⟩
       simp (disch:=omega) [go_sem,lsV,Mesh.cs,vsV,tsV,U1,Zy,Q3]
    ·have hjlt:j<sh.length:=by omega
     have hq2:sh[j]?=some sh[j]:=q9 hjlt
     have hqm:sh[j]∈sh:=List.getElem_mem _
     have hpj:=λv (h:sh[j]?=some v)=>Q2u (ts:=m.tris) h
     generalize sh[j]=v at hq2 hqm
     have hpj:=hpj v hq2
     obtain⟨_,hq2'⟩:=q8.1 hq2
     obtain⟨v0,v1⟩:=hshm v hqm
     have v2:v.toNat<m.tris.length:=by omega
     have ht:=Qr v2
     have hpl:=Wp m.tris (sh.take j)
     rw[qw,Nat.min_eq_left (by omega)]at hpl
     generalize tAt m.tris v.toNat=t at ht hpj
     obtain⟨_,ht'⟩:=q8.1 ht
     generalize hPT:Qq m.tris (sh.take j)=PT at *
     have htkp:List.take j (PT.map T3.cs)=PT.map T3.cs:=qe (by simp;omega)
     simp (disch:=omega) [go_sem,lsV,isV,Mesh.cs,vsV,tsV,hjlt,hq2,hq2',v0,v1,v2,ht,ht',tcs,htkp,hpl,Q3]
     refine⟨⟨by omega,by omega⟩,j+1,by omega,by omega,?_⟩
     rw[hpj]
     exact⟨by omega,rfl,by rw[qx];rfl⟩
theorem Q36 {f fc fl fh fd fi:FuncId} (hf:Qa P f (L17.c fc fl fh fd fi) L17.r L17.n) (hc:Ys P fc) (hl:Q48 P fl) (hh:Q2q P fh) (hd:DegC P fd) (hi:InvC P fi):ChkC P f:=by
 intro m
 have hl1:=hl m
 have hh1:=hh m
 by_cases hz:m.check=0
 case neg =>
  rw[chkR_1 hz]
  refine PureC.is (Q8 hm hf (qh rfl) ?_) rfl
  unfold L17.c
  simp[go_sem,Mesh.enc,Mesh.cs]
  refine Q4 (hc m) ?_
  simp[go_sem,hz,L17.r]
 obtain⟨z1,z2,z3,z4⟩:=Mesh.check_zero.1 hz
 rw[Qs9 hz]at hh1
 by_cases hcl:m.closed=false
 case pos =>
  rw[chkR_2 hz hcl]
  rw[hcl]at hl1
  refine PureC.is (Q8 hm hf (qh rfl) ?_) rfl
  unfold L17.c
  simp[go_sem,Mesh.enc,Mesh.cs]
  refine Q4 (hc m) ?_
  simp[go_sem,hz]
  refine Q4 hl1 ?_
  simp[go_sem,L17.r]
 have hcl':m.closed=true:=by simpa using hcl
 rw[hcl']at hl1
 by_cases hco:Ke m.tris=false
 case pos =>
  rw[chkR_3 hz hcl' hco]
  rw[hco]at hh1
  refine PureC.is (Q8 hm hf (qh rfl) ?_) rfl
  unfold L17.c
  simp[go_sem,Mesh.enc,Mesh.cs]
  refine Q4 (hc m) ?_
  simp[go_sem,hz]
  refine Q4 hl1 ?_
  simp[go_sem]
  refine Q4 hh1 ?_
  simp[go_sem,L17.r]
 have hco':Ke m.tris=true:=by simpa using hco
 rw[hco']at hh1
 rw[chkR_4 hz hcl' hco']
 generalize hA:m.tris.any m.deg=A
 refine PureC.is (Q8 hm hf (qh rfl) ?_) rfl
 unfold L17.c
 simp[go_sem,Mesh.enc,Mesh.cs,vsV,tsV]
 refine Q4 (hc m) ?_
 simp[go_sem,hz]
 refine Q4 hl1 ?_
 simp[go_sem]
 refine Q4 hh1 ?_
 have hsv:∀(n:Nat) (a:V3),List.map (V.sh1 n) a.cs=a.cs:=λn a=>by simp[vcs,V.sh1,V.sh0]
 have hst:∀(n:Nat) (a:T3),List.map (V.sh1 n) a.cs=a.cs:=λn a=>by simp[tcs,V.sh1,V.sh0]
 simp[go_sem]
 refine Qf (α:=Nat) (λk=>k<=m.tris.length/\NoneTo m.deg m.tris k)
  (λk=>⟨[(1,.p 0 1 0 0),(18,.i .i64 m.tris.length),(19,.i .i64 k)],[.arr 1 2 [m.cs]]⟩)
  (λk=>m.tris.length-k) 0 ⟨Nat.zero_le _,NoneTo.zero _ _⟩ ?_ ?_
 ·simp[go_sem,Mesh.cs,vsV,tsV,U1,Zy,hsv,hst]
 ·rintro k ⟨hk,hno⟩
  by_cases hkl:k=m.tris.length
  ·subst hkl
   obtain rfl:=hA.symm.trans hno.all
   have hi1:=hi m hz
   simp[go_sem,Mesh.cs,vsV,tsV]
   refine Q4 hi1 ?_
   cases hin:m.inv<;>simp[go_sem,L17.r]
  ·have hlt:k<m.tris.length:=by omega
   have hq:=Qr hlt
   have hdk:=hd m (k:Int)
   rw[degI_at hz hq]at hdk
   simp[go_sem,hlt,Mesh.cs,vsV,tsV]
   refine Q4 hdk ?_
   cases hdg:m.deg (tAt m.tris k) with
   | true =>
     have ha:m.tris.any m.deg=true:=Qjq _ hq hdg
     obtain rfl:=hA.symm.trans ha
     simp[go_sem,L17.r]
   | false =>
     have ha:=Qco _ hq hno hdg
     simp (disch:=omega) [go_sem,Q3]
     refine⟨k+1,⟨by omega,ha⟩,by omega,?_⟩
     simp[go_sem,Mesh.cs,vsV,tsV,U1,Zy]
end
theorem Q8s {α β γ:Type} {f:β->Option γ} {g:α->β} {k:α->γ}:∀{l:List α},(∀a∈l,f (g a)=some (k a))->(l.map g).mapM f=some (l.map k)
 | [],_=>rfl
 | a::l,h=>by
   have ih:=Q8s (f:=f) (g:=g) (k:=k) (l:=l) λb hb=>h b (by simp[hb])
   simp only[List.map_cons,List.mapM_cons,h a (by simp),ih]
   rfl
def rcE (x y w:Int) (j:Nat):List V:=[.i .i64 (y+j),.own (3+j) 1 0 1]
def rcO (x w:Int):O:=.arr 1 2 [[.i .i64 x,.i .i64 (x+w)]]
theorem rcE_cl (x y w:Int) {i n:Nat} (h:i+3<=n):∀el∈(List.range i).map (rcE x y w),∀c∈el,c.cl n=true:=λel hel c hc=>by
 obtain⟨j,hj,rfl⟩:=qp.1 hel
 have:=qz.1 hj
 simp[rcE]at hc
 rcases hc with rfl | rfl
 ·rfl
 ·simp[V.cl,V.cl1,V.cl0];omega
theorem Qp9 (x w:Int):∀(i n:Nat) (l:List O),WeakH n (List.replicate i (rcO x w)++l) (List.replicate i (rcO x w))
 | 0,n,l=>by simp[WeakH]
 | i+1,n,l=>by
   rw[List.replicate_succ]
   exact⟨.inr ⟨rfl,by simp[rcO,O.cl,V.cl,V.cl1,V.cl0]⟩,Qp9 x w i n l⟩
def Q17 (P:Program) (f:FuncId):Prop:=CallIs P f [rgV []] (.i .i64 0)
section
variable {P:Program} (hm:P.follows .mixedOrders=true)
include hm
theorem Q53 {f fv:FuncId} (hf:Qa P f (L13.c fv) L13.r L13.n) (hv:Q15 P fv):Q17 P f:=by
 have c1:=hv [] RgV.nil (λy x h=>by simp[Q3s]at h)
 unfold rgV at c1
 refine PureC.is (Q8 hm hf (qh rfl) ?_) rfl
 unfold L13.c
 simp[go_sem,rgV]
 refine Q4 c1 ?_
 simp[go_sem]
 refine Qf (α:=Unit) (λ_=>True)
  (λ_=>⟨[(1,.p 0 1 0 0),(3,.i .i64 0),(4,.i .i64 0)],[.arr 1 1 [[.l 2 []]]]⟩)
  (λ_=>0) () trivial ?_ ?_
 ·simp[go_sem]
 intro _ _
 simp[go_sem,L13.r]
end
theorem rectR_b {x y w d:Int} (hx:-4096<=x/\x+w<=4096) (hy:-4096<=y/\y+d<=4096):RgB (Uk x y w d):=λb a hba=>by
 have:=in_rectR.1 hba
 omega
end Go.Abs
