/- Part of the library on which the proof stands: an abstract machine, its values and its soundness against the model; or what functions of the program do to such values. -/
import Derived.Test.YtnaehggpjfdenaaGreatGoUnF
set_option linter.unusedVariables false
set_option linter.unusedSimpArgs false
set_option maxHeartbeats 16000000
set_option maxRecDepth 20000
namespace Go.Abs
def L14.b (L10:FuncId):C :=
    (.seq
     (.seq
      (.reg [
       ⟨some 23,none,.mv (.t 8)⟩,
       ⟨some 24,none,.fa 0 (.t 4)⟩,
       ⟨some 25,none,.ld none (.t 24)⟩,
       ⟨some 26,none,.len 0 (.t 25)⟩,
       ⟨some 27,none,.bin .lss (.t 23) (.t 26)⟩,
       ⟨some 28,none,.mv (.t 27)⟩,
       ⟨some 29,(some (28,false)),.mv (.t 9)⟩,
       ⟨some 30,(some (28,false)),.fa 0 (.t 5)⟩,
       ⟨some 31,(some (28,false)),.ld none (.t 30)⟩,
       ⟨some 32,(some (28,false)),.len 0 (.t 31)⟩,
       ⟨some 33,(some (28,false)),.bin .lss (.t 29) (.t 32)⟩,
       ⟨some 34,none,.pick (.t 28) (.c (.b true)) (.t 33)⟩])
      (.ite (.t 34)
       .skip
       (.exit 0)))
     (.blk 1
      (.seq
       (.reg [
        ⟨some 10,none,.mv (.c (.i .i64 0))⟩])
       (.seq
        (.reg [
         ⟨some 11,none,.mv (.c .nil)⟩,
         ⟨some 12,none,.mv (.c .nil)⟩])
        (.seq
         (.seq
          (.drw [
           ⟨some 35,none,.mv (.t 9)⟩,
           ⟨some 36,none,.fa 0 (.t 5)⟩,
           ⟨some 37,none,.ld none (.t 36)⟩,
           ⟨some 38,none,.len 0 (.t 37)⟩,
           ⟨some 39,none,.bin .eql (.t 35) (.t 38)⟩,
           ⟨some 40,none,.mv (.t 39)⟩,
           ⟨some 41,(some (40,false)),.mv (.t 8)⟩,
           ⟨some 42,(some (40,false)),.fa 0 (.t 4)⟩,
           ⟨some 43,(some (40,false)),.ld none (.t 42)⟩,
           ⟨some 44,(some (40,false)),.len 0 (.t 43)⟩,
           ⟨some 45,(some (40,false)),.bin .lss (.t 41) (.t 44)⟩,
           ⟨some 46,(some (40,false)),.mv (.t 45)⟩,
           ⟨some 47,(some (46,true)),.fa 0 (.t 4)⟩,
           ⟨some 48,(some (46,true)),.ld none (.t 47)⟩,
           ⟨some 49,(some (46,true)),.mv (.t 8)⟩,
           ⟨some 50,(some (46,true)),.ia 2 (.t 48) (.t 49)⟩,
           ⟨some 51,(some (46,true)),.fa 0 (.t 50)⟩,
           ⟨some 52,(some (46,true)),.ld none (.t 51)⟩,
           ⟨some 53,(some (46,true)),.fa 0 (.t 5)⟩,
           ⟨some 54,(some (46,true)),.ld none (.t 53)⟩,
           ⟨some 55,(some (46,true)),.mv (.t 9)⟩,
           ⟨some 56,(some (46,true)),.ia 2 (.t 54) (.t 55)⟩,
           ⟨some 57,(some (46,true)),.fa 0 (.t 56)⟩,
           ⟨some 58,(some (46,true)),.ld none (.t 57)⟩,
           ⟨some 59,(some (46,true)),.bin .leq (.t 52) (.t 58)⟩,
           ⟨some 60,(some (40,false)),.pick (.t 46) (.t 59) (.c (.b false))⟩,
           ⟨some 61,none,.pick (.t 40) (.c (.b true)) (.t 60)⟩] [])
          (.ite (.t 61)
           (.reg [
            ⟨some 62,none,.fa 0 (.t 4)⟩,
            ⟨some 63,none,.ld none (.t 62)⟩,
            ⟨some 64,none,.mv (.t 8)⟩,
            ⟨some 65,none,.ia 2 (.t 63) (.t 64)⟩,
            ⟨some 66,none,.fa 0 (.t 65)⟩,
            ⟨some 67,none,.ld none (.t 66)⟩,
            ⟨some 10,none,.mv (.t 67)⟩])
           (.reg [
            ⟨some 68,none,.fa 0 (.t 5)⟩,
            ⟨some 69,none,.ld none (.t 68)⟩,
            ⟨some 70,none,.mv (.t 9)⟩,
            ⟨some 71,none,.ia 2 (.t 69) (.t 70)⟩,
            ⟨some 72,none,.fa 0 (.t 71)⟩,
            ⟨some 73,none,.ld none (.t 72)⟩,
            ⟨some 10,none,.mv (.t 73)⟩])))
         (.seq
          (.seq
           (.reg [
            ⟨some 74,none,.mv (.t 8)⟩,
            ⟨some 75,none,.fa 0 (.t 4)⟩,
            ⟨some 76,none,.ld none (.t 75)⟩,
            ⟨some 77,none,.len 0 (.t 76)⟩,
            ⟨some 78,none,.bin .lss (.t 74) (.t 77)⟩,
            ⟨some 79,none,.mv (.t 78)⟩,
            ⟨some 80,(some (79,true)),.fa 0 (.t 4)⟩,
            ⟨some 81,(some (79,true)),.ld none (.t 80)⟩,
            ⟨some 82,(some (79,true)),.mv (.t 8)⟩,
            ⟨some 83,(some (79,true)),.ia 2 (.t 81) (.t 82)⟩,
            ⟨some 84,(some (79,true)),.fa 0 (.t 83)⟩,
            ⟨some 85,(some (79,true)),.ld none (.t 84)⟩,
            ⟨some 86,(some (79,true)),.mv (.t 10)⟩,
            ⟨some 87,(some (79,true)),.bin .eql (.t 85) (.t 86)⟩,
            ⟨some 88,none,.pick (.t 79) (.t 87) (.c (.b false))⟩])
           (.ite (.t 88)
            (.seq
             (.reg [
              ⟨some 89,none,.fa 0 (.t 4)⟩,
              ⟨some 90,none,.ld none (.t 89)⟩,
              ⟨some 91,none,.mv (.t 8)⟩,
              ⟨some 92,none,.ia 2 (.t 90) (.t 91)⟩,
              ⟨some 93,none,.fa 1 (.t 92)⟩,
              ⟨some 94,none,.ld none (.t 93)⟩,
              ⟨some 11,none,.mv (.t 94)⟩])
             (.reg [
              ⟨some 95,none,.mv (.t 8)⟩,
              ⟨some 96,none,.bin .add (.t 95) (.c (.i .i64 1))⟩,
              ⟨some 8,none,.mv (.t 96)⟩]))
            .skip))
          (.seq
           (.seq
            (.reg [
             ⟨some 97,none,.mv (.t 9)⟩,
             ⟨some 98,none,.fa 0 (.t 5)⟩,
             ⟨some 99,none,.ld none (.t 98)⟩,
             ⟨some 100,none,.len 0 (.t 99)⟩,
             ⟨some 101,none,.bin .lss (.t 97) (.t 100)⟩,
             ⟨some 102,none,.mv (.t 101)⟩,
             ⟨some 103,(some (102,true)),.fa 0 (.t 5)⟩,
             ⟨some 104,(some (102,true)),.ld none (.t 103)⟩,
             ⟨some 105,(some (102,true)),.mv (.t 9)⟩,
             ⟨some 106,(some (102,true)),.ia 2 (.t 104) (.t 105)⟩,
             ⟨some 107,(some (102,true)),.fa 0 (.t 106)⟩,
             ⟨some 108,(some (102,true)),.ld none (.t 107)⟩,
             ⟨some 109,(some (102,true)),.mv (.t 10)⟩,
             ⟨some 110,(some (102,true)),.bin .eql (.t 108) (.t 109)⟩,
             ⟨some 111,none,.pick (.t 102) (.t 110) (.c (.b false))⟩])
            (.ite (.t 111)
             (.seq
              (.reg [
               ⟨some 112,none,.fa 0 (.t 5)⟩,
               ⟨some 113,none,.ld none (.t 112)⟩,
               ⟨some 114,none,.mv (.t 9)⟩,
               ⟨some 115,none,.ia 2 (.t 113) (.t 114)⟩,
               ⟨some 116,none,.fa 1 (.t 115)⟩,
               ⟨some 117,none,.ld none (.t 116)⟩,
               ⟨some 12,none,.mv (.t 117)⟩])
              (.reg [
               ⟨some 118,none,.mv (.t 9)⟩,
               ⟨some 119,none,.bin .add (.t 118) (.c (.i .i64 1))⟩,
               ⟨some 9,none,.mv (.t 119)⟩]))
             .skip))
           (.seq
            (.reg [
             ⟨some 120,none,.mv (.t 0)⟩,
             ⟨some 121,none,.mv (.t 11)⟩,
             ⟨some 122,none,.mv (.t 12)⟩,
             ⟨some 123,none,.call L10 [.t 120,.t 121,.t 122]⟩,
             ⟨some 13,none,.mv (.t 123)⟩])
            (.seq
             (.reg [
              ⟨some 124,none,.mv (.t 13)⟩,
              ⟨some 125,none,.len 0 (.t 124)⟩,
              ⟨some 126,none,.bin .gtr (.t 125) (.c (.i .i64 0))⟩])
             (.ite (.t 126)
              (.reg [
               ⟨some 127,none,.fa 0 (.t 7)⟩,
               ⟨some 128,none,.ld none (.t 127)⟩,
               ⟨some 129,none,.mv (.t 10)⟩,
               ⟨some 130,none,.mv (.t 13)⟩,
               ⟨some 131,none,.build [(.i .i64 0),.nil] [(0,1,(.t 129)),(1,1,(.t 130))]⟩,
               ⟨some 132,none,.bso 2 1 [(.i .i64 0),.nil] [(0,(.t 131))]⟩,
               ⟨some 133,none,.app 2 32 (.t 128) (.t 132)⟩,
               ⟨some 134,none,.fa 0 (.t 7)⟩,
               ⟨none,none,.st 1 (.t 134) (.t 133)⟩])
              .skip))))))))))
def opS (op:Int) (a b:List Rw) (p:Nat × Nat × Int × List Rw × Nat):St :=
 ⟨[(0,.i .i64 op),(4,.p 0 1 0 0),(5,.p 1 1 0 0),(6,.p 2 1 0 0),(7,.p 3 1 0 0),(8,.i .i64 p.1),(9,.i .i64 p.2.1)],[.arr 1 1 [[rwL a]],.arr 1 1 [[rwL b]],.arr 1 1 [[.nil]],.arr 1 1 [[.own 4 (p.2.2.2.2+1) 0 p.2.2.2.1.length]],.arr (p.2.2.2.2+1) 2 (p.2.2.2.1.map Rw.cs)]⟩
def Q1i (op:Int) (a b:List Rw) (p:Nat × Nat × Int × List Rw × Nat):Prop:=OpI op a b p.1 p.2.1 p.2.2.1 p.2.2.2.1
def Qev (a b:List Rw) (p:Nat × Nat × Int × List Rw × Nat):Nat:=a.length+b.length-p.1-p.2.1
def Qdo (P:Program) (fc:FuncId) (op:Int) (a b:List Rw) (x:Nat × Nat × Int × List Rw × Nat):Prop:=∀κ,AS P 0 (L14.b fc) (opS op a b x) (Lk 0 (Q1i op a b) (opS op a b) (Qev a b) x κ)
theorem Qni {P:Program} {fc:FuncId} {op:Int} {a b:List Rw} {i k:Nat} {Y:Int} {out:List Rw} {g:Nat} (hal:a.length<=8192) (hbl:b.length<=8192) (hil:i<=a.length) (hkl:k<=b.length) (hol:out.length<=i+k) {w:Rw} (h1:i<a.length) (h2:k=b.length) (hq:a[i]?=some w)
  {R:List Rn} (hR:CallIs P fc [.i .i64 op,Qb w.rs,.nil] (Qb R)) (hst:OpI op a b (i+1) (k) w.y (if R=[] then out else out++[⟨w.y,R⟩])):Qdo P fc op a b (i,k,Y,out,g):=by
 intro κ
 unfold L14.b opS Q1i Qev
 simp only[]
 obtain⟨_,hq'⟩:=q8.1 hq
 simp (maxSteps:=2000000) (disch:=omega) [go_sem,rwL,h1,h2,hq,hq',Rw.cs,Q0]
 refine Q4 hR ?_
 have htk:List.take out.length (out.map Rw.cs)=out.map Rw.cs:=qe (by simp)
 by_cases hR0:R=[]
 ·rw[if_pos hR0]at hst
  simp (maxSteps:=2000000) (disch:=omega) [go_sem,Qb,hR0,Q0]
  exact⟨i+1,k,_,out,hst,by omega,⟨by omega,by omega⟩,g,⟨rfl,rfl⟩,⟨rfl,rfl⟩,X0 _ _⟩
 ·rw[if_neg hR0]at hst
  have hRp:0<R.length:=jg.2 hR0
  simp (maxSteps:=2000000) (disch:=omega) [go_sem,Qb,hRp,htk,Q0]
  exact⟨⟨by omega,by omega⟩,i+1,k,_,_,hst,by omega,⟨by omega,by omega⟩,g+1,⟨rfl,by simp⟩,⟨rfl,by simp[Rw.cs,Qb]⟩,X0 _ _⟩
theorem Qnh {P:Program} {fc:FuncId} {op:Int} {a b:List Rw} {i k:Nat} {Y:Int} {out:List Rw} {g:Nat} (hal:a.length<=8192) (hbl:b.length<=8192) (hil:i<=a.length) (hkl:k<=b.length) (hol:out.length<=i+k) {w:Rw} (h1:i=a.length) (h2:k<b.length) (hq:b[k]?=some w)
  {R:List Rn} (hR:CallIs P fc [.i .i64 op,.nil,Qb w.rs] (Qb R)) (hst:OpI op a b (i) (k+1) w.y (if R=[] then out else out++[⟨w.y,R⟩])):Qdo P fc op a b (i,k,Y,out,g):=by
 intro κ
 unfold L14.b opS Q1i Qev
 simp only[]
 obtain⟨_,hq'⟩:=q8.1 hq
 simp (maxSteps:=2000000) (disch:=omega) [go_sem,rwL,h1,h2,hq,hq',Rw.cs,show ¬ (k:Int)=b.length by omega,show ((k:Int) == b.length)=false by simp;omega,Q0]
 refine Q4 hR ?_
 have htk:List.take out.length (out.map Rw.cs)=out.map Rw.cs:=qe (by simp)
 by_cases hR0:R=[]
 ·rw[if_pos hR0]at hst
  simp (maxSteps:=2000000) (disch:=omega) [go_sem,Qb,hR0,Q0]
  exact⟨i,k+1,_,out,hst,by omega,⟨by omega,by omega⟩,g,⟨rfl,rfl⟩,⟨rfl,rfl⟩,X0 _ _⟩
 ·rw[if_neg hR0]at hst
  have hRp:0<R.length:=jg.2 hR0
  simp (maxSteps:=2000000) (disch:=omega) [go_sem,Qb,hRp,htk,Q0]
  exact⟨⟨by omega,by omega⟩,i,k+1,_,_,hst,by omega,⟨by omega,by omega⟩,g+1,⟨rfl,by simp⟩,⟨rfl,by simp[Rw.cs,Qb]⟩,X0 _ _⟩
theorem Qng {P:Program} {fc:FuncId} {op:Int} {a b:List Rw} {i k:Nat} {Y:Int} {out:List Rw} {g:Nat} (hal:a.length<=8192) (hbl:b.length<=8192) (hil:i<=a.length) (hkl:k<=b.length) (hol:out.length<=i+k) {w v:Rw} (h1:i<a.length) (h2:k<b.length) (hq:a[i]?=some w) (hr:b[k]?=some v) (c:w.y<v.y)
  {R:List Rn} (hR:CallIs P fc [.i .i64 op,Qb w.rs,.nil] (Qb R)) (hst:OpI op a b (i+1) (k) w.y (if R=[] then out else out++[⟨w.y,R⟩])):Qdo P fc op a b (i,k,Y,out,g):=by
 intro κ
 unfold L14.b opS Q1i Qev
 simp only[]
 have hkf:((k:Int) == b.length)=false:=by simp;omega
 obtain⟨_,hq'⟩:=q8.1 hq
 obtain⟨_,hr'⟩:=q8.1 hr
 simp (maxSteps:=2000000) (disch:=omega) [go_sem,rwL,h1,h2,hq,hq',hr,hr',Rw.cs,hkf,show ¬ (k:Int)=b.length by omega,show w.y<=v.y by omega,show ¬ v.y=w.y by omega,show (v.y == w.y)=false by simp;omega,Q0]
 refine Q4 hR ?_
 have htk:List.take out.length (out.map Rw.cs)=out.map Rw.cs:=qe (by simp)
 by_cases hR0:R=[]
 ·rw[if_pos hR0]at hst
  simp (maxSteps:=2000000) (disch:=omega) [go_sem,Qb,hR0,Q0]
  exact⟨i+1,k,_,out,hst,by omega,⟨by omega,by omega⟩,g,⟨rfl,rfl⟩,⟨rfl,rfl⟩,X0 _ _⟩
 ·rw[if_neg hR0]at hst
  have hRp:0<R.length:=jg.2 hR0
  simp (maxSteps:=2000000) (disch:=omega) [go_sem,Qb,hRp,htk,Q0]
  exact⟨⟨by omega,by omega⟩,i+1,k,_,_,hst,by omega,⟨by omega,by omega⟩,g+1,⟨rfl,by simp⟩,⟨rfl,by simp[Rw.cs,Qb]⟩,X0 _ _⟩
theorem Qnf {P:Program} {fc:FuncId} {op:Int} {a b:List Rw} {i k:Nat} {Y:Int} {out:List Rw} {g:Nat} (hal:a.length<=8192) (hbl:b.length<=8192) (hil:i<=a.length) (hkl:k<=b.length) (hol:out.length<=i+k) {w v:Rw} (h1:i<a.length) (h2:k<b.length) (hq:a[i]?=some w) (hr:b[k]?=some v) (c:w.y=v.y)
  {R:List Rn} (hR:CallIs P fc [.i .i64 op,Qb w.rs,Qb v.rs] (Qb R)) (hst:OpI op a b (i+1) (k+1) v.y (if R=[] then out else out++[⟨v.y,R⟩])):Qdo P fc op a b (i,k,Y,out,g):=by
 intro κ
 unfold L14.b opS Q1i Qev
 simp only[]
 have hkf:((k:Int) == b.length)=false:=by simp;omega
 obtain⟨_,hq'⟩:=q8.1 hq
 obtain⟨_,hr'⟩:=q8.1 hr
 simp (maxSteps:=2000000) (disch:=omega) [go_sem,rwL,h1,h2,hq,hq',hr,hr',Rw.cs,hkf,show ¬ (k:Int)=b.length by omega,c,Q0]
 refine Q4 hR ?_
 have htk:List.take out.length (out.map Rw.cs)=out.map Rw.cs:=qe (by simp)
 by_cases hR0:R=[]
 ·rw[if_pos hR0]at hst
  simp (maxSteps:=2000000) (disch:=omega) [go_sem,Qb,hR0,Q0]
  exact⟨i+1,k+1,_,out,hst,by omega,⟨by omega,by omega⟩,g,⟨rfl,rfl⟩,⟨rfl,rfl⟩,X0 _ _⟩
 ·rw[if_neg hR0]at hst
  have hRp:0<R.length:=jg.2 hR0
  simp (maxSteps:=2000000) (disch:=omega) [go_sem,Qb,hRp,htk,Q0]
  exact⟨⟨by omega,by omega⟩,i+1,k+1,_,_,hst,by omega,⟨by omega,by omega⟩,g+1,⟨rfl,by simp⟩,⟨rfl,by simp[Rw.cs,Qb]⟩,X0 _ _⟩
theorem Qne {P:Program} {fc:FuncId} {op:Int} {a b:List Rw} {i k:Nat} {Y:Int} {out:List Rw} {g:Nat} (hal:a.length<=8192) (hbl:b.length<=8192) (hil:i<=a.length) (hkl:k<=b.length) (hol:out.length<=i+k) {w v:Rw} (h1:i<a.length) (h2:k<b.length) (hq:a[i]?=some w) (hr:b[k]?=some v) (c:v.y<w.y)
  {R:List Rn} (hR:CallIs P fc [.i .i64 op,.nil,Qb v.rs] (Qb R)) (hst:OpI op a b (i) (k+1) v.y (if R=[] then out else out++[⟨v.y,R⟩])):Qdo P fc op a b (i,k,Y,out,g):=by
 intro κ
 unfold L14.b opS Q1i Qev
 simp only[]
 have hkf:((k:Int) == b.length)=false:=by simp;omega
 obtain⟨_,hq'⟩:=q8.1 hq
 obtain⟨_,hr'⟩:=q8.1 hr
 simp (maxSteps:=2000000) (disch:=omega) [go_sem,rwL,h1,h2,hq,hq',hr,hr',Rw.cs,hkf,show ¬ (k:Int)=b.length by omega,show ¬ w.y<=v.y by omega,show ¬ w.y=v.y by omega,show (w.y == v.y)=false by simp;omega,Q0]
 refine Q4 hR ?_
 have htk:List.take out.length (out.map Rw.cs)=out.map Rw.cs:=qe (by simp)
 by_cases hR0:R=[]
 ·rw[if_pos hR0]at hst
  simp (maxSteps:=2000000) (disch:=omega) [go_sem,Qb,hR0,Q0]
  exact⟨i,k+1,_,out,hst,by omega,⟨by omega,by omega⟩,g,⟨rfl,rfl⟩,⟨rfl,rfl⟩,X0 _ _⟩
 ·rw[if_neg hR0]at hst
  have hRp:0<R.length:=jg.2 hR0
  simp (maxSteps:=2000000) (disch:=omega) [go_sem,Qb,hRp,htk,Q0]
  exact⟨⟨by omega,by omega⟩,i,k+1,_,_,hst,by omega,⟨by omega,by omega⟩,g+1,⟨rfl,by simp⟩,⟨rfl,by simp[Rw.cs,Qb]⟩,X0 _ _⟩
theorem CallIs.lel {P:Program} {f:FuncId} {us vs:List V} {r:V} (hl:LeL Le us vs) (h:CallIs P f vs r):CallIs P f us r:=λhh J m w cargs hr hp =>
 h hh J m w cargs hr (LeL.pw (R:=Le) (Q:=RV J m w) (λu v c h1 h2=>h1.rv h2) hl hp)
def OpC (P:Program) (f:FuncId):Prop:=∀(op:Int) (a b:List Rw),RgV a->RgV b->RgB a->RgB b->CallIs P f [.i .i64 op,rgV a,rgV b] (rgV (opR op a b))
def Qln (P:Program) (f:FuncId):Prop:=∀a b:List Rw,RgV a->RgV b->RgB a->RgB b->CallIs P f [rgV a,rgV b] (rgV (Xq a b))
section
variable {P:Program} (hm:P.follows .mixedOrders=true)
include hm
theorem Iy {f fv fc:FuncId} (hf:Q9 P f (L14.c fv fc) L14.r L14.n) (hv:Ut P fv) (hc:Qsh P fc):OpC P f:=by
 intro op a b ha hb ba bb
 have hal:=ha.len ba
 have hbl:=hb.len bb
 have v1:=hv a ha ba
 have v2:=hv b hb bb
 refine PureC.is (Q7 hm hf (qh rfl) ?_) rfl
 unfold L14.c
 simp[go_sem,rgV]
 refine Q4 v1 ?_
 simp[go_sem,rgV]
 refine Q4 v2 ?_
 simp[go_sem,rgV]
 refine Qs [.c 3 0 0 2] (α:=Nat × Nat × Int × List Rw × Nat) (Q1i op a b) (opS op a b) (Qev a b) (0,0,-5000,[],0) (OpI.start ha hb ba bb) ?_ ?_
 ·simp[go_sem,opS,rwL]
 rintro⟨i,k,Y,out,g⟩ hI
 unfold Q1i at hI
 simp only at hI
 have hil:=hI.i_le
 have hkl:=hI.k_le
 have hol:=hI.len
 by_cases hend:i=a.length/\k=b.length
 ·obtain⟨h1,h2⟩:=hend
  rw[h1,h2]at hI
  have hout:=hI.done ha hb ba bb
  rw[<- hout]
  have ht:List.take out.length (out.map Rw.cs)=out.map Rw.cs:=qe (by simp)
  unfold opS
  simp[go_sem,rwL,h1,h2,ht,L14.r]
  rw[if_pos (Q8k out)];rfl
 have key:∀{y:Int} {i' k':Nat} {p q:V},Y<y->((i'=i/\∀w∈a.drop i,y<w.y)∨(i'=i+1/\∃w,a[i]?=some w/\w.y=y))->((k'=k/\∀w∈b.drop k,y<w.y)∨(k'=k+1/\∃w,b[k]?=some w/\w.y=y))->i+k<i'+k' ->
   Le p (Qb (if i'=i then [] else ((a[i]?).map Rw.rs).getD []))->Le q (Qb (if k'=k then [] else ((b[k]?).map Rw.rs).getD [])) ->
   ∃R:List Rn,CallIs P fc [.i .i64 op,p,q] (Qb R)/\R.length<=8192/\OpI op a b i' k' y (if R=[] then out else out++[⟨y,R⟩]):=by
  intro y i' k' p q hy h1 h2 h3 hp hq
  obtain⟨s1,s2,s3⟩:=hI.step ha hb ba bb hy h1 h2 h3
  obtain⟨r1,r2⟩:=Qha (op:=op) ha hb ba bb y
  have va:=Wm ha ba y
  have vb:=Wm hb bb y
  have hcc:=hc op _ _ _ va.1 vb.1 va.2 vb.2 r1 r2
  rw[s2,s3]at hcc
  exact⟨_,CallIs.lel (show LeL Le [.i .i64 op,p,q] [.i .i64 op,Qb _,Qb _] from ⟨Le.refl _,hp,hq,trivial⟩) hcc,r1.len (Wm (Qc5 op a b) (Qnk op a b) y).2,s1⟩
 have hnil:Le .nil (Qb []):=.inl (.inl (Le0.nil 2))
 -- the row that comes next
 have hcase:(i<a.length/\k=b.length)∨(i=a.length/\k<b.length)∨(∃(h1:i<a.length) (h2:k<b.length),(a[i]).y<(b[k]).y)∨(∃(h1:i<a.length) (h2:k<b.length),(a[i]).y=(b[k]).y)∨(∃(h1:i<a.length) (h2:k<b.length),(b[k]).y<(a[i]).y):=by
  by_cases c1:i<a.length
  ·by_cases c2:k<b.length
   ·rcases (show (a[i]).y<(b[k]).y∨(a[i]).y=(b[k]).y∨(b[k]).y<(a[i]).y by omega) with c | c | c
    ·exact .inr (.inr (.inl ⟨c1,c2,c⟩))
    ·exact .inr (.inr (.inr (.inl ⟨c1,c2,c⟩)))
    ·exact .inr (.inr (.inr (.inr ⟨c1,c2,c⟩)))
   ·exact .inl ⟨c1,by omega⟩
  ·exact .inr (.inl ⟨by omega,by omega⟩)
 have hda:∀(h1:i<a.length),∀w∈a.drop i,(a[i]).y<=w.y:=λh1 w hw=>by
  rw[List.drop_eq_getElem_cons h1]at hw
  rcases List.mem_cons.1 hw with rfl | hw
  ·exact Int.le_refl _
  ·have:=Bp ha (q9 h1) w hw;omega
 have hdb:∀(h2:k<b.length),∀w∈b.drop k,(b[k]).y<=w.y:=λh2 w hw=>by
  rw[List.drop_eq_getElem_cons h2]at hw
  rcases List.mem_cons.1 hw with rfl | hw
  ·exact Int.le_refl _
  ·have:=Bp hb (q9 h2) w hw;omega
 rcases hcase with⟨h1,h2⟩ | ⟨h1,h2⟩ | ⟨h1,h2,c⟩ | ⟨h1,h2,c⟩ | ⟨h1,h2,c⟩
 ·have hq:a[i]?=some a[i]:=q9 h1
  obtain⟨R,hR,hRl,hst⟩:=key (y:=(a[i]).y) (i':=i+1) (k':=k) (p:=Qb (a[i]).rs) (q:=.nil) (hI.ahi _ (Yn hq)) (.inr ⟨rfl,_,hq,rfl⟩) (.inl ⟨rfl,by rw[h2];simp⟩) (by omega)
   (by rw[if_neg (by omega),hq];exact Le.refl _) (by rw[if_pos rfl];exact hnil)
  exact Qni hal hbl hil hkl hol h1 h2 hq hR hst _
 ·have hq:b[k]?=some b[k]:=q9 h2
  obtain⟨R,hR,hRl,hst⟩:=key (y:=(b[k]).y) (i':=i) (k':=k+1) (p:=.nil) (q:=Qb (b[k]).rs) (hI.bhi _ (Yn hq)) (.inl ⟨rfl,by rw[h1];simp⟩) (.inr ⟨rfl,_,hq,rfl⟩) (by omega)
   (by rw[if_pos rfl];exact hnil) (by rw[if_neg (by omega),hq];exact Le.refl _)
  exact Qnh hal hbl hil hkl hol h1 h2 hq hR hst _
 ·have hq:a[i]?=some a[i]:=q9 h1
  have hr:b[k]?=some b[k]:=q9 h2
  obtain⟨R,hR,hRl,hst⟩:=key (y:=(a[i]).y) (i':=i+1) (k':=k) (p:=Qb (a[i]).rs) (q:=.nil) (hI.ahi _ (Yn hq)) (.inr ⟨rfl,_,hq,rfl⟩) (.inl ⟨rfl,λw hw=>by have:=hdb h2 w hw;omega⟩) (by omega)
   (by rw[if_neg (by omega),hq];exact Le.refl _) (by rw[if_pos rfl];exact hnil)
  exact Qng hal hbl hil hkl hol h1 h2 hq hr c hR hst _
 ·have hq:a[i]?=some a[i]:=q9 h1
  have hr:b[k]?=some b[k]:=q9 h2
  obtain⟨R,hR,hRl,hst⟩:=key (y:=(b[k]).y) (i':=i+1) (k':=k+1) (p:=Qb (a[i]).rs) (q:=Qb (b[k]).rs) (hI.bhi _ (Yn hr)) (.inr ⟨rfl,_,hq,c⟩) (.inr ⟨rfl,_,hr,rfl⟩) (by omega)
   (by rw[if_neg (by omega),hq];exact Le.refl _) (by rw[if_neg (by omega),hr];exact Le.refl _)
  exact Qnf hal hbl hil hkl hol h1 h2 hq hr c hR hst _
 ·have hq:a[i]?=some a[i]:=q9 h1
  have hr:b[k]?=some b[k]:=q9 h2
  obtain⟨R,hR,hRl,hst⟩:=key (y:=(b[k]).y) (i':=i) (k':=k+1) (p:=.nil) (q:=Qb (b[k]).rs) (hI.bhi _ (Yn hr)) (.inl ⟨rfl,λw hw=>by have:=hda h1 w hw;omega⟩) (.inr ⟨rfl,_,hr,rfl⟩) (by omega)
   (by rw[if_pos rfl];exact hnil) (by rw[if_neg (by omega),hr];exact Le.refl _)
  exact Qne hal hbl hil hkl hol h1 h2 hq hr c hR hst _
theorem Q42 {f fo:FuncId} (hf:Q9 P f (L0x.c fo) L0x.r L0x.n) (ho:OpC P fo):Qln P f:=by
 intro a b ha hb ba bb
 have h:=ho 0 a b ha hb ba bb
 rw[Qnj]at h
 refine PureC.is (Q7 hm hf (qh rfl) ?_) rfl
 unfold L0x.c
 simp[go_sem,rgV]
 refine Q4 h ?_
 simp[go_sem,rgV,V.cells,V.okA,L0x.r]
end
def msV (ms:List Mesh):V:=.l 2 (ms.map Mesh.cs)
def Qr2 (P:Program) (f:FuncId):Prop:=∀(c:V) (g r:List Rw),(c=rwL g∨(c=.nil/\g=[]))->RgV g->RgB g->RgV r->RgB r->CallIs P f [.l 1 [[c],[rwL r]]] (rgV (Xq g r))
def Q39 (P:Program) (f:FuncId):Prop:=∀(ms:List Mesh) (s:Sett),ms.length<=1000->CallIs P f [msV ms,s.enc] (.t [Yk (Z0 ms s.pitch s.height).1,.i .i64 (Z0 ms s.pitch s.height).2])
noncomputable def E4 (acc l:List (List Rw)) (j:Nat):List (List Rw):=(List.range (max acc.length j)).map λi=>if i<j then Xq (atR acc i) (atR l i) else atR acc i
theorem Ki (acc l:List (List Rw)) (j:Nat):(E4 acc l j).length=max acc.length j:=by simp[E4]
theorem Wp {acc l:List (List Rw)} {j i:Nat} (h:i<max acc.length j):(E4 acc l j)[i]?=some (if i<j then Xq (atR acc i) (atR l i) else atR acc i):=by
 unfold E4
 rw[qp,jk h];rfl
theorem Qk0 {acc l:List (List Rw)}:E4 acc l 0=acc:=by
 refine qx λi=>?_
 by_cases hi:i<acc.length
 ·rw[Wp (by omega),if_neg (by omega)]
  unfold atR
  rw[q9 hi];rfl
 ·rw[qk (by rw[Ki];omega),qk (by omega)]
theorem Qo2 {acc l:List (List Rw)} (ha:J3 acc):E4 acc l l.length=Wh acc l:=by
 refine qx λi=>?_
 by_cases hi:i<max acc.length l.length
 ·rw[Wp hi,Q3g hi]
  split
  ·rfl
  ·have e:atR l i=[]:=by unfold atR;rw[qk (by omega)];rfl
   rw[e,Qia (Qdg ha i).1 (Qdg ha i).2]
 ·rw[qk (by rw[Ki];omega),qk (by rw[Jm];omega)]
theorem Qo1 {acc l:List (List Rw)} {j:Nat} (h:acc.length<=j):E4 acc l (j+1)=E4 acc l j++[Xq (atR acc j) (atR l j)]:=by
 unfold E4
 rw[show max acc.length (j+1)=j+1 by omega,show max acc.length j=j by omega,List.range_succ,qw]
 congr 1
 ·refine jp λi hi=>?_
  have:=qy.1 hi
  rw[if_pos (by omega),if_pos (by omega)]
 ·simp
theorem Qo0 {acc l:List (List Rw)} {j:Nat} (h:j<acc.length):E4 acc l (j+1)=(E4 acc l j).set j (Xq (atR acc j) (atR l j)):=by
 refine qx λi=>?_
 rw[List.getElem?_set]
 by_cases hi:i<acc.length
 ·rw[Wp (by omega)]
  by_cases he:j=i
  ·subst he
   rw[if_pos rfl,if_pos (show j<j+1 by omega),if_pos (show j<(E4 acc l j).length by rw[Ki];omega)]
  ·rw[if_neg he,Wp (by omega)]
   by_cases h2:i<j
   ·rw[if_pos h2,if_pos (by omega)]
   ·rw[if_neg h2,if_neg (by omega)]
 ·rw[qk (by rw[Ki];omega),if_neg (by omega),qk (by rw[Ki];omega)]
section
variable {P:Program} (hm:P.follows .mixedOrders=true)
include hm
theorem Q1x {f fu:FuncId} (hf:Q9 P f (L28.c fu) L28.r L28.n) (hu:Qln P fu):Qr2 P f:=by
 intro c g r hc hg bg hr br
 have u1:=hu [] g RgV.nil hg RgB.nil bg
 rw[Qb7 hg bg]at u1
 have u2:=hu g r hg hr bg br
 have hcl:Le (.a [c]) (rgV g):=by
  rcases hc with rfl | ⟨rfl,rfl⟩
  ·exact Le.refl _
  ·exact .inl (.inr ⟨_,_,rfl,rfl,Le0.nil 2,trivial⟩)
 have hn0:Le (.a [.nil]) (rgV []):=.inl (.inr ⟨_,_,rfl,rfl,Le0.nil 2,trivial⟩)
 have w1:CallIs P fu [.a [.nil],.a [c]] (rgV g):=CallIs.lel (show LeL Le [.a [.nil],.a [c]] [rgV [],rgV g] from ⟨hn0,hcl,trivial⟩) u1
 have hcc:c.cl 3=true/\c.cl 2=true/\c.isD=true:=by
  rcases hc with rfl | ⟨rfl,rfl⟩<;>exact⟨rfl,rfl,rfl⟩
 refine PureC.is (Q7 hm hf (qh rfl) ?_) (by rcases hc with rfl | ⟨rfl,rfl⟩<;>rfl)
 unfold L28.c
 simp[go_sem]
 obtain⟨F,hF⟩:∃F:Nat->V,∀i,F i=if i=0 then .nil else if i=1 then rwL g else rwL (Xq g r):=⟨_,λ_=>rfl⟩
 have F0:F 0=.nil:=by rw[hF];rfl
 have F1:F 1=rwL g:=by rw[hF];rfl
 have F2:F 2=rwL (Xq g r):=by rw[hF];rfl
 refine Qi (α:=Nat) (λi=>i<=2)
  (λi=>⟨[(2,.p 0 1 0 0),(3,.p 1 1 0 0),(6,.l 1 [[c],[rwL r]]),(7,.i .i64 2),(8,.i .i64 i)],[.arr 1 1 [[.nil]],.arr 1 1 [[F i]]]⟩)
  (λi=>2-i) 0 (by omega) ?_ ?_
 ·simp[go_sem,F0]
 intro i hi
 rcases (show i=0∨i=1∨i=2 by omega) with rfl | rfl | rfl
 ·rw[F0]
  simp[go_sem]
  refine Q4 w1 ?_
  simp[go_sem,rgV,V.cells,V.okA]
  exact⟨1,by omega,by omega,rfl,by rw[F1];rfl,by rw[F1];rfl⟩
 ·rw[F1]
  simp[go_sem]
  refine Q4 u2 ?_
  simp[go_sem,rgV,V.cells,V.okA]
  exact⟨2,by omega,by omega,rfl,by rw[F2];rfl,by rw[F2];rfl⟩
 ·rw[F2]
  simp[go_sem,rwL,rgV,L28.r]
end
theorem K3 (s:Sett) (n:Nat):∀x∈s.cs,x.cl n=true:=λx hx=>by
 simp only[Sett.cs,List.mem_cons,List.not_mem_nil,or_false]at hx
 rcases hx with rfl | rfl | rfl | rfl | rfl | rfl | rfl | rfl | rfl | rfl | rfl | rfl | rfl | rfl | rfl | rfl | rfl | rfl | rfl | rfl<;>rfl
theorem Q83 {k h:Int} {ms:List Mesh} {i:Nat} {m:Mesh} (hq:ms[i]?=some m) {acc:List (List Rw)}:Wd k h acc (ms.drop i)=if (Xb m k h).2≠0 then ([],(Xb m k h).2) else Wd k h (Wh acc (Xb m k h).1) (ms.drop (i+1)):=by
 obtain⟨hlt,hq'⟩:=q8.1 hq
 rw[List.drop_eq_getElem_cons hlt,hq']
 rfl
section
variable {P:Program} (hm:P.follows .mixedOrders=true)
include hm
theorem Q1y {f fe fp fu:FuncId} (hf:Q9 P f (L25.c fe fp fu) L25.r L25.n) (he:Qdr P fe) (hp:Qgm P fp) (hu:Qr2 P fu):Q39 P f:=by
 intro ms s hml
 have e1:=he s.pitch 32 1024 (by omega)
 have e2:=he s.height 4 1024 (by omega)
 have hnil:∀e:Int,Le (.t [.nil,.i .i64 e]) (.t [Yk [],.i .i64 e]):=λe=>.inr ⟨_,_,rfl,rfl,.inl (Le0.nil 1),Le1.refl _,trivial⟩
 unfold Z0
 cases hv1:Z2 s.pitch 32 1024 with
 | false =>
   rw[hv1]at e1
   rw[if_pos (.inl rfl)]
   refine CallIs.res (r:=.t [.nil,.i .i64 1]) ?_ (hnil _)
   refine PureC.is (Q7 hm hf (qh rfl) ?_) rfl
   unfold L25.c
   simp[go_sem,msV,Sett.enc,Sett.cs]
   refine Q4 e1 ?_
   simp[go_sem,L25.r]
   done
 | true =>
 cases hv2:Z2 s.height 4 1024 with
 | false =>
   rw[hv1]at e1
   rw[hv2]at e2
   rw[if_pos (.inr rfl)]
   refine CallIs.res (r:=.t [.nil,.i .i64 1]) ?_ (hnil _)
   refine PureC.is (Q7 hm hf (qh rfl) ?_) rfl
   unfold L25.c
   simp[go_sem,msV,Sett.enc,Sett.cs]
   refine Q4 e1 ?_
   simp[go_sem]
   refine Q4 e2 ?_
   simp[go_sem,L25.r]
   done
 | true =>
 rw[hv1]at e1
 rw[hv2]at e2
 rw[if_neg (by simp)]
 obtain⟨R,hR⟩:∃R,R=Wd s.pitch s.height [] ms:=⟨_,rfl⟩
 rw[<- hR]
 refine CallIs.res (r:=.t [if R.2≠0 then .nil else Yk R.1,.i .i64 R.2]) ?_ (by
  by_cases h1:R.2=0
  ·rw[if_neg (by simp[h1])]
   exact Le.refl _
  ·rw[if_pos h1]
   have h2:R.1=[]:=by rw[hR]at h1 ⊢;exact Qdl h1
   rw[h2]
   exact hnil _)
 refine PureC.is (Q7 hm hf (qh rfl) ?_) rfl
 unfold L25.c
 simp[go_sem,msV,Sett.enc,Sett.cs]
 refine Q4 e1 ?_
 simp[go_sem]
 refine Q4 e2 ?_
 simp[go_sem]
 refine Qs [.t 6 1] (α:=Nat × Nat × List (List Rw)) (λp=>p.1<=ms.length/\Wd s.pitch s.height p.2.2 (ms.drop p.1)=R/\J3 p.2.2/\p.2.2.length<=256)
  (λp=>⟨[(3,.p 0 1 0 0),(6,.own 1 (p.2.1+1) 0 p.2.2.length),(23,msV ms),(24,.i .i64 ms.length),(25,.i .i64 p.1)],[.arr 1 20 [s.cs],.arr (p.2.1+1) 1 (p.2.2.map rgE)]⟩)
  (λp=>ms.length-p.1) (0,0,[]) ⟨Nat.zero_le _,hR.symm,by simp[J3],by simp⟩ ?_ ?_
 ·simp[go_sem,msV,Sett.cs]
 rintro⟨i,g,acc⟩ ⟨hi,hacc,hav,hal⟩
 simp only at hi hacc hav hal ⊢
 by_cases hil:i=ms.length
 ·subst hil
  rw[List.drop_length]at hacc
  have hR2:R=(acc,0):=hacc.symm
  have ht:List.take acc.length (acc.map rgE)=acc.map rgE:=qe (by simp)
  rw[hR2]
  simp (disch:=omega) [go_sem,msV,ht,Zk,L25.r]
  rw[if_pos (Q8s acc)];rfl
 have hlt:i<ms.length:=by omega
 have hq:ms[i]?=some ms[i]:=q9 hlt
 rw[Q83 hq]at hacc
 have hpc:=hp ms[i] s
 have hpv:=Q8w ms[i] s.pitch s.height
 generalize ms[i]=m at *
 obtain⟨_,hq'⟩:=q8.1 hq
 generalize Xb m s.pitch s.height=T at *
 obtain⟨l,e⟩:=T
 simp only at hacc hpc hpv
 simp only[Mesh.enc,Mesh.cs,Sett.enc,Sett.cs]at hpc
 simp (disch:=omega) [go_sem,msV,hlt,hq,hq',Mesh.cs,Sett.cs,Q0]
 refine Q4 hpc ?_
 by_cases he0:e=0
 case neg =>
  have heb:(e != 0)=true:=by simpa using he0
  rw[if_pos he0]at hacc
  rw[<- hacc]
  simp (disch:=omega) [go_sem,he0,heb,L25.r]
 subst he0
 rw[if_neg (by simp)]at hacc
 obtain⟨hlv,hll⟩:=hpv
 simp (disch:=omega) [go_sem,Zk,Q0]
 refine Qi (α:=Nat × Nat) (λp=>p.1<=l.length)
  (λp=>⟨[(3,.p 0 1 0 0),(6,.own 1 (p.2+1) 0 (E4 acc l p.1).length),(23,msV ms),(24,.i .i64 ms.length),(25,.i .i64 i),(38,Yk l),(39,.i .i64 l.length),(40,.i .i64 p.1)],[.arr 1 20 [s.cs],.arr (p.2+1) 1 ((E4 acc l p.1).map rgE)]⟩)
  (λp=>l.length-p.1) (0,g) (by simp) ?_ ?_
 ·simp[go_sem,msV,Qk0,Zk]
  exact⟨⟨rfl,K3 s 2⟩,Q40 _ _⟩
 rintro⟨j,g2⟩ hj
 simp only at hj ⊢
 have hml2:=Ki acc l j
 by_cases hjl:j=l.length
 ·subst hjl
  rw[Qo2 hav]
  have hul:=Jm acc l
  simp (disch:=omega) [go_sem,Zk,Q0]
  exact⟨i+1,g2,Wh acc l,⟨by omega,hacc,Qe3 _ _,by omega⟩,by omega,⟨⟨rfl,rfl⟩,rfl,by omega⟩,rfl,⟨rfl,rfl⟩,Q40 _ _⟩
 have hjt:j<l.length:=by omega
 have hu1:l[j]?=some l[j]:=q9 hjt
 have hrv:=hlv _ (qb hu1)
 have hatl:atR l j=l[j]:=by unfold atR;rw[hu1];rfl
 have hav2:=Qdg hav j
 have happ:=Qo1 (acc:=acc) (l:=l) (j:=j)
 have hset:=Qo0 (acc:=acc) (l:=l) (j:=j)
 have hget:=Wp (acc:=acc) (l:=l) (j:=j) (i:=j)
 rw[hatl]at happ hset
 generalize l[j]=r at *
 obtain⟨_,hu1'⟩:=q8.1 hu1
 have hMj:(E4 acc l j).length<=600:=by rw[hml2];omega
 generalize E4 acc l j=M at *
 have htk:List.take M.length (M.map rgE)=M.map rgE:=qe (by simp)
 by_cases hjm:acc.length<=j
 ·have hMl:M.length=j:=by omega
  have hM':=happ hjm
  have hat0:atR acc j=[]:=by unfold atR;rw[qk hjm];rfl
  rw[hat0]at hM' hav2
  have huc:=hu .nil [] r (.inr ⟨rfl,rfl⟩) RgV.nil RgB.nil hrv.1 hrv.2
  subst hMl
  simp (disch:=omega) [go_sem,Zk,hjt,hu1,hu1',rgE,htk,Qbn,Qbm,Q0]
  refine⟨⟨by omega,by omega⟩,?_,Q1b (id:=4) (o:=.arr 1 1 [[.nil],[rwL r]]) (o':=.dead) rfl (λh2 hh=>Zn (vs:=[.l 1 [[.nil],[rwL r]]]) (by simp[X4,frz,X5,hh,rwL,V.isD]) huc ⟨rfl,rfl⟩) (.inr (by simp)) (by rfl) ?_⟩
  ·rfl
  simp (disch:=omega) [go_sem,rgV,V.cells,V.okA,Qbn,Qbm,Q0]
  exact⟨M.length+1,by omega,by omega,g2+1,⟨⟨rfl,by rw[hM'];simp⟩,.inr rfl,by omega⟩,K3 s 2,⟨rfl,by rw[hM'];simp[rgE,rwL]⟩,Q40 _ _⟩
 ·have hMl:M.length=acc.length:=by omega
  have hM':=hset (by omega)
  have hg:=hget (by omega)
  rw[if_neg (by omega)]at hg
  have huc:=hu (rwL (atR acc j)) (atR acc j) r (.inl rfl) hav2.1 hav2.2 hrv.1 hrv.2
  have hjn:((j:Int) == acc.length)=false:=by simp;omega
  have hjn2:¬ (j:Int)=acc.length:=by omega
  have hjt2:j<acc.length:=by omega
  have hjt3:j<M.length:=by omega
  obtain⟨_,hg'⟩:=q8.1 hg
  simp (disch:=omega) [go_sem,Zk,hjt,hu1,hu1',rgE,hMl,hjn,hjn2,hjt2,hjt3,hg,hg',Q0]
  refine⟨⟨rfl,rfl⟩,Q1b (id:=3) (o:=.arr 1 1 [[rwL (atR acc j)],[rwL r]]) (o':=.dead) rfl (λh2 hh=>Zn (vs:=[.l 1 [[rwL (atR acc j)],[rwL r]]]) (by simp[X4,frz,X5,hh,rwL,V.isD]) huc ⟨rfl,rfl⟩) (.inr (by simp)) (by rfl) ?_⟩
  simp (disch:=omega) [go_sem,rgV,V.cells,V.okA,rgE,hMl,hjt2,hjt3,hg,hg',Q0]
  exact⟨j+1,by omega,by omega,g2,⟨⟨rfl,by rw[hM'];simp[hMl]⟩,.inr rfl,by omega⟩,K3 s 2,⟨rfl,by rw[hM',List.map_set];rfl⟩,λ_ _=>rfl⟩
end
end Go.Abs
