/- Part of the library on which the proof stands: an abstract machine, its values and its soundness against the model; or what functions of the program do to such values. -/
import Derived.Test.YtnaehggpjfdenaaGreatGoSecE
import Derived.Test.YtnaehggpjfdenaaGreatGoHeap
import Derived.Test.YtnaehggpjfdenaaGreatGoRevC
set_option linter.unusedVariables false
set_option linter.unusedSimpArgs false
set_option maxHeartbeats 8000000
set_option maxRecDepth 8000
namespace Go.Abs
def J3 (m:Mesh) (z:Int) (t:T3):Sg4:=Qdg z (m.v t.a) (m.v t.b) (m.v t.c)
def Y4 (m:Mesh) (z:Int) (ts:List T3):List Sg4:=(ts.map (J3 m z)).filter (·.found)
def Yc (m:Mesh) (z:Int) (ts:List T3):List (List V):=(Y4 m z ts).map Sg4.cs
def Zg (m:Mesh) (z:Int):List Sg4 × Int:=if m.check=0 then (if z < -65536∨65536<z then ([],8) else (Y4 m z m.tris,0)) else ([],m.check)
def Qlz (r:List Sg4 × Int):V:=.t [apV 4 (r.1.map Sg4.cs),.i .i64 r.2]
def secL (r:List Sg4 × Int):V:=.t [.l 4 (r.1.map Sg4.cs),.i .i64 r.2]
theorem Qoo (r:List Sg4 × Int):Le (Qlz r) (secL r):=.inr ⟨_,_,rfl,rfl,.inl (apV_le 4 _),Le1.refl _,trivial⟩
def Qtr (P:Program) (f:FuncId):Prop:=∀(m:Mesh) (z:Int),CallIs P f [m.enc,.i .i64 z] (secL (Zg m z))
theorem Q57 {m:Mesh} {z:Int} {ts:List T3} {k:Nat} {t:T3} (h:ts[k]?=some t) :
  Yc m z (ts.take (k+1))=Yc m z (ts.take k)++(if (J3 m z t).found=true then [(J3 m z t).cs] else []):=by
 simp only[Yc,Y4,List.take_add_one,h,Option.toList_some,qx,List.map_cons,List.map_nil,List.filter_append,List.filter_cons,List.filter_nil];split<;>simp
theorem Q8r (m:Mesh) (z:Int) (ts:List T3):(Yc m z ts).length<=ts.length:=by
 simp only[Yc,Y4,List.length_map];exact Nat.le_trans (jc _ _) (by simp)
theorem Q8s (m:Mesh) (z:Int) (ts:List T3):(∀x∈Yc m z ts,∀y∈x,y.isD=true)=True:=by
 simp[Yc,Sg4.cs,V.isD]
theorem Q3b (m:Mesh) (z:Int) (ts:List T3) (n:Nat):(∀x∈Yc m z ts,∀y∈x,y.cl n=true)=True:=by
 simp[Yc,Sg4.cs,V.cl,V.cl1,V.cl0]
section
variable {P:Program} (hm:P.follows .mixedOrders=true)
include hm
theorem Q8u {f fc fk ft:FuncId} (hf:Q5 P f (L3g.c fc fk ft) L3g.r L3g.n) (hc:Y0 P fc) (hk:Wd P fk) (ht:CutC P ft):Qtr P f:=by
 intro m z;refine CallIs.res ?_ (Qoo _);refine PI hm hf ?_;unfold L3g.c;simp[go_sem,Mesh.enc,Mesh.cs,vsV,tsV];refine Q2 (hc m) ?_;by_cases hz:m.check=0
 ·obtain⟨z1,z2,z3,z4⟩:=Mesh.check_zero.1 hz;by_cases hr:z < -65536∨65536<z
  ·have hres:Zg m z=([],8):=by simp only[Zg,hz,hr,if_true]
   rw[hres];simp +contextual -implicitDefEqProofs [go_sem,hz,L3g.r,Qlz,apV];intro h1 h2;omega
  ·have hres:Qlz (Zg m z)=.t [apV 4 (Yc m z m.tris),.i .i64 0]:=by simp only[Zg,hz,hr,if_true,if_false];rfl
   rw[hres];simp[go_sem,hz,show ¬ z < -65536 by omega,show ¬ 65536<z by omega];refine Q8 (α:=Nat) (λk=>k<=m.tris.length)
    (λk=>apS 7 [(1,.i .i64 z),(2,.p 0 1 0 0),(28,.i .i64 m.tris.length),(29,.i .i64 k)] [.arr 1 2 [m.cs]] 4 4 (Yc m z (m.tris.take k)))
    (λk=>m.tris.length-k) 0 (Nat.zero_le _) ?_ ?_
   ·simp[go_sem,apS,Yc,Y4,Mesh.cs,vsV,tsV]
   ·intro k hk';have hlen:=Q8r m z (m.tris.take k);have hlen2:(m.tris.take k).length<=k:=by simp;omega
    cases hp:m.tris[k]? with
    | none =>
      have:¬ k<m.tris.length:=by simpa using hp
      obtain rfl:k=m.tris.length:=by omega
      rw[qi];have hd:=of_eq_true (Q8s m z m.tris);generalize hels:Yc m z m.tris=els at *
      by_cases he:els=[]
      ·simp[go_sem,apS,he,L3g.r,apV]
      ·simp[go_sem,apS,he,L3g.r,apV,qe];rw[if_pos hd]
       rfl
    | some t =>
      obtain⟨hlt,hp'⟩:=q8.1 hp;have hsucc:=Q57 (m:=m) (z:=z) hp;have hcor:m.corners k=.t [(m.v t.a).enc,(m.v t.b).enc,(m.v t.c).enc,.b true]:=by
       simp only[Mesh.corners,hz,Int.toNat_natCast,hp,show (0:Int)<=k by omega,show (k:Int)<m.tris.length by omega,and_self,if_true]
      have hcut:CallIs P ft [.a ((m.v t.a).cs++(m.v t.b).cs++(m.v t.c).cs),.i .i64 z] (.t [.a (J3 m z t).cs,.b (J3 m z t).found]):=ht _ _ _ z;have hcl:=of_eq_true (Q3b m z (m.tris.take k) 6);generalize hels:Yc m z (m.tris.take k)=els at *
      by_cases he:els=[]
      ·subst he;simp[go_sem,apS,hlt,Mesh.cs,vsV,tsV];refine Q2 (hk m k) ?_;rw[hcor];simp[go_sem,V3.enc,vcs];simp only[vcs,List.cons_append,List.nil_append]at hcut;refine Q2 hcut ?_;cases hfo:(J3 m z t).found
       ·simp[go_sem,Sg4.cs];simp (disch:=omega) [go_sem,Q0];refine⟨k+1,by omega,by omega,?_⟩;rw[hsucc];simp[go_sem,hfo,Mesh.cs,vsV,tsV]
       ·simp[go_sem,Sg4.cs];simp (disch:=omega) [go_sem,Q0];refine⟨k+1,by omega,by omega,?_⟩;rw[hsucc];simp[go_sem,hfo,Mesh.cs,vsV,tsV,Sg4.cs]
      ·simp[go_sem,apS,hlt,Mesh.cs,vsV,tsV,he];refine Q2 (hk m k) ?_;rw[hcor];simp[go_sem,V3.enc,vcs];simp only[vcs,List.cons_append,List.nil_append]at hcut;refine Q2 hcut ?_;cases hfo:(J3 m z t).found
       ·simp[go_sem,Sg4.cs];simp (disch:=omega) [go_sem,Q0];refine⟨k+1,by omega,by omega,?_⟩;rw[hsucc];simp[go_sem,hfo,Mesh.cs,vsV,tsV,he];exact hcl
       ·simp[go_sem,Sg4.cs];simp (disch:=omega) [go_sem,Q0];refine⟨⟨by omega,by omega⟩,k+1,by omega,by omega,?_⟩;rw[hsucc];simp[go_sem,hfo,Mesh.cs,vsV,tsV,he,Sg4.cs];rintro el (he | rfl) x hx
        ·exact hcl el he x hx
        ·simp at hx;rcases hx with rfl | rfl | rfl | rfl<;>rfl
 ·have hres:Zg m z=([],m.check):=by simp only[Zg,hz,if_false]
  rw[hres];simp[go_sem,hz,L3g.r,Qlz,apV]
theorem Qfv {f fc fp:FuncId} (hf:Q5 P f (L1v.c fc fp) L1v.r L1v.n) (hc:Y0 P fc) (hq:Q51 P fp):Qtr P f:=by
 intro m z;refine CallIs.res ?_ (Qoo _);refine PI hm hf ?_;unfold L1v.c;simp[go_sem,Mesh.enc,Mesh.cs,vsV,tsV];refine Q2 (hc m) ?_;by_cases hz:m.check=0
 ·obtain⟨z1,z2,z3,z4⟩:=Mesh.check_zero.1 hz;by_cases hr:z < -65536∨65536<z
  ·have hres:Zg m z=([],8):=by simp only[Zg,hz,hr,if_true]
   rw[hres];simp +contextual -implicitDefEqProofs [go_sem,hz,L1v.r,Qlz,apV];intro h1 h2;omega
  ·have hres:Qlz (Zg m z)=.t [apV 4 (Yc m z m.tris),.i .i64 0]:=by simp only[Zg,hz,hr,if_true,if_false];rfl
   rw[hres];simp[go_sem,hz,show ¬ z < -65536 by omega,show ¬ 65536<z by omega];refine Q8 (α:=Nat) (λk=>k<=m.tris.length)
    (λk=>apS 7 [(1,.i .i64 z),(2,.p 0 1 0 0),(8,.i .i64 k)] [.arr 1 2 [m.cs]] 2 4 (Yc m z (m.tris.take k)))
    (λk=>m.tris.length-k) 0 (Nat.zero_le _) ?_ ?_
   ·simp[go_sem,apS,Yc,Y4,Mesh.cs,vsV,tsV]
   ·intro k hk';have hlen:=Q8r m z (m.tris.take k);have hlen2:(m.tris.take k).length<=k:=by simp;omega
    cases hp:m.tris[k]? with
    | none =>
      have:¬ k<m.tris.length:=by simpa using hp
      obtain rfl:k=m.tris.length:=by omega
      rw[qi];have hd:=of_eq_true (Q8s m z m.tris);generalize hels:Yc m z m.tris=els at *
      by_cases he:els=[]
      ·simp[go_sem,apS,he,L1v.r,apV,Mesh.cs,vsV,tsV]
      ·simp[go_sem,apS,he,L1v.r,apV,qe,Mesh.cs,vsV,tsV];rw[if_pos hd]
       rfl
    | some t =>
      obtain⟨hlt,hp'⟩:=q8.1 hp;have hsucc:=Q57 (m:=m) (z:=z) hp;obtain⟨t1,t2,t3,t4,t5,t6⟩:=T3.ok_iff.1 (Ei z4 hp);have ga:=Mesh.v_get t2 (by omega);have gb:=Mesh.v_get t4 (by omega);have gc:=Mesh.v_get t6 (by omega);have hcl:=of_eq_true (Q3b m z (m.tris.take k) 4);have hcl':=of_eq_true (Q3b m z (m.tris.take k) 6);generalize hels:Yc m z (m.tris.take k)=els at *
      have hcut:J3 m z t=Za z (m.v t.a) (m.v t.b) (m.v t.c) 3:=Rfl rfl;by_cases he:els=[]
      ·subst he;simp[go_sem,apS,hlt,Mesh.cs,vsV,tsV,hp',tcs,vcs,t1,t2,t3,t4,t5,t6,show t.a.toNat<m.verts.length by omega,show t.b.toNat<m.verts.length by omega,show t.c.toNat<m.verts.length by omega,ga,gb,gc];generalize m.v t.a=va at *
       generalize m.v t.b=vb at *
       generalize m.v t.c=vc at *
       refine Q8 (α:=Nat) (λj=>j<=3)
        (λj=>⟨[(1,.i .i64 z),(2,.p 0 1 0 0),(7,.nil),(8,.i .i64 k),(9,.own 1 1 0 3),(10,.p 2 1 0 0),(11,.b (Za z va vb vc j).found),(12,.i .i64 j)],[.arr 1 2 [m.cs],.arr 1 3 [va.cs,vb.cs,vc.cs],.arr 1 4 [(Za z va vb vc j).cs]]⟩)
        (λj=>3-j) 0 (Nat.zero_le _) ?_ ?_
       ·simp[go_sem,vcs,Za,Sg4.init,Sg4.cs,Mesh.cs,vsV,tsV]
       ·intro j hj;obtain rfl | rfl | rfl | rfl:j=0∨j=1∨j=2∨j=3:=by omega
        ·have hs:Za z va vb vc 1=(Za z va vb vc 0).step z va vb:=Rfl rfl;generalize Za z va vb vc 0=s at hs ⊢;simp (disch:=omega) [go_sem,vcs,Sg4.cs,Q0];refine Qa (hq va vb z) ?_;cases h1:point va vb z<;>simp[go_sem,ptR]<;>simp (disch:=omega) [go_sem,Q0]<;>refine Qa (hq vb va z) ?_<;>cases h2:point vb va z<;>simp[go_sem,ptR] <;>
          simp (disch:=omega) [go_sem,Q0]<;>refine⟨1,by omega,by omega,?_⟩<;>rw[hs]<;>simp[go_sem,vcs,Sg4.cs,Sg4.step,h1,h2,Mesh.cs,vsV,tsV]
        ·have hs:Za z va vb vc 2=(Za z va vb vc 1).step z vb vc:=Rfl rfl;generalize Za z va vb vc 1=s at hs ⊢;simp (disch:=omega) [go_sem,vcs,Sg4.cs,Q0];refine Qa (hq vb vc z) ?_;cases h1:point vb vc z<;>simp[go_sem,ptR]<;>simp (disch:=omega) [go_sem,Q0]<;>refine Qa (hq vc vb z) ?_<;>cases h2:point vc vb z<;>simp[go_sem,ptR] <;>
          simp (disch:=omega) [go_sem,Q0]<;>refine⟨2,by omega,by omega,?_⟩<;>rw[hs]<;>simp[go_sem,vcs,Sg4.cs,Sg4.step,h1,h2,Mesh.cs,vsV,tsV]
        ·have hs:Za z va vb vc 3=(Za z va vb vc 2).step z vc va:=Rfl rfl;generalize Za z va vb vc 2=s at hs ⊢;simp (disch:=omega) [go_sem,vcs,Sg4.cs,Q0];refine Qa (hq vc va z) ?_;cases h1:point vc va z<;>simp[go_sem,ptR]<;>simp (disch:=omega) [go_sem,Q0]<;>refine Qa (hq va vc z) ?_<;>cases h2:point va vc z<;>simp[go_sem,ptR] <;>
          simp (disch:=omega) [go_sem,Q0]<;>refine⟨3,by omega,by omega,?_⟩<;>rw[hs]<;>simp[go_sem,vcs,Sg4.cs,Sg4.step,h1,h2,Mesh.cs,vsV,tsV]
        ·rw[<- hcut];cases hfo:(J3 m z t).found
         ·simp[go_sem,Sg4.cs];simp (disch:=omega) [go_sem,Q0];refine⟨k+1,by omega,by omega,?_⟩;rw[hsucc];simp[go_sem,hfo,Mesh.cs,vsV,tsV]
         ·simp[go_sem,Sg4.cs];simp (disch:=omega) [go_sem,Q0];refine⟨k+1,by omega,by omega,?_⟩;rw[hsucc];simp[go_sem,hfo,Mesh.cs,vsV,tsV,Sg4.cs]
      ·simp[go_sem,apS,hlt,Mesh.cs,vsV,tsV,he,hp',tcs,vcs,t1,t2,t3,t4,t5,t6,show t.a.toNat<m.verts.length by omega,show t.b.toNat<m.verts.length by omega,show t.c.toNat<m.verts.length by omega,ga,gb,gc];generalize m.v t.a=va at *
       generalize m.v t.b=vb at *
       generalize m.v t.c=vc at *
       refine Q8 (α:=Nat) (λj=>j<=3)
        (λj=>⟨[(1,.i .i64 z),(2,.p 0 1 0 0),(7,.own 3 els.length 0 els.length),(8,.i .i64 k),(9,.own 4 1 0 3),(10,.p 5 1 0 0),(11,.b (Za z va vb vc j).found),(12,.i .i64 j)],[.arr 1 2 [m.cs],O.dead,O.dead,O.arr els.length 4 els,.arr 1 3 [va.cs,vb.cs,vc.cs],.arr 1 4 [(Za z va vb vc j).cs]]⟩)
        (λj=>3-j) 0 (Nat.zero_le _) ?_ ?_
       ·simp[go_sem,vcs,Za,Sg4.init,Sg4.cs,Mesh.cs,vsV,tsV,he];exact hcl'
       ·intro j hj;obtain rfl | rfl | rfl | rfl:j=0∨j=1∨j=2∨j=3:=by omega
        ·have hs:Za z va vb vc 1=(Za z va vb vc 0).step z va vb:=Rfl rfl;generalize Za z va vb vc 0=s at hs ⊢;simp (disch:=omega) [go_sem,vcs,Sg4.cs,Q0];refine Qa (hq va vb z) ?_;cases h1:point va vb z<;>simp[go_sem,ptR]<;>simp (disch:=omega) [go_sem,Q0]<;>refine Qa (hq vb va z) ?_<;>cases h2:point vb va z<;>simp[go_sem,ptR] <;>
          simp (disch:=omega) [go_sem,Q0]<;>refine⟨1,by omega,by omega,?_⟩<;>rw[hs]<;>simp[go_sem,vcs,Sg4.cs,Sg4.step,h1,h2,Mesh.cs,vsV,tsV,he]<;>exact hcl'
        ·have hs:Za z va vb vc 2=(Za z va vb vc 1).step z vb vc:=Rfl rfl;generalize Za z va vb vc 1=s at hs ⊢;simp (disch:=omega) [go_sem,vcs,Sg4.cs,Q0];refine Qa (hq vb vc z) ?_;cases h1:point vb vc z<;>simp[go_sem,ptR]<;>simp (disch:=omega) [go_sem,Q0]<;>refine Qa (hq vc vb z) ?_<;>cases h2:point vc vb z<;>simp[go_sem,ptR] <;>
          simp (disch:=omega) [go_sem,Q0]<;>refine⟨2,by omega,by omega,?_⟩<;>rw[hs]<;>simp[go_sem,vcs,Sg4.cs,Sg4.step,h1,h2,Mesh.cs,vsV,tsV,he]<;>exact hcl'
        ·have hs:Za z va vb vc 3=(Za z va vb vc 2).step z vc va:=Rfl rfl;generalize Za z va vb vc 2=s at hs ⊢;simp (disch:=omega) [go_sem,vcs,Sg4.cs,Q0];refine Qa (hq vc va z) ?_;cases h1:point vc va z<;>simp[go_sem,ptR]<;>simp (disch:=omega) [go_sem,Q0]<;>refine Qa (hq va vc z) ?_<;>cases h2:point va vc z<;>simp[go_sem,ptR] <;>
          simp (disch:=omega) [go_sem,Q0]<;>refine⟨3,by omega,by omega,?_⟩<;>rw[hs]<;>simp[go_sem,vcs,Sg4.cs,Sg4.step,h1,h2,Mesh.cs,vsV,tsV,he]<;>exact hcl'
        ·rw[<- hcut];cases hfo:(J3 m z t).found
         ·simp[go_sem,Sg4.cs];simp (disch:=omega) [go_sem,Q0];refine⟨k+1,by omega,by omega,?_⟩;rw[hsucc];simp[go_sem,hfo,Mesh.cs,vsV,tsV,he];exact hcl
         ·simp[go_sem,Sg4.cs];simp (disch:=omega) [go_sem,Q0];refine⟨⟨by omega,by omega⟩,k+1,by omega,by omega,?_⟩;rw[hsucc];simp[go_sem,hfo,Mesh.cs,vsV,tsV,he,Sg4.cs];rintro el (he | rfl) x hx
          ·exact hcl el he x hx
          ·simp at hx;rcases hx with rfl | rfl | rfl | rfl<;>rfl
 ·have hres:Zg m z=([],m.check):=by simp only[Zg,hz,if_false]
  rw[hres];simp[go_sem,hz,L1v.r,Qlz,apV]
end
def E8:List P2->List Eg
 | a::b::l=>(a,b)::E8 (b::l)
 | _=>[]
def Qu:List P2->List Eg
 | []=>[]
 | a::l=>E8 (a::l++[a])
theorem Q9n:∀(l:List P2) (a b:P2),E8 (l++[a]++[b])=E8 (l++[a])++[(a,b)]
 | [],a,b=>rfl
 | [c],a,b=>rfl
 | c::d::l,a,b=>by
   have:=Q9n (d::l) a b;simp only[List.cons_append,E8]at this ⊢;rw[this]
theorem Qe4:∀l:List P2,(E8 l).length=l.length-1
 | []=>rfl
 | [a]=>rfl
 | a::b::l=>by
   have:=Qe4 (b::l);simp only[E8,List.length_cons]at this ⊢;omega
theorem Qe5:∀(l:List P2) (i:Nat) (h:i+1<l.length),(E8 l)[i]?=some (l[i],l[i+1])
 | [],i,h=>by simp at h
 | [a],i,h=>by simp at h
 | a::b::l,0,h=>rfl
 | a::b::l,i+1,h=>by
   have:=Qe5 (b::l) i (by simpa using h);simpa[E8]using this
theorem Kl (l:List P2):(Qu l).length=l.length:=by
 cases l with
 | nil=>rfl
 | cons a l=>unfold Qu;rw[Qe4];simp
theorem Qe0 {l:List P2} {i:Nat} (h:i<l.length):(Qu l)[i]?=some (l[i],l[(i+1) % l.length]'(Nat.mod_lt _ (by omega))):=by
 cases l with
 | nil=>simp at h
 | cons a l =>
   unfold Qu;rw[Qe5 (a::l++[a]) i (by simpa using h)];congr 2
   ·rw[List.getElem_append_left h]
   ·by_cases hi:i+1<(a::l).length
    ·rw[List.getElem_append_left hi];congr 1;exact(Nat.mod_eq_of_lt hi).symm
    ·have he:i+1=(a::l).length:=by omega
     have h0:(i+1) % (a::l).length=0:=by rw[he,Nat.mod_self]
     simp only[h0,he];simp
def W3 (l:List P2) (k:Nat):List Eg:=(Qu l).take k
theorem Q93 {l:List P2} {k:Nat} (h:k<l.length):W3 l (k+1)=W3 l k++[(l[k],l[(k+1) % l.length]'(Nat.mod_lt _ (by omega)))]:=by
 unfold W3;rw[List.take_add_one,Qe0 h];rfl
theorem Qdy (l:List P2):W3 l l.length=Qu l:=by
 unfold W3;rw[<- Kl l,qi]
theorem Q3f (l:List P2):(Qu l).map Prod.fst=l:=by
 apply qy;intro i;rw[qp];by_cases h:i<l.length
 ·rw[Qe0 h,q9 h];rfl
 ·rw[qk (by rw[Kl];omega),qk (by omega)];rfl
structure Trail (f c:P2) (vs:List P2) (R E:List Eg):Prop where
 pm:(E8 (vs++[c])++R).Perm E
 hd:(vs++[c]).head? = some f
 bal:∀p:P2,R.countP (λe=>decide (e.1=p))+(if p=f then 1 else 0)=R.countP (λe=>decide (e.2=p))+(if p=c then 1 else 0)
theorem Trail.start {R:List Eg} (h:Wq R) (f:P2):Trail f f [] R R:=⟨List.Perm.refl _,rfl,λp=>by rw[h p]⟩
theorem Trail.step {f c b:P2} {vs:List P2} {R R' E:List Eg} (h:Trail f c vs R E) (hp:R.Perm ((c,b)::R')):Trail f b (vs++[c]) R' E where
 pm:=by
  rw[Q9n];refine List.Perm.trans ?_ h.pm;rw[j6];exact List.Perm.append_left _ hp.symm
 hd:=by
  have:=h.hd;cases vs<;>simpa using this
 bal p:=by
  have:=h.bal p;rw[hp.countP_eq,hp.countP_eq,List.countP_cons,List.countP_cons]at this
  simp only[decide_eq_true_eq]at this;by_cases h1:c=p<;>by_cases h2:b=p
  ·subst h1;subst h2;simp only[if_true]at this ⊢;omega
  ·subst h1;simp only[if_true,if_neg h2,if_neg (show ¬ c=b from λhh=>h2 hh.symm)]at this ⊢;omega
  ·subst h2;simp only[if_true,if_neg h1,if_neg (show ¬ b=c from λhh=>h1 hh.symm)]at this ⊢;omega
  ·simp only[if_neg h1,if_neg h2,if_neg (show ¬ p=b from λhh=>h2 hh.symm),if_neg (show ¬ p=c from λhh=>h1 hh.symm)]at this ⊢;omega
theorem Trail.more {f c:P2} {vs:List P2} {R E:List Eg} (h:Trail f c vs R E) (hc:c≠f):∃e∈R,e.1=c:=by
 have:=h.bal c;rw[if_neg hc,if_pos rfl]at this
 have hp:0<R.countP λe=>decide (e.1=c):=by omega
 obtain⟨e,he,h2⟩:=List.countP_pos_iff.1 hp;exact⟨e,he,by simpa using h2⟩
theorem Trail.close {f:P2} {vs:List P2} {R E:List Eg} (h:Trail f f vs R E) (hn:vs≠[]):Wq R/\(Qu vs++R).Perm E:=by
 refine⟨λp=>by have:=h.bal p;omega,?_⟩;have h1:=h.pm;cases vs with
 | nil=>exact absurd rfl hn
 | cons a l =>
   have:=h.hd;simp at this;subst this;exact h1
def Sg4.eg (s:Sg4):Eg:=(⟨s.a.1,s.a.2⟩,⟨s.b.1,s.b.2⟩)
def egs (l:List Sg4):List Eg:=l.map Sg4.eg
def neE (es:List Eg):List Eg:=es.filter λe=>decide (e.1≠e.2)
theorem Qp1 {es:List Eg} (h:Wq es):Wq (neE es):=by
 intro p;have h1:∀(l:List Eg),l.countP (λe=>decide (e.1=p))=(neE l).countP (λe=>decide (e.1=p))+l.countP (λe=>decide (e.1=p/\e.2=p))/\l.countP (λe=>decide (e.2=p))=(neE l).countP (λe=>decide (e.2=p))+l.countP (λe=>decide (e.1=p/\e.2=p)):=by
  intro l
  induction l with
  | nil=>exact⟨rfl,rfl⟩
  | cons e l ih =>
    obtain⟨i1,i2⟩:=ih;unfold neE at *
    simp only[ne_eq]at i1 i2 ⊢;rw[List.filter_cons];obtain⟨u,v⟩:=e;by_cases hne:u=v
    ·subst hne;simp only[List.countP_cons,ne_eq,not_true_eq_false,decide_false,Bool.false_eq_true,if_false,decide_eq_true_eq,and_self];omega
    ·rw[if_pos (by simpa using hne)];simp only[List.countP_cons,decide_eq_true_eq];by_cases hu:u=p
     ·have hv:¬ v=p:=λhv=>hne (hu.trans hv.symm)
      simp only[if_pos hu,if_neg hv,if_neg (λhh:u=p/\v=p=>hv hh.2)];exact⟨by omega,by omega⟩
     ·simp only[if_neg hu,if_neg (λhh:u=p/\v=p=>hu hh.1)];exact⟨by omega,by omega⟩
 have:=h p;obtain⟨a,b⟩:=h1 es;omega
def Qd (ps:List (List P2)):V:=.l 1 (ps.map λp=>[psV p])
def E5.cs (e:E5):List V:=[.i .i64 e.lo.x,.i .i64 e.lo.y,.i .i64 e.hi.x,.i .i64 e.hi.y,.i .i64 e.sg]
def E5.ints (e:E5):List Int:=[e.lo.x,e.lo.y,e.hi.x,e.hi.y,e.sg]
def e5V (l:List E5):V:=.l 5 (l.map E5.cs)
structure E5B (e:E5):Prop where
 a1:-65536<=e.lo.x
 a2:e.lo.x<=65536
 b1:-65536<=e.lo.y
 b2:e.lo.y<=65536
 c1:-65536<=e.hi.x
 c2:e.hi.x<=65536
 d1:-65536<=e.hi.y
 d2:e.hi.y<=65536
 up:e.lo.y<e.hi.y
 s1:-1<=e.sg
 s2:e.sg<=1
structure PitchOk (k:Int):Prop where
 lo:32<=k
 hi:k<=1024
 ev:k % 2=0
theorem Qml {es:List Eg} (h:EgB es 65536) {e:E5} (he:e∈es.filterMap Q0t):E5B e:=by
 obtain⟨s,hs,h1⟩:=List.mem_filterMap.1 he;obtain⟨a,b,c,d⟩:=h s hs;unfold Q0t at h1;split at h1
 ·obtain rfl:=Option.some.inj h1;constructor<;>simp only[]<;>omega
 ·split at h1
  ·obtain rfl:=Option.some.inj h1;constructor<;>simp only[]<;>omega
  ·simp at h1
def Qia (P:Program) (f:FuncId):Prop:=∀(e:E5) (cy k:Int),E5B e->PitchOk k->e.lo.y<=cy->cy<e.hi.y->CallIs P f [.a e.cs,.i .i64 cy,.i .i64 k] (.a [.i .i64 (Qdi k cy e),.i .i64 e.sg])
def CenC (P:Program) (f:FuncId):Prop:=∀y k:Int,-10000<=y->y<=10000->PitchOk k->CallIs P f [.i .i64 y,.i .i64 k] (.i .i64 (y*k+k / 2))
theorem quoK {k:Int} (h:PitchOk k):k.tdiv 2=k / 2:=by
 rw[Int.tdiv_eq_ediv_of_nonneg];have:=h.lo;omega
theorem Qyv {e:E5} {cy k:Int} (h:E5B e) (hk:PitchOk k) (h1:e.lo.y<=cy) (h2:cy<e.hi.y) :
  (-17179869184<=e.lo.x*(e.hi.y-e.lo.y)/\e.lo.x*(e.hi.y-e.lo.y)<=17179869184)/\(-17179869184<=(e.hi.x-e.lo.x)*(cy-e.lo.y)/\(e.hi.x-e.lo.x)*(cy-e.lo.y)<=17179869184) /\
  (0<=k / 2*(e.hi.y-e.lo.y)/\k / 2*(e.hi.y-e.lo.y)<=134217728)/\(0<k*(e.hi.y-e.lo.y)/\k*(e.hi.y-e.lo.y)<=134217728):=by
 obtain⟨a1,a2,b1,b2,c1,c2,d1,d2,up,_,_⟩:=h;obtain⟨k1,k2,_⟩:=hk;have m1:=Ja (a:=e.lo.x) (b:=e.hi.y-e.lo.y) (k:=65536) (m:=131072) (by omega) (by omega);have m2:=Ja (a:=e.hi.x-e.lo.x) (b:=cy-e.lo.y) (k:=131072) (m:=131072) (by omega) (by omega);have m3:=Ja (a:=k / 2) (b:=e.hi.y-e.lo.y) (k:=512) (m:=131072) (by omega) (by omega)
 have m4:=Ja (a:=k) (b:=e.hi.y-e.lo.y) (k:=1024) (m:=131072) (by omega) (by omega);have p3:0<=k / 2*(e.hi.y-e.lo.y):=Int.mul_nonneg (by omega) (by omega);have p4:0<k*(e.hi.y-e.lo.y):=Int.mul_pos (by omega) (by omega);refine⟨⟨?_,?_⟩,⟨?_,?_⟩,⟨p3,?_⟩,p4,?_⟩<;>omega
theorem Qzi {e:E5} {cy k:Int} (h:E5B e) (hk:PitchOk k) (h1:e.lo.y<=cy) (h2:cy<e.hi.y):-100000000000<=Qdi k cy e/\Qdi k cy e<=100000000000:=by
 obtain⟨m1,m2,m3,m4⟩:=Qyv h hk h1 h2;unfold Qdi Qsn;generalize e.lo.x*(e.hi.y-e.lo.y)=A at *
 generalize (e.hi.x-e.lo.x)*(cy-e.lo.y)=B at *
 generalize k / 2*(e.hi.y-e.lo.y)=C at *
 generalize k*(e.hi.y-e.lo.y)=D at *
 have h3:(-(A+B-C)) / D<=90000000000:=by
  by_cases hn:0<=-(A+B-C)
  ·exact Int.le_trans (Int.ediv_le_self _ hn) (by omega)
  ·have:(-(A+B-C)) / D<0:=Int.ediv_neg_of_neg_of_pos (by omega) m4.1;omega
 have h4:-90000000000<=(-(A+B-C)) / D:=by
  rw[Int.le_ediv_iff_mul_le m4.1];have:-90000000000*D<=-90000000000*1:=Int.mul_le_mul_of_nonpos_left (by omega) (by omega);omega
 omega
section
variable {P:Program} (hm:P.follows .mixedOrders=true)
include hm
theorem Q3q {f:FuncId} (hf:Q5 P f L0p.c L0p.r L0p.n):CenC P f:=by
 intro y k h1 h2 hk;obtain⟨k1,k2,k3⟩:=hk;refine PI hm hf ?_;unfold L0p.c;have m1:=Ja (a:=y) (b:=k) (k:=10000) (m:=1024) (by omega) (by omega);have hq:=quoK ⟨k1,k2,k3⟩;generalize hA:y*k=A at *
 have w1:IntKind.i64.wrap A=A:=Q0 (by omega) (by omega);have w2:IntKind.i64.wrap (k / 2)=k / 2:=Q0 (by omega) (by omega);have w3:IntKind.i64.wrap (A+k / 2)=A+k / 2:=Q0 (by omega) (by omega);simp[go_sem,hq,hA,w1,w2,w3,L0p.r]
theorem Q6h {f fl:FuncId} (hf:Q5 P f (L0r.c fl) L0r.r L0r.n) (hl:Qi6 P fl):Qia P f:=by
 intro e cy k he hk h1 h2;obtain⟨m1,m2,m3,m4⟩:=Qyv he hk h1 h2;have hb:=Qzi he hk h1 h2;have hq:=quoK hk;obtain⟨a1,a2,b1,b2,c1,c2,d1,d2,up,_,_⟩:=he;obtain⟨k1,k2,k3⟩:=hk;refine PI hm hf ?_;unfold L0r.c;have w1:IntKind.i64.wrap (e.hi.y-e.lo.y)=e.hi.y-e.lo.y:=Q0 (by omega) (by omega);have w2:IntKind.i64.wrap (e.hi.x-e.lo.x)=e.hi.x-e.lo.x:=Q0 (by omega) (by omega)
 have w3:IntKind.i64.wrap (cy-e.lo.y)=cy-e.lo.y:=Q0 (by omega) (by omega);have w4:IntKind.i64.wrap (k / 2)=k / 2:=Q0 (by omega) (by omega);unfold Qdi Qsn at hb ⊢;generalize hA:e.lo.x*(e.hi.y-e.lo.y)=A at *
 generalize hB:(e.hi.x-e.lo.x)*(cy-e.lo.y)=B at *
 generalize hC:k / 2*(e.hi.y-e.lo.y)=C at *
 generalize hD:k*(e.hi.y-e.lo.y)=D at *
 have x1:IntKind.i64.wrap A=A:=Q0 (by omega) (by omega);have x2:IntKind.i64.wrap B=B:=Q0 (by omega) (by omega);have x3:IntKind.i64.wrap C=C:=Q0 (by omega) (by omega);have x4:IntKind.i64.wrap D=D:=Q0 (by omega) (by omega);have x5:IntKind.i64.wrap (A+B)=A+B:=Q0 (by omega) (by omega);have x6:IntKind.i64.wrap (A+B-C)=A+B-C:=Q0 (by omega) (by omega)
 have x7:IntKind.i64.wrap (-(A+B-C))=-(A+B-C):=Q0 (by omega) (by omega);have hl1:=hl (-(A+B-C)) D (by omega) (by omega) (by omega) (by omega);generalize (-(A+B-C)) / D=Q at *
 have x8:IntKind.i64.wrap (-Q)=-Q:=Q0 (by omega) (by omega);generalize hS:A+B-C=S at *
 simp[go_sem,E5.cs,w1,w2,w3,w4,hq,hA,hB,hC,hD,x1,x2,x3,x4,x5,x6,hS,x7];refine Q2 hl1 ?_;simp[go_sem,x8,L0r.r]
 done
end
def Qq (l:List Sg4):V:=.l 4 (l.map Sg4.cs)
theorem rnd_in {n d k:Int} (hd:0<d) (h1:0<=n) (h2:n<=k*d):0<=rnd n d/\rnd n d<=k:=by
 unfold rnd;refine⟨Int.ediv_nonneg (by omega) (by omega),?_⟩;have h4:k*(2*d)=2*(k*d):=by rw[Int.mul_left_comm]
 have h3:(2*n+d) / (2*d)<k+1:=Int.ediv_lt_of_lt_mul (by omega) (by rw[Int.add_mul];omega);omega
theorem rnd_in' {n d k:Int} (hd:0<d) (h1:n<=0) (h2:-(k*d)<=n):-k<=rnd n d/\rnd n d<=0:=by
 unfold rnd;constructor
 ·refine Int.le_ediv_of_mul_le (by omega) ?_;have:-k*(2*d)=-(2*(k*d)):=by rw[Int.neg_mul,Int.mul_left_comm]
  omega
 ·have h3:(2*n+d) / (2*d)<1:=Int.ediv_lt_of_lt_mul (by omega) (by omega);omega
theorem Qhn {c0 c1 z0 z1 z:Int} (h1:z0<=z) (h2:z<z1):min c0 c1<=Qbc c0 c1 z0 z1 z/\Qbc c0 c1 z0 z1 z<=max c0 c1:=by
 unfold Qbc;by_cases h:c0<=c1
 ·have h3:=rnd_in (n:=(c1-c0)*(2*z+1-2*z0)) (d:=2*(z1-z0)) (k:=c1-c0) (by omega) (Int.mul_nonneg (by omega) (by omega)) (jm (by omega) (by omega));omega
 ·have h4:(c1-c0)*(2*z+1-2*z0)=-((c0-c1)*(2*z+1-2*z0)):=by rw[<- Int.neg_mul];congr 1;omega
  have h5:0<=(c0-c1)*(2*z+1-2*z0):=Int.mul_nonneg (by omega) (by omega);have h6:(c0-c1)*(2*z+1-2*z0)<=(c0-c1)*(2*(z1-z0)):=jm (by omega) (by omega);have h3:=rnd_in' (n:=(c1-c0)*(2*z+1-2*z0)) (d:=2*(z1-z0)) (k:=c0-c1) (by omega) (by omega) (by omega);omega
def Qpv (l:List Sg4):Prop:=l.length<=4096/\EgB (egs l) 65536
def PtB (p:Int × Int):Prop:=(-65536<=p.1/\p.1<=65536)/\-65536<=p.2/\p.2<=65536
theorem V3.val_iff {v:V3}:v.valid=true↔(-65536<=v.x/\v.x<=65536)/\(-65536<=v.y/\v.y<=65536)/\-65536<=v.z/\v.z<=65536:=by
 unfold V3.valid V3.within;simp[and_assoc]
theorem Q1y {a b:V3} {z:Int} {p:Int × Int} (h:point a b z=some p):PtB p:=by
 unfold point at h;split at h
 ·rename_i hh;obtain⟨ha,hb,h1,h2⟩:=hh;obtain rfl:=Option.some.inj h;have a1:=V3.val_iff.1 ha;have b1:=V3.val_iff.1 hb;have x:=Qhn (c0:=a.x) (c1:=b.x) h1 h2;have y:=Qhn (c0:=a.y) (c1:=b.y) h1 h2;unfold PtB;simp only[];omega
 ·simp at h
theorem Qfd {z:Int} {s:Sg4} {u v:V3} (ha:PtB s.a) (hb:PtB s.b):PtB (s.step z u v).a/\PtB (s.step z u v).b:=by
 unfold Sg4.step;cases h1:point u v z<;>cases h2:point v u z<;>simp only[]
 ·exact⟨ha,hb⟩
 ·exact⟨Q1y h2,hb⟩
 ·exact⟨ha,Q1y h1⟩
 ·exact⟨Q1y h2,Q1y h1⟩
theorem cut3_bd (z:Int) (a b c:V3):PtB (Qdg z a b c).a/\PtB (Qdg z a b c).b:=by
 have h0:PtB Sg4.init.a/\PtB Sg4.init.b:=by unfold PtB Sg4.init;simp
 have h1:=Qfd (z:=z) (u:=a) (v:=b) h0.1 h0.2;have h2:=Qfd (z:=z) (u:=b) (v:=c) h1.1 h1.2;exact Qfd (z:=z) (u:=c) (v:=a) h2.1 h2.2
theorem segs_bd (m:Mesh) (z:Int) (ts:List T3):EgB (egs (Y4 m z ts)) 65536:=by
 intro e he;obtain⟨s,hs,rfl⟩:=qo.1 he;obtain⟨h1,_⟩:=qu.1 hs;obtain⟨t,_,rfl⟩:=qo.1 h1;obtain⟨h2,h3⟩:=cut3_bd z (m.v t.a) (m.v t.b) (m.v t.c);exact⟨h2.1,h2.2,h3.1,h3.2⟩
theorem sec_ok (m:Mesh) (z:Int):Qpv (Zg m z).1:=by
 unfold Zg;split
 ·rename_i hz;split
  ·exact⟨by simp,by intro e he;simp[egs]at he⟩
  ·refine⟨?_,segs_bd _ _ _⟩;have h1:=(Mesh.check_zero.1 hz).2.1;have h2:(Y4 m z m.tris).length<=m.tris.length:=by
    unfold Y4;exact Nat.le_trans (jc _ _) (by simp)
   exact Nat.le_trans h2 h1
 ·exact⟨by simp,by intro e he;simp[egs]at he⟩
def Z1 (n lo hi:Int):Bool:=decide (lo<=n) && decide (n<=hi) && decide (n % 2=0)
noncomputable def Z3 (m:Mesh) (z k:Int):List Rw × Int :=
 open Classical in
 if Z1 k 32 1024=false then ([],1) else if (Zg m z).2≠0 then ([],(Zg m z).2) else if Wq (egs (Zg m z).1) then (Ul (egs (Zg m z).1) k,0) else ([],12)
theorem Qv4 (m:Mesh) (z k:Int):RgV (Z3 m z k).1/\RgB (Z3 m z k).1:=by
 unfold Z3;split
 ·exact⟨RgV.nil,RgB.nil⟩
 ·split
  ·exact⟨RgV.nil,RgB.nil⟩
  ·split
   ·exact⟨Q2t _,Qbf _⟩
   ·exact⟨RgV.nil,RgB.nil⟩
def L0j.c (L0e L0k:FuncId):C :=(Bs [Au 1 (.box (.t 0)),Ab 2 false] (Bs [Ag 3 2 1,Au 4 (.call L0e [.t 3]),Ak .eql 5 4 0,Am 6 5,Av 7 6 (.fa 1 (.t 1)),Av 8 6 (.ld none (.t 7)),Av 9 6 (.call L0k [.t 8]),Ap 10 6 9,Am 2 10] .ret))
def L0j.r:List Rr:=[.tmp 2]
abbrev L0j.n:Nat:=11
def L0k.c (L0l:FuncId):C :=(Bs [Ab 2 false] (Bs [Au 8 (.mkm none),Am 3 8] (.seq (Bs [Am 9 0,An 10 0 9,Ac 11 0] (.blk 0 (.loop (Bs [Aj .lss 12 11 10] (.seq (.ite (.t 12) .skip (.exit 0)) (.seq (.blk 1 (Bs [Ai 13 3 9 11,Ag 14 3 13,Au 5 (.alloc [(.i .i64 0),(.i .i64 0),(.i .i64 0)]),As 3 5 14] (Bs [Ag 15 3 5,Au 16 (.call L0l [.t 15]),An 17 0 16,Ac 18 0] (.blk 2 (.loop (Bs [Aj .lss 19 18 17] (.seq (.ite (.t 19) .skip (.exit 2)) (.seq (.blk 3 (Bs [Ai 20 2 16 18,Ag 21 2 20,Au 7 (.alloc [(.i .i64 0),(.i .i64 0)]),As 2 7 21] (Bs [Am 22 3,Ag 23 2 7,⟨none,none,.eqa [1,1] false (.t 23) (.t 23)⟩,Au 24 (.lk [1,1] (.i .i64 0) false (.t 22) (.t 23)),
 Ad 25 24 1,Au 26 (.ment [1,1] (.i .i64 0) (.t 22) (.t 23)),Ax1 27 1 26,⟨none,none,.est (.t 22) (.t 27) (.t 25)⟩] (Bs [Am 28 3,Ag 29 2 7,Au 30 (.lk [1,1] (.i .i64 0) false (.t 28) (.t 29)),Ak .gtr 31 30 1] (.ite (.t 31) (Bs [Ab 2 false] .ret) .skip))))) (.reg [Ad 32 18 1,Am 18 32]))))))))) (.reg [Ad 33 11 1,Am 11 33]))))))) (Bs [Ab 2 true] .ret))))
def L0k.r:List Rr:=[.tmp 2]
abbrev L0k.n:Nat:=34
def L0l.c:C :=(Bs [Au 1 (.box (.t 0)),Az 2] (Bs [Az 3] (.seq (Bs [Af 6 0 1,Al 7 6,Af 8 1 1,Al 9 8,Au 10 (.build [(.i .i64 0),(.i .i64 0)] [(0,1,(.t 7)),(1,1,(.t 9))]),Af 11 1 1,Al 12 11,Af 13 2 1,Al 14 13,Au 15 (.build [(.i .i64 0),(.i .i64 0)] [(0,1,(.t 12)),(1,1,(.t 14))]),Af 16 2 1,Al 17 16,Af 18 0 1,Al 19 18,Au 20 (.build [(.i .i64 0),(.i .i64 0)] [(0,1,(.t 17)),(1,1,(.t 19))]),Au 21 (.build [(.i .i64 0),(.i .i64 0),(.i .i64 0),(.i .i64 0),(.i .i64 0),(.i .i64 0)] [(0,2,(.t 10)),(2,2,(.t 15)),(4,2,(.t 20))]),Ac 22 0] (.blk 0 (.loop (Bs [Ak .lss 23 22 3] (.seq (.ite (.t 23) .skip (.exit 0))
 (.seq (.blk 1 (Bs [Au 24 (.ix 3 2 (some 2) (.t 21) (.t 22)),Au 5 (.alloc [(.i .i64 0),(.i .i64 0)]),As 2 5 24] (Bs [Af 25 0 5,Al 26 25,Af 27 1 5,Al 28 27,Aj .neq 29 26 28] (.ite (.t 29) (.reg [Am 30 3,Ag 31 2 5,Au 32 (.bsi 2 1 [(.i .i64 0),(.i .i64 0)] [(0,(.t 31))]),Au 33 (.app 2 16 (.t 30) (.t 32)),Am 3 33]) .skip)))) (.reg [Ad 34 22 1,Am 22 34]))))))) (Bs [Am 35 3,Am 2 35] .ret))))
def L0l.r:List Rr:=[.tmp 2]
abbrev L0l.n:Nat:=36
def L1p.c (L18 L1q:FuncId):C :=(Bs [Au 1 (.box (.t 0)),Ab 2 false] (Bs [Ag 3 2 1,Au 4 (.call L18 [.t 3]),Ak .eql 5 4 0,Am 6 5,Av 7 6 (.fa 1 (.t 1)),Av 8 6 (.ld none (.t 7)),Av 9 6 (.call L1q [.t 8]),Ap 10 6 9,Am 2 10] .ret))
def L1p.r:List Rr:=[.tmp 2]
abbrev L1p.n:Nat:=11
def L1q.c (L1s:FuncId):C :=(Bs [Ab 2 false] (Bs [Az 3] (.seq (Bs [Ac 4 0] (.blk 0 (.loop (.seq (Bs [Am 7 4,Am 8 0,An 9 0 8,Aj .lss 10 7 9] (.ite (.t 10) .skip (.exit 0))) (.seq (.blk 1 (.reg [Am 13 3,Am 14 0,Am 15 4,Ai 16 3 14 15,Ag 17 3 16,Au 18 (.call L1s [.t 17]),Au 19 (.app 2 16 (.t 13) (.t 18)),Am 3 19])) (.reg [Am 11 4,Ad 12 11 1,Am 4 12])))))) (.seq (Bs [Ac 5 0] (.blk 2 (.loop (.seq (Bs [Am 20 5,Am 21 3,An 22 0 21,Aj .lss 23 20 22] (.ite (.t 23) .skip (.exit 2))) (.seq (.blk 3 (Bs [Ac 6 0] (.blk 4 (.loop (.seq (Bs [Am 26 6,Am 27 5,Aj .lss 28 26 27] (.ite (.t 28) .skip (.exit 4))) (.seq (.blk 5
 (.seq (.drw [Am 31 3,Am 32 5,Ai 33 2 31 32,Ag 34 2 33,Am 35 3,Am 36 6,Ai 37 2 35 36,Ag 38 2 37,Au 39 (.eqa [1,1] false (.t 34) (.t 38))] []) (.ite (.t 39) (Bs [Ab 2 false] .ret) .skip))) (.reg [Am 29 6,Ad 30 29 1,Am 6 30]))))))) (.reg [Am 24 5,Ad 25 24 1,Am 5 25])))))) (Bs [Ab 2 true] .ret)))))
def L1q.r:List Rr:=[.tmp 2]
abbrev L1q.n:Nat:=40
def L1s.c:C :=(Bs [Au 1 (.box (.t 0)),Az 2] (Bs [Af 6 0 1,Al 7 6,Af 8 1 1,Al 9 8,Au 10 (.build [(.i .i64 0),(.i .i64 0)] [(0,1,(.t 7)),(1,1,(.t 9))]),Af 11 1 1,Al 12 11,Af 13 2 1,Al 14 13,Au 15 (.build [(.i .i64 0),(.i .i64 0)] [(0,1,(.t 12)),(1,1,(.t 14))]),Af 16 2 1,Al 17 16,Af 18 0 1,Al 19 18,Au 20 (.build [(.i .i64 0),(.i .i64 0)] [(0,1,(.t 17)),(1,1,(.t 19))]),Au 21 (.bso 2 3 [(.i .i64 0),(.i .i64 0)] [(0,(.t 10)),(1,(.t 15)),(2,(.t 20))]),Am 3 21] (Bs [Az 4] (.seq (Bs [Ac 5 0] (.blk 0 (.loop (.seq (Bs [Am 22 5,Am 23 3,An 24 0 23,Aj .lss 25 22 24] (.ite (.t 25) .skip (.exit 0))) (.seq (.blk 1
 (.seq (.drw [Am 28 3,Am 29 5,Ai 30 2 28 29,Af 31 0 30,Al 32 31,Am 33 3,Am 34 5,Ai 35 2 33 34,Af 36 1 35,Al 37 36,Aj .neq 38 32 37] []) (.ite (.t 38) (.reg [Am 39 4,Am 40 3,Am 41 5,Ai 42 2 40 41,Ag 43 2 42,Au 44 (.bsi 2 1 [(.i .i64 0),(.i .i64 0)] [(0,(.t 43))]),Au 45 (.app 2 16 (.t 39) (.t 44)),Am 4 45]) .skip))) (.reg [Am 26 5,Ad 27 26 1,Am 5 27])))))) (Bs [Am 46 4,Am 2 46] .ret)))))
def L1s.r:List Rr:=[.tmp 2]
abbrev L1s.n:Nat:=47
theorem Qso (h:List O) (id:Nat):Zm h (.mp id)=match h[id]? with | some (.mp es)=>some es | some (.md es)=>some es | _=>none:=Rfl rfl
attribute [go_sem] Qso V.isT
def asE (p:P2 × Int):V × V:=(p.1.enc,.i .i64 p.2)
def fnd (e:P2):List (P2 × Int)->Option (Nat × Int)
 | []=>none
 | (k,n)::r=>if e=k then some (0,n) else (fnd e r).map λp=>(p.1+1,p.2)
theorem veq2 (a b:P2):Zi [1,1] a.enc.cells b.enc.cells=some (decide (a=b)):=by
 cases a;cases b;simp[Zi,P2.enc,P2.cs,V.cells,Q8v,P2.mk.injEq];rw[Bool.eq_iff_iff];simp
theorem Qki (e:P2):∀L:List (P2 × Int),Qo [1,1] e.enc (L.map asE)=some ((fnd e L).map λp=>(p.1,.i .i64 p.2))
 | []=>rfl
 | (k,n)::r=>by
   simp only[List.map_cons,asE,Qo,fnd];rw[if_pos (by rfl),veq2];by_cases h:e=k
   ·simp[h]
   ·simp only[h,decide_false,if_false];have:=Qki e r;rw[this];cases fnd e r<;>rfl
theorem Qb2 {e:P2}:∀{L:List (P2 × Int)},fnd e L=none↔∀p∈L,p.1≠e
 | []=>by simp[fnd]
 | (k,n)::r=>by
   simp only[fnd];by_cases h:e=k
   ·simp[h]
   ·have h':¬ k=e:=λhh=>h hh.symm
    rw[if_neg h,Option.map_eq_none_iff,Qb2 (L:=r)];simp[h']
theorem Qh5 {e:P2} {n:Int}:∀{L:List (P2 × Int)},fnd e L=none->fnd e (L++[(e,n)])=some (L.length,n)
 | [],_=>by simp[fnd]
 | (k,m)::r,h=>by
   simp only[fnd]at h;by_cases hk:e=k
   ·simp[hk]at h
   ·simp only[hk,if_false,Option.map_eq_none_iff]at h;simp[fnd,hk,Qh5 h]
theorem Uq {e:P2} {i:Nat} {n n':Int}:∀{L:List (P2 × Int)},fnd e L=some (i,n)->L[i]?=some (e,n)/\fnd e (L.set i (e,n'))=some (i,n')
 | [],h=>by simp[fnd]at h
 | (k,m)::r,h=>by
   simp only[fnd]at h;by_cases hk:e=k
   ·simp[hk]at h;obtain⟨rfl,rfl⟩:=h;simp[fnd,hk]
   ·simp only[hk,if_false,qa,Prod.mk.injEq]at h;obtain⟨⟨j,n1⟩,hj,rfl,rfl⟩:=h;have:=Uq (n':=n') hj;simp[fnd,hk,this.1,this.2]
end Go.Abs
