/- Part of the library on which the proof stands: an abstract machine, its values and its soundness against the model; or what functions of the program do to such values. -/
import Derived.Test.YtjggbpiapinceaaGreatGoUpS
import Derived.Test.YtjggbpiapinceaaGreatGoShpO
import Derived.Test.YtjggbpiapinceaaGreatGoOy
import Derived.Test.YtjggbpiapinceaaGreatGoSp
import Derived.Test.YtjggbpiapinceaaGreatAbsSS
import Derived.Test.YtjggbpiapinceaaGreatGoRsD
set_option linter.unusedVariables false
set_option linter.unusedSimpArgs false
set_option maxHeartbeats 16000000
set_option maxRecDepth 20000
namespace Go.Abs
def shB (m:Mesh) (d:V3) (z k:Int):Prop:=Q8k m=true/\(-65536<=z/\z<=65536)/\(32<=k/\k<=1024)/\k.tmod 2=0/\(-100<=d.x/\d.x<=100)/\(-100<=d.y/\d.y<=100)/\(-1000<=d.z/\d.z<=1000)/\-65536<=z+d.z/\z+d.z<=65536
theorem Qbv {m:Mesh} {d:V3} (h:m.check=0) (hk:Yh (m.verts.map (·.add d))=true):(m.mapV (·.add d)).check=0:=by
 rw[Mesh.check_zero]at h ⊢
 obtain⟨h1,h2,h3,h4⟩:=h
 refine⟨by simpa[Mesh.mapV]using h1,by simpa[Mesh.mapV]using h2,by simpa[Mesh.mapV]using hk,?_⟩
 simpa[Mesh.mapV]using h4
section
variable {P:Program} (hm:P.follows .mixedOrders=true)
include hm
theorem Q7j {f fl fa fv fs fh fe:FuncId} (hf:Qa P f (L00.c fl fa fv fs fh fe) L00.r L00.n) (hl:Qah P fl) (ha:Q3j P fa) (m:Mesh) (d:V3) (p:P2) (hn:¬ shB m d p.x p.y) :
  PureC P f [m.enc,d.enc,p.enc] (·=.b true):=by
 have l1:=hl m
 simp only[Mesh.enc,Mesh.cs]at l1
 obtain⟨z,k⟩:=p
 obtain⟨dx,dy,dz⟩:=d
 unfold shB at hn
 simp only[]at hn
 refine Q8 hm hf (qh rfl) ?_
 unfold L00.c
 simp[go_sem,Mesh.enc,Mesh.cs,V3.enc,V3.cs,P2.enc,P2.cs]
 refine Q5 l1 ?_
 cases h0:Q8k m with
 | false =>
   simp[go_sem]
   refine Q5 ha ?_
   simp[go_sem,L00.r]
 | true =>
 by_cases h1:z < -65536
 ·simp[go_sem,h1]
  refine Q5 ha ?_
  simp[go_sem,L00.r]
 by_cases h2:65536<z
 ·simp[go_sem,h1,h2]
  refine Q5 ha ?_
  simp[go_sem,L00.r]
 by_cases h3:k<32
 ·simp[go_sem,h1,h2,h3]
  refine Q5 ha ?_
  simp[go_sem,L00.r]
 by_cases h4:1024<k
 ·simp[go_sem,h1,h2,h3,h4]
  refine Q5 ha ?_
  simp[go_sem,L00.r]
 by_cases h5:k.tmod 2=0
 case neg =>
  have h5':(k.tmod 2 != 0)=true:=by simpa using h5
  simp[go_sem,h1,h2,h3,h4,h5,h5']
  refine Q5 ha ?_
  simp[go_sem,L00.r]
 by_cases h6:dx < -100
 ·simp[go_sem,h1,h2,h3,h4,h5,h6]
  refine Q5 ha ?_
  simp[go_sem,L00.r]
 by_cases h7:100<dx
 ·simp[go_sem,h1,h2,h3,h4,h5,h6,h7]
  refine Q5 ha ?_
  simp[go_sem,L00.r]
 by_cases h8:dy < -100
 ·simp[go_sem,h1,h2,h3,h4,h5,h6,h7,h8]
  refine Q5 ha ?_
  simp[go_sem,L00.r]
 by_cases h9:100<dy
 ·simp[go_sem,h1,h2,h3,h4,h5,h6,h7,h8,h9]
  refine Q5 ha ?_
  simp[go_sem,L00.r]
 by_cases ha1:dz < -1000
 ·simp[go_sem,h1,h2,h3,h4,h5,h6,h7,h8,h9,ha1]
  refine Q5 ha ?_
  simp[go_sem,L00.r]
 by_cases ha2:1000<dz
 ·simp[go_sem,h1,h2,h3,h4,h5,h6,h7,h8,h9,ha1,ha2]
  refine Q5 ha ?_
  simp[go_sem,L00.r]
 have hw:IntKind.i64.wrap (z+dz)=z+dz:=Q3 (by omega) (by omega)
 by_cases ha3:65536<z+dz
 ·simp[go_sem,h1,h2,h3,h4,h5,h6,h7,h8,h9,ha1,ha2,hw,ha3]
  refine Q5 ha ?_
  simp[go_sem,L00.r]
 have ha4:z+dz < -65536:=by
  refine j7 λh=>hn ⟨h0,?_⟩
  omega
 simp[go_sem,h1,h2,h3,h4,h5,h6,h7,h8,h9,ha1,ha2,hw,ha3,ha4]
 refine Q5 ha ?_
 simp[go_sem,L00.r]
theorem Q4d {f fl fa fv fs fh fe:FuncId} (hf:Qa P f (L00.c fl fa fv fs fh fe) L00.r L00.n) (hl:Qah P fl) (ha:Q3j P fa) (hv:Qek P fv) (hs:Q3d P fs) (hh:Iw P fh) (he:Q3e P fe) (m:Mesh) (d:V3) (p:P2) (hn:shB m d p.x p.y) :
  PureC P f [m.enc,d.enc,p.enc] (·=.b true):=by
 have l1:=hl m
 obtain⟨z,k⟩:=p
 obtain⟨dx,dy,dz⟩:=d
 unfold shB at hn
 simp only[]at hn
 obtain⟨h0,h1,h3,h5,h6,h8,h10,h12⟩:=hn
 have hkm:k.tmod 2=k % 2:=jn (by omega)
 have hk:Zz k 32 1024=true:=by unfold Zz;simp;omega
 have m1:=Wa (a:=dx) (b:=k) (k:=100) (m:=1024) (by omega) (by omega)
 have m2:=Wa (a:=dy) (b:=k) (k:=100) (m:=1024) (by omega) (by omega)
 have v1:=hv m ⟨dx*k,dy*k,dz⟩ (by unfold V3.inR;simp[inI_iff];omega)
 rw[h0]at l1
 have s1:=hs m z k
 have s2:=hs (m.mapV (·.add ⟨dx*k,dy*k,dz⟩)) (z+dz) k
 have hc:m.check=0->Yh (m.verts.map (·.add ⟨dx*k,dy*k,dz⟩))=true->_:=λa b=>Qbu (m:=m) a (Qbv a b) hk h6 h8 h1 h12
 have hg:=Q8n m z k
 have hg2:=Q8n (m.mapV (·.add ⟨dx*k,dy*k,dz⟩)) (z+dz) k
 have hw:IntKind.i64.wrap (z+dz)=z+dz:=Q3 (by omega) (by omega)
 have hw1:IntKind.i64.wrap (dx*k)=dx*k:=Q3 (by omega) (by omega)
 have hw2:IntKind.i64.wrap (dy*k)=dy*k:=Q3 (by omega) (by omega)
 unfold I6 at v1
 simp only[Mesh.enc,Mesh.cs,V3.enc,V3.cs]at l1 v1 s1 s2
 refine Q8 hm hf (qh rfl) ?_
 unfold L00.c
 simp[go_sem,Mesh.enc,Mesh.cs,V3.enc,V3.cs,P2.enc,P2.cs]
 refine Q5 l1 ?_
 simp[go_sem,show ¬ z < -65536 by omega,show ¬ 65536<z by omega,show ¬ k<32 by omega,show ¬ 1024<k by omega,h5,show ¬ dx < -100 by omega,show ¬ 100<dx by omega,show ¬ dy < -100 by omega,show ¬ 100<dy by omega,show ¬ dz < -1000 by omega,show ¬ 1000<dz by omega,hw,show ¬ 65536<z+dz by omega,show ¬ z+dz < -65536 by omega,hw1,hw2]
 by_cases hz:m.check=0
 case neg =>
  rw[if_pos hz]at v1
  refine Q5 v1 ?_
  simp[go_sem,X5,X4,Mesh.enc,Mesh.cs]
  refine Q5 ha ?_
  simp[go_sem,L00.r]
 rw[if_neg (by simpa using hz)]at v1
 by_cases hk2:Yh (m.verts.map (·.add ⟨dx*k,dy*k,dz⟩))=true
 case neg =>
  rw[if_pos (by simpa using hk2)]at v1
  refine Q5 v1 ?_
  simp[go_sem,X5,X4,Mesh.enc,Mesh.cs]
  refine Q5 ha ?_
  simp[go_sem,L00.r]
 rw[if_neg (by simpa using hk2)]at v1
 obtain⟨hc1,hc2⟩:=hc hz hk2
 clear hc hk2
 generalize m.mapV (·.add ⟨dx*k,dy*k,dz⟩)=n at *
 refine Q5 v1 ?_
 simp[go_sem,X5,Mesh.enc,Mesh.cs]
 refine Q5 s1 ?_
 simp[go_sem,rgV,hw]
 refine Q5 s2 ?_
 rw[hc1]
 by_cases hf0:(Zd m z k).2=0
 case neg =>
  have hf':((Zd m z k).2 != 0)=true:=by simpa using hf0
  simp[go_sem,rgV,hf0,hf']
  refine Q5 ha ?_
  simp[go_sem,L00.r]
 have hsh:=hc2 hf0
 have h4:=hh (Zd m z k).1 dx dy hg.1 hg.2 (by rw[<- hsh];exact hg2.2) h6 h8
 have e1:=he (Zd n (z+dz) k).1 (J6 (Zd m z k).1 dx dy) hg2.1 (by rw[<- hsh];exact hg2.1) hg2.2 (by rw[<- hsh];exact hg2.2)
 rw[decide_eq_true hsh]at e1
 simp only[rgV]at h4 e1
 simp[go_sem,rgV,hf0]
 refine Q5 h4 ?_
 simp[go_sem]
 refine Q5 e1 ?_
 simp[go_sem]
 refine Q5 ha ?_
 simp[go_sem,L00.r]
theorem TopShifts_ok {f fl fa fv fs fh fe:FuncId} (hf:Qa P f (L00.c fl fa fv fs fh fe) L00.r L00.n) (hl:Qah P fl) (ha:Q3j P fa) (hv:Qek P fv) (hs:Q3d P fs) (hh:Iw P fh) (he:Q3e P fe) (m:Mesh) (d:V3) (p:P2) :
  PureC P f [m.enc,d.enc,p.enc] (·=.b true):=by
 by_cases hn:shB m d p.x p.y
 ·exact Q4d hm hf hl ha hv hs hh he m d p hn
 ·exact Q7j hm hf hl ha m d p hn
end
theorem Qfu (e:Int):Le (.t [.nil,.i .i64 e]) (.t [Qo [],.i .i64 e]):=.inr ⟨_,_,rfl,rfl,.inl (Le0.nil 1),Le1.refl _,trivial⟩
theorem Q8w {p:P2} (h:(-65536<=p.x/\p.x<=65536)/\-65536<=p.y/\p.y<=65536):p.valid=true:=P2.valid_iff.2 ⟨by omega,by omega,by omega,by omega⟩
theorem Q4k {l:List Sg4} (h:Qeh l) {s:Sg4} (hs:s∈l):s.eg.1.valid=true/\s.eg.2.valid=true:=by
 obtain⟨a,b,c,d⟩:=h.2 s.eg (qo.2 ⟨s,hs,rfl⟩)
 exact⟨Q8w ⟨a,b⟩,Q8w ⟨c,d⟩⟩
theorem Qdn (s:Sg4):s.eg.1.enc=.a [.i .i64 s.a.1,.i .i64 s.a.2]:=rfl
theorem Qdm (s:Sg4):s.eg.2.enc=.a [.i .i64 s.b.1,.i .i64 s.b.2]:=rfl
def Q5a (a b:P2):Int:=if a.x<b.x∨(a.x=b.x/\a.y<b.y) then -1 else if a=b then 0 else 1
theorem Jg (a b:P2):ltC Q5a a b=decide (a.x<b.x∨(a.x=b.x/\a.y<b.y)):=by
 unfold ltC Q5a
 by_cases h:a.x<b.x∨(a.x=b.x/\a.y<b.y)
 ·simp[h]
 ·rw[if_neg h]
  by_cases h2:a=b<;>simp[h,h2]
theorem Qh4:Go.Sort.SWO (ltC Q5a) where
 irrefl x:=by rw[Jg];simp
 trans x y z:=by
  rw[Jg,Jg,Jg]
  simp only[decide_eq_true_eq]
  omega
 ntrans x y z:=by
  rw[Jg,Jg,Jg]
  simp only[decide_eq_false_iff_not]
  omega
def Q7q (P:Program) (f:FuncId):Prop:=∀a b:P2,CallIs P f [a.enc,b.enc] (.i .i64 (Q5a a b))
def Qkn (o:O) (ents:List (V × V)):Prop:=o=.mp ents∨o=.md ents
def Q7k (P:Program) (f:FuncId):Prop:=∀(h:List O) (id:Nat) (o:O) (ents:List (V × V)) (e:P2) (i q g off n:Nat) (els:List (List V)) (v:P2),Qkn o ents->h[id]?=some o ->
 Qk [1,1] e.enc ents=some (some (i,.own q g off n))->h[q]?=some (.arr g 2 els)->1<=n->off+n<=els.length->els[off]?=some v.cs ->
 ACall P f [.mp id,e.enc] h (λr h'=>r=v.enc/\((n=1/\h'=h.set id (.md (ents.eraseIdx i)))∨(n≠1/\∃o',Qkn o' (ents.set i (e.enc,.own q g (off+1) (n-1)))/\h'=h.set id o')))
section
variable {P:Program} (hm:P.follows .mixedOrders=true)
include hm
theorem Im {f:FuncId} (hf:Qa P f L09.c L09.r L09.n):Q7q P f:=by
 intro a b
 refine PureC.is (Q8 hm hf (qh rfl) ?_) rfl
 unfold L09.c Q5a
 by_cases h1:a.x<b.x
 ·simp[go_sem,P2.enc,P2.cs,h1,L09.r]
 ·by_cases h2:a.x=b.x
  ·by_cases h3:a.y<b.y
   ·simp[go_sem,P2.enc,P2.cs,h2,h3,L09.r]
   ·by_cases h4:a.y=b.y
    ·simp[go_sem,P2.enc,P2.cs,h2,h4,p2_iff,L09.r]
    ·simp[go_sem,P2.enc,P2.cs,h2,h3,h4,p2_iff,L09.r]
  ·have h2':(a.x == b.x)=false:=by simpa using h2
   simp[go_sem,P2.enc,P2.cs,h1,h2,h2',p2_iff,L09.r]
theorem Q17 {f:FuncId} (hf:Qa P f L0b.c L0b.r L0b.n):Q7k P f:=by
 intro h id o ents e i q g off n els v ho hid hfe hq hn hol hv
 refine Ko λhcl=>?_
 obtain⟨hlt,hid'⟩:=q8.1 hid
 obtain⟨hqt,hq'⟩:=q8.1 hq
 have hvl:=(q8.1 hv).1
 obtain⟨_,hv'⟩:=q8.1 hv
 have hqid:q≠id:=by
  rintro rfl
  rw[hid]at hq
  rcases ho with rfl | rfl<;>simp at hq
 have hqs:∀o',(h.set id o')[q]?=some (.arr g 2 els):=λo'=>by rw[qt (λhh=>hqid hh.symm)];exact hq
 have hqs':∀o' (hh:q<(h.set id o').length),(h.set id o')[q]=.arr g 2 els:=λo' hh=>(q8.1 (hqs o')).2
 have hentcl:∀N,h.length<=N->∀x∈ents,x.1.cl N=true/\x.2.cl N=true:=λN hN x hx=>by
  have:=hcl N hN o (qb hid)
  rcases ho with rfl | rfl<;>exact this x hx
 have hpad:∀(o':O) (l:List O) (N:Nat),h.length<=N->o'.cl N->WeakH N (h.set id o'++l) (h.set id o'):=λo' l N hN ho'=>by
  have:=Ql (n:=N) (a:=l) (b:=[]) (h:=h.set id o') (λo1 h1=>by
   rcases List.mem_or_eq_of_mem_set h1 with h1 | rfl
   ·exact hcl N hN o1 h1
   ·exact ho') (by cases l<;>trivial)
  rwa [List.append_nil]at this
 refine Kl hm hf (qh rfl) ?_
 unfold L0b.c
 generalize hK:Q5k h.length L0b.r _=K
 simp only[P2.enc,P2.cs]at hfe hv
 have hqa:∀(o':O) (l:List O),(h.set id o'++l)[q]?=some (.arr g 2 els):=λo' l=>by
  rw[qd (by rw[List.length_set];exact hqt)];exact hqs o'
 have g0:∀(o':O) (l:List O),(h.set id o'++l)[h.length]?=l[0]?:=λo' l=>by
  have:=Qc (h.set id o') l
  rwa [List.length_set]at this
 have gk:∀(o':O) (l:List O) (k:Nat),(h.set id o'++l)[h.length+k]?=l[k]?:=λo' l k=>by
  have:=Q9 (h.set id o') l k
  rwa [List.length_set]at this
 have sk:∀(o':O) (l:List O) (k:Nat) (x:O),(h.set id o'++l).set (h.length+k) x=h.set id o'++l.set k x:=λo' l k x=>by
  have:=Qg (h.set id o') l k x
  rwa [List.length_set]at this
 have fin:∀(env:List (Nat × V)) (o':O) (x:O),get 4 env=.p (h.length+1) 1 0 0->(∀N,h.length<=N->o'.cl N) ->
   ((n=1/\o'=.md (ents.eraseIdx i))∨(n≠1/\Qkn o' (ents.set i (e.enc,.own q g (off+1) (n-1))))) ->
   K .r ⟨env,h.set id o'++[x,.arr 1 2 [v.cs]]⟩:=by
  intro env o' x henv hocl hor
  rw[<- hK,Q1j]
  refine⟨[v.enc],h.set id o',?_,rfl,?_,by simp,by simp,hpad o' _ _ (by simp) (hocl _ (by simp)),rfl,?_⟩
  ·simp[L0b.r,Yt,henv,gk,Ya,Xp,P2.cs,P2.enc]
  ·simp[P2.enc,P2.cs,V.cl,V.cl1,V.cl0]
  ·rcases hor with⟨a,rfl⟩ | ⟨a,b⟩
   ·exact .inl ⟨a,rfl⟩
   ·exact .inr ⟨a,o',b,rfl⟩
 have hecl:∀N,h.length<=N->(O.md (ents.eraseIdx i)).cl N:=λN hN x hx=>hentcl N hN x (List.mem_of_mem_eraseIdx hx)
 have hscl:∀N,h.length<=N->∀x∈ents.set i (e.enc,.own q g (off+1) (n-1)),x.1.cl N=true/\x.2.cl N=true:=λN hN x hx=>by
  rcases List.mem_or_eq_of_mem_set hx with h1 | rfl
  ·exact hentcl N hN x h1
  ·simp[P2.enc,P2.cs,V.cl,V.cl1,V.cl0];omega
 simp only[P2.enc,P2.cs]at fin hscl
 by_cases h1:n=1
 ·subst h1
  rcases ho with rfl | rfl
  ·simp (disch:=omega) [go_sem,P2.enc,P2.cs,hid,hid',hlt,hqt,hq,hq',hfe,hv,hv',hvl,hqa,gk,g0,sk,Q9,Qc,Qg,Qh,Xm hlt,Iq hlt,Xm hqt]
   exact fin _ _ _ (by simp[go_sem]) hecl (.inl ⟨rfl,rfl⟩)
  ·simp (disch:=omega) [go_sem,P2.enc,P2.cs,hid,hid',hlt,hqt,hq,hq',hfe,hv,hv',hvl,hqa,gk,g0,sk,Q9,Qc,Qg,Qh,Xm hlt,Iq hlt,Xm hqt]
   exact fin _ _ _ (by simp[go_sem]) hecl (.inl ⟨rfl,rfl⟩)
 ·have hn1:¬ ((n:Int)=1):=by omega
  have hn2:(n == 1)=false:=by simpa using h1
  rcases ho with rfl | rfl
  ·simp (disch:=omega) [go_sem,P2.enc,P2.cs,hid,hid',hlt,hqt,hq,hq',hfe,hv,hv',hvl,hqa,gk,g0,sk,h1,hn1,hn,Q9,Qc,Qg,Qh,Xm hlt,Iq hlt,Xm hqt]
   refine⟨by omega,fin _ _ _ ?_ ?_ ?_⟩
   ·simp[go_sem]
   ·exact λN hN=>hscl N hN
   ·exact .inr ⟨h1,.inl rfl⟩
  ·simp (disch:=omega) [go_sem,P2.enc,P2.cs,hid,hid',hlt,hqt,hq,hq',hfe,hv,hv',hvl,hqa,gk,g0,sk,h1,hn1,hn,Q9,Qc,Qg,Qh,Xm hlt,Iq hlt,Xm hqt]
   refine⟨by omega,fin _ _ _ ?_ ?_ ?_⟩
   ·simp[go_sem]
   ·exact λN hN=>hscl N hN
   ·exact .inr ⟨h1,.inr rfl⟩
end
def U4 (L:List (P2 × Int)) (e:P2):Int:=match Z6 e L with | some (_,n)=>n | none=>0
def Km (L:List (P2 × Int)) (e:P2) (d:Int):List (P2 × Int):=Q8x e (U4 L e+d) L
theorem Q86 (L:List (P2 × Int)) (e:P2):U4 L e=((Z6 e L).map Prod.snd).getD 0:=by
 unfold U4;cases Z6 e L with
 | none=>rfl
 | some p=>rfl
theorem B1 (L:List (P2 × Int)) (e e':P2) (d:Int):U4 (Km L e d) e'=U4 L e'+if e'=e then d else 0:=by
 rw[Q86 (Km L e d),Km,Qld]
 by_cases h:e'=e
 ·subst h;simp
 ·rw[if_neg h,if_neg h,<- Q86];omega
def Qak (L:List (P2 × Int)):Prop:=(L.map Prod.fst).Nodup
theorem Q08 {L:List (P2 × Int)} (h:Qak L) (e:P2) (d:Int):Qak (Km L e d)/\(Km L e d).length<=L.length+1/\∀x,x∈(Km L e d).map Prod.fst↔x∈L.map Prod.fst∨x=e:=by
 have hk:=Qfs e (U4 L e+d) L
 unfold Qak Km
 rw[hk]
 have hl:(Q8x e (U4 L e+d) L).length=((Q8x e (U4 L e+d) L).map Prod.fst).length:=by simp
 rw[hl,hk]
 by_cases hm:e∈L.map Prod.fst
 ·rw[if_pos hm]
  refine⟨h,by simp,λx=>⟨.inl,?_⟩⟩
  rintro (hx | rfl)
  ·exact hx
  ·exact hm
 ·rw[if_neg hm]
  refine⟨?_,by simp,λx=>by simp⟩
  rw[List.nodup_append]
  exact⟨h,by simp,λa ha b hb=>by simp at hb;subst hb;rintro rfl;exact hm ha⟩
def K2 (l:List Sg4) (k:Nat):List (P2 × Int):=(l.take k).foldl (λL s=>Km (Km L s.eg.1 1) s.eg.2 (-1)) []
theorem Q4u {l:List Sg4} {k:Nat} {s:Sg4} (h:l[k]?=some s):K2 l (k+1)=Km (Km (K2 l k) s.eg.1 1) s.eg.2 (-1):=by
 unfold K2
 rw[List.take_add_one,h]
 simp
theorem Q1c (l:List Sg4):∀k,k<=l.length->Qak (K2 l k)/\(K2 l k).length<=2*k/\(∀p,U4 (K2 l k) p=Ee (egs (l.take k)) p)/\∀e∈egs (l.take k),e.1∈(K2 l k).map Prod.fst/\e.2∈(K2 l k).map Prod.fst
 | 0,_=>⟨by simp[K2,Qak],by simp[K2],λp=>by simp[K2,U4,Z6,Ee,egs],by simp[egs]⟩
 | k+1,h=>by
   obtain⟨h1,h2,h3,h4⟩:=Q1c l k (by omega)
   have hq:=W3 (show k<l.length by omega)
   generalize Qb9 l k=s at hq
   obtain⟨a1,a2,a3⟩:=Q08 h1 s.eg.1 1
   obtain⟨b1,b2,b3⟩:=Q08 a1 s.eg.2 (-1)
   rw[Q4u hq,Q88 l hq]
   refine⟨b1,by omega,λp=>?_,λe he=>?_⟩
   ·rw[B1,B1,h3,Qh9]
    by_cases c1:p=s.eg.1<;>by_cases c2:p=s.eg.2
    ·rw[if_pos c1,if_pos c2,if_pos c1.symm,if_pos c2.symm];omega
    ·rw[if_pos c1,if_neg c2,if_pos c1.symm,if_neg (λh=>c2 h.symm)];omega
    ·rw[if_neg c1,if_pos c2,if_neg (λh=>c1 h.symm),if_pos c2.symm];omega
    ·rw[if_neg c1,if_neg c2,if_neg (λh=>c1 h.symm),if_neg (λh=>c2 h.symm)];omega
   ·rcases qg.1 he with he | he
    ·obtain⟨q1,q2⟩:=h4 e he
     exact⟨(b3 _).2 (.inl ((a3 _).2 (.inl q1))),(b3 _).2 (.inl ((a3 _).2 (.inl q2)))⟩
    ·rw[qn.1 he]
     exact⟨(b3 _).2 (.inl ((a3 _).2 (.inr rfl))),(b3 _).2 (.inr rfl)⟩
theorem Qk1 (l:List Sg4):Qab (egs l)=(K2 l l.length).all λp=>decide (p.2=0):=by
 obtain⟨h1,h2,h3,h4⟩:=Q1c l l.length (Nat.le_refl _)
 rw[qi]at h3 h4
 have hv:∀p n,(p,n)∈K2 l l.length->n=Ee (egs l) p:=by
  intro p n hp
  obtain⟨i,hi⟩:=qq hp
  have:=Yf h1 hi
  rw[<- h3 p];unfold U4;rw[this]
 rw[Bool.eq_iff_iff]
 unfold Qab
 rw[qj,qj]
 constructor
 ·rintro h ⟨p,n⟩ hp
  have hb:=balB_iff.1 (qj.2 h:Qab (egs l)=true) p
  have:=hv p n hp
  unfold Ee at this
  simp only[decide_eq_true_eq];omega
 ·intro h e he
  obtain⟨k1,k2⟩:=h4 e he
  obtain⟨⟨p1,n1⟩,m1,rfl⟩:=qo.1 k1
  obtain⟨⟨p2,n2⟩,m2,e2⟩:=qo.1 k2
  have z1:=h _ m1
  have z2:=h _ m2
  have v1:=hv _ _ m1
  have v2:=hv _ _ m2
  simp only[decide_eq_true_eq]at z1 z2
  simp only[]at e2
  rw[e2]at v2
  simp only[Bool.and_eq_true,decide_eq_true_eq]
  exact⟨by omega,by omega⟩
def evI (n:Int):V:=.i .i64 n
theorem Q7i (M:List (P2 × Int)) (n:Nat):∀(a b:V) (x:P2) (y:Int),(x,y)∈M->asG P2.enc evI (x,y)=(a,b)->a.cl n=true/\b.cl n=true:=by
 intro a b x y _ he
 simp only[asG,evI,Prod.mk.injEq]at he
 obtain⟨rfl,rfl⟩:=he
 simp[P2.enc,P2.cs,V.cl,V.cl1,V.cl0]
theorem Q5f {M:List (P2 × Int)} {e:P2} {d:Int} (h1:-100000<=U4 M e+d) (h2:U4 M e+d<=100000) :
  (Qk [1,1] e.enc (M.map (asG P2.enc evI))=some none/\M.map (asG P2.enc evI)++[(e.enc,.i .i64 d)]=(Km M e d).map (asG P2.enc evI)) ∨
  ∃(i:Nat) (n:Int),Qk [1,1] e.enc (M.map (asG P2.enc evI))=some (some (i,.i .i64 n))/\M[i]?=some (e,n)/\IntKind.i64.wrap (n+d)=n+d /\
   (M.map (asG P2.enc evI)).set i (e.enc,.i .i64 (n+d))=(Km M e d).map (asG P2.enc evI):=by
 have hf:=Xu Wb evI e M
 unfold Km Q8x
 unfold U4 at *
 cases hfn:Z6 e M with
 | none =>
   rw[hfn]at hf
   refine .inl ⟨hf,?_⟩
   simp[asG,evI]
 | some p =>
   obtain⟨i,n⟩:=p
   rw[hfn]at hf h1 h2
   simp only[]at h1 h2
   refine .inr ⟨i,n,hf,?_,Q3 (by omega) (by omega),?_⟩
   ·exact Zq hfn
   ·rw[List.map_set];rfl
theorem Xg {α β:Type} (f:α->β) (M:List α) (x:β):(M.map f++[x])[M.length]?=some x:=by
 rw[qf (by simp)];simp
theorem Xf {α β:Type} (f:α->β) (M:List α) (x y:β):(M.map f++[x]).set M.length y=M.map f++[y]:=by
 have:=jl (s:=M.map f) (t:=[x]) (x:=y) M.length (by simp)
 rw[this];simp
theorem Xe {α β:Type} (f:α->β) {M:List α} {i:Nat} {y:α} (h:M[i]?=some y) (x:β):((M.map f).set i x)[i]?=some x:=by
 have:=(q8.1 h).1
 rw[qm (by simpa using this)]
def SeenZ (M:List (P2 × Int)) (seen:List Nat):Prop:=∀i∈seen,∀p,M[i]?=some p->p.2=0
section
variable {P:Program} (hm:P.follows .mixedOrders=true)
include hm
theorem U9 {f:FuncId} (hf:Qa P f L07.c L07.r L07.n):Qo0 P f:=by
 intro l hl
 rw[Qk1]
 refine PureC.is (Q8 hm hf (qh rfl) ?_) rfl
 unfold L07.c
 simp[go_sem,Y1]
 refine Qj (α:=Nat) (λk=>k<=l.length)
  (λk=>⟨[(3,.mp 0),(9,Y1 l),(10,.i .i64 l.length),(11,.i .i64 k)],[.mp ((K2 l k).map (asG P2.enc evI))]⟩)
  (λk=>l.length-k) 0 (Nat.zero_le _) ?_ ?_
 ·simp[go_sem,Y1,K2]
 ·intro k hk
  by_cases hkl:k=l.length
  ·subst hkl
   obtain⟨h1,h2,_,_⟩:=Q1c l l.length (Nat.le_refl _)
   generalize K2 l l.length=M at *
   generalize hB:(M.all λp=>decide (p.2=0))=B
   simp[go_sem,Y1]
   refine Qj (α:=List Nat) (λseen=>SeenZ M seen)
    (λseen=>⟨[(31,.p 1 1 0 0)],[.mp (M.map (asG P2.enc evI)),.it (some 0) M.length seen]⟩)
    (λseen=>left M.length seen) [] (by simp[SeenZ]) ?_ ?_
   ·simp[go_sem]
    exact Q7i _ _
   ·intro seen hseen
    simp[go_sem,Mnx]
    refine⟨λhall=>?_,?_⟩
    ·obtain rfl:true=B:=by
      rw[<- hB];symm
      rw[qj]
      intro p hp
      obtain⟨i,hi⟩:=qq hp
      simpa using hseen i (hall i (q8.1 hi).1) p hi
     simp[go_sem,L07.r]
    ·rintro i a b e n hi hab hni
     simp only[asG,Prod.mk.injEq]at hab
     obtain⟨rfl,rfl⟩:=hab
     have hil:i<M.length:=(q8.1 hi).1
     have hleft:=Qe0 hil hni
     have hgi:(M.map (asG P2.enc evI))[i]?=some (e.enc,.i .i64 n):=by rw[qp,hi];rfl
     simp[go_sem,hi,asG,evI]
     by_cases hn:n=0
     ·subst hn
      simp[go_sem]
      refine⟨seen++[i],?_,hleft,?_,rfl⟩
      case refine_2 =>
       rintro a b x y hxy rfl rfl
       exact Q7i M 2 _ _ x y hxy rfl
      intro j hj p hp
      rcases qg.1 hj with h | h
      ·exact hseen j h p hp
      ·rw[qn.1 h,hi]at hp
       obtain rfl:=Option.some.inj hp
       rfl
     ·obtain rfl:false=B:=by
       rw[<- hB];symm
       rw[List.all_eq_false]
       exact⟨_,qb hi,by simpa using hn⟩
      have hnb:(n != 0)=true:=by simpa using hn
      simp[go_sem,hn,hnb,L07.r]
  ·have hlt:k<l.length:=by omega
   have hq:=W3 hlt
   generalize Qb9 l k=s at hq
   obtain⟨_,hq'⟩:=q8.1 hq
   obtain⟨m1,m2,m3,m4⟩:=Q1c l k hk
   have hms:=Q4u hq
   have hb1:=Qee (egs (l.take k)) s.eg.1
   have hb2:=Qee (egs (l.take k)) s.eg.2
   rw[<- m3,Q1g,qv]at hb1 hb2
   have hv2:=B1 (K2 l k) s.eg.1 s.eg.2 1
   generalize K2 l k=M at *
   have hbb:-8200<=U4 (Km M s.eg.1 1) s.eg.2/\U4 (Km M s.eg.1 1) s.eg.2<=8200:=by
    rw[hv2];split<;>omega
   have hM2l:(Km M s.eg.1 1).length<=M.length+1:=(Q08 m1 _ _).2.1
   have R1:=Q5f (M:=M) (e:=s.eg.1) (d:=1) (by omega) (by omega)
   have R2:=Q5f (M:=Km M s.eg.1 1) (e:=s.eg.2) (d:=-1) (by omega) (by omega)
   rw[<- hms]at R2
   have hcl:=Q7i (K2 l (k+1)) 1
   generalize hM2:K2 l (k+1)=M2 at *
   generalize Km M s.eg.1 1=M1 at *
   have hk1:s.eg.1.enc=V.a [V.i .i64 s.a.1,V.i .i64 s.a.2]:=rfl
   have hk2:s.eg.2.enc=V.a [V.i .i64 s.b.1,V.i .i64 s.b.2]:=rfl
   have w1:IntKind.i64.wrap 1=1:=rfl
   have wm1:IntKind.i64.wrap (-1)=-1:=rfl
   rw[hk1]at R1
   rw[hk2]at R2
   clear hms hv2
   have e1:∀n:Int,asG P2.enc evI (s.eg.1,n)=(V.a [V.i .i64 s.a.1,V.i .i64 s.a.2],.i .i64 n):=λ_=>rfl
   have e2:∀n:Int,asG P2.enc evI (s.eg.2,n)=(V.a [V.i .i64 s.b.1,V.i .i64 s.b.2],.i .i64 n):=λ_=>rfl
   rcases R1 with⟨a1,a2⟩ | ⟨i,n,a1,a2,a3,a4⟩
   ·rcases R2 with⟨b1,b2⟩ | ⟨i',n',b1,b2,b3,b4⟩
    ·
     simp (disch:=omega) [go_sem,Y1,hlt,hq,hq',Sg4.cs,a1,a2,b1,b2,w1,wm1,Xg,Xf,e1,e2]
     refine⟨k+1,by omega,by omega,Q3 (by omega) (by omega),by rw[hM2],?_⟩
     rw[hM2]
     exact hcl
    ·
     have b3':IntKind.i64.wrap (n'-1)=n'+-1:=b3
     simp (disch:=omega) [go_sem,Y1,hlt,hq,hq',Sg4.cs,a1,a2,b1,b2,b3',b4,Xe _ b2,w1,wm1,Xg,Xf,e1,e2]
     refine⟨k+1,by omega,by omega,Q3 (by omega) (by omega),by rw[hM2],?_⟩
     rw[hM2]
     exact hcl
   ·rcases R2 with⟨b1,b2⟩ | ⟨i',n',b1,b2,b3,b4⟩
    ·
     simp (disch:=omega) [go_sem,Y1,hlt,hq,hq',Sg4.cs,a1,a2,a3,a4,Xe _ a2,b1,b2,w1,wm1,Xg,Xf,e1,e2]
     refine⟨k+1,by omega,by omega,Q3 (by omega) (by omega),by rw[hM2],?_⟩
     rw[hM2]
     exact hcl
    ·
     have b3':IntKind.i64.wrap (n'-1)=n'+-1:=b3
     simp (disch:=omega) [go_sem,Y1,hlt,hq,hq',Sg4.cs,a1,a2,a3,a4,Xe _ a2,b1,b2,b3',b4,Xe _ b2,w1,wm1,Xg,Xf,e1,e2]
     refine⟨k+1,by omega,by omega,Q3 (by omega) (by omega),by rw[hM2],?_⟩
     rw[hM2]
     exact hcl
end
end Go.Abs
