/- Part of the library on which the proof stands: an abstract machine, its values and its soundness against the model; or what functions of the program do to such values. -/
import Derived.Test.YtnaehggpjfdenaaGreatGoHG
import Derived.Test.YtnaehggpjfdenaaGreatGoMap
import Derived.Test.YtnaehggpjfdenaaGreatGoHeap
import Derived.Test.YtnaehggpjfdenaaGreatGoSkD
import Derived.Test.YtnaehggpjfdenaaGreatGoRevC
import Derived.Test.YtnaehggpjfdenaaGreatGoDet
import Derived.Test.YtnaehggpjfdenaaGreatGoShp
import Derived.Test.YtnaehggpjfdenaaGreatGoSkB
set_option linter.unusedVariables false
set_option linter.unusedSimpArgs false
set_option maxHeartbeats 8000000
set_option maxRecDepth 20000
namespace Go.Abs
def Uk (l:List Sg4) (g:Nat->Bool):List Eg:=neE (((List.range l.length).filter λi=>!g i).map λi=>(Yn l i).eg)
theorem Yo {l:List Sg4} {i:Nat} (h:i<l.length):l[i]?=some (Yn l i):=by unfold Yn;rw[q9 h];rfl
theorem Q3g (l:List Sg4):Uk l (λ_=>false)=neE (egs l):=by
 unfold Uk egs;congr 1;rw[List.filter_eq_self.2 (by simp)];apply qy;intro i;rw[qp,qp];by_cases h:i<l.length
 ·rw[jo h,Yo h];rfl
 ·rw[qk (by simp;omega),qk (by omega)];rfl
theorem rem_mem {l:List Sg4} {g:Nat->Bool} {e:Eg}:e∈Uk l g↔∃i,i<l.length/\g i=false/\(Yn l i).eg=e/\e.1≠e.2:=by
 unfold Uk neE;rw[qu,qo];constructor
 ·rintro⟨⟨i,hi,rfl⟩,h2⟩;obtain⟨h3,h4⟩:=qu.1 hi;exact⟨i,qz.1 h3,by simpa using h4,rfl,by simpa using h2⟩
 ·rintro⟨i,h1,h2,rfl,h3⟩;exact⟨⟨i,qu.2 ⟨qz.2 h1,by simp[h2]⟩,rfl⟩,by simpa using h3⟩
def mkD (g:Nat->Bool) (i:Nat):Nat->Bool:=λj=>if j=i then true else g j
theorem Qkj {l:List Nat} (hn:l.Nodup) {i:Nat} {p:Nat->Bool} (hi:i∈l) (hp:p i=true):(l.filter p).Perm (i::l.filter λj=>if j=i then false else p j):=by
 have h1:i∈l.filter p:=qu.2 ⟨hi,hp⟩;have h2:=List.perm_cons_erase h1;have h3:(l.filter p).Nodup:=hn.filter _;rw[h3.erase_eq_filter,List.filter_filter]at h2
 have h4:(λa=>a != i && p a)=λj=>if j=i then false else p j:=by
  funext j;by_cases hj:j=i<;>simp[hj]
 rw[h4]at h2
 exact h2
theorem Qve {l:List Sg4} {g:Nat->Bool} {i:Nat} (hi:i<l.length) (hg:g i=false) (hne:(Yn l i).eg.1≠(Yn l i).eg.2):(Uk l g).Perm ((Yn l i).eg::Uk l (mkD g i)):=by
 have h1:=Qkj (p:=λi=>!g i) List.nodup_range (qz.2 hi) (by simp[hg]);have h2:=(h1.map λi=>(Yn l i).eg).filter λe=>decide (e.1≠e.2)
 rw[List.map_cons,List.filter_cons,if_pos (by simpa using hne)]at h2
 have h3:(λj=>if j=i then false else !g j)=λj=>!(mkD g i j):=by
  funext j;unfold mkD;by_cases hj:j=i<;>simp[hj]
 rw[h3]at h2
 exact h2
theorem cand_iff {l:List Sg4} {g:Nat->Bool} {st:Bool} {p:P2} {i:Nat}:Qdh l g st p i=true↔i<l.length/\g i=false/\(Yn l i).eg.1≠(Yn l i).eg.2/\(st=false∨(Yn l i).eg.1=p):=by
 unfold Qdh;by_cases h:i<l.length
 ·rw[Yo h];cases st<;>simp[h,and_assoc]
 ·rw[qk (by omega)];simp[h]
theorem Qrr (l:List Sg4) (g:Nat->Bool) (p:P2):(Y6 l g false p l.length=-1/\Uk l g=[])∨∃i:Nat,Y6 l g false p l.length=(i:Int)/\i<l.length/\g i=false/\(Yn l i).eg.1≠(Yn l i).eg.2:=by
 rcases U2 l g false p l.length with⟨h1,h2⟩ | ⟨i,h1,h2,h3⟩
 ·refine .inl ⟨h1,List.eq_nil_iff_forall_not_mem.2 λe he=>?_⟩;obtain⟨i,q1,q2,rfl,q4⟩:=rem_mem.1 he;have:=h2 i q1;rw[cand_iff.2 ⟨q1,q2,q4,.inl rfl⟩]at this
  simp at this
 ·obtain⟨q1,q2,q3,_⟩:=cand_iff.1 h3;exact .inr ⟨i,h2,q1,q2,q3⟩
theorem Qmm {l:List Sg4} {g:Nat->Bool} {p:P2} {e:Eg} (he:e∈Uk l g) (hp:e.1=p):∃i:Nat,Y6 l g true p l.length=(i:Int)/\i<l.length/\g i=false/\(Yn l i).eg.1≠(Yn l i).eg.2/\(Yn l i).eg.1=p:=by
 rcases U2 l g true p l.length with⟨h1,h2⟩ | ⟨i,h1,h2,h3⟩
 ·obtain⟨i,q1,q2,rfl,q4⟩:=rem_mem.1 he;have:=h2 i q1;rw[cand_iff.2 ⟨q1,q2,q4,.inr hp⟩]at this
  simp at this
 ·obtain⟨q1,q2,q3,q4⟩:=cand_iff.1 h3;refine⟨i,h2,q1,q2,q3,?_⟩;simpa using q4
theorem pcsD:CellsD (λ_:Unit=>([]:List V)) P2.cs:=⟨λ_ _=>rfl,by simp,λa x hx=>by simp[P2.cs]at hx;rcases hx with rfl | rfl<;>rfl⟩
abbrev Qf5 (b:Nat) (hx:List O) (ps:List (List P2)) (cells:List (List V)):Prop:=HeldR 2 (λ_:Unit=>([]:List V)) P2.cs b hx (ps.map λp=>((),p)) cells
def Q54 (P:Program) (f:FuncId):Prop:=∀l:List Sg4,Qpv l ->
 (¬ Wq (egs l)->CallIs P f [Qq l] (.t [Qd [],.i .i64 12])) /\
 (Wq (egs l)->PureC P f [Qq l] λr=>∃ps:List (List P2),(ps.flatMap Qu).Perm (neE (egs l))/\ps.length<=l.length/\r=.t [Qd ps,.i .i64 0])
def Q4y (P:Program) (f:FuncId):Prop:=∀(m:Mesh) (z k:Int),CallIs P f [m.enc,.i .i64 z,.i .i64 k] (.t [rgV (Z3 m z k).1,.i .i64 (Z3 m z k).2])
theorem Qmi (es:List Eg):neE es=es.filter λe=>decide (e.1≠e.2):=by
 unfold neE;congr 1
theorem Qj3 {l:List Sg4} (hl:Qpv l) {ps:List (List P2)} (h1:(ps.flatMap Qu).Perm (neE (egs l))) (h2:ps.length<=l.length):PolyOk ps/\∀k,Ul (ps.flatMap Qu) k=Ul (egs l) k:=by
 have hsub:∀e∈neE (egs l),e∈egs l:=λe he=>by
  rw[Qmi]at he
  exact(qu.1 he).1
 refine⟨⟨by have:=hl.1;omega,?_,λe he=>hl.2 e (hsub e (h1.mem_iff.1 he))⟩,λk=>?_⟩
 ·rw[h1.length_eq,Qmi];refine Nat.le_trans (jc _ _) ?_;simp[egs];exact hl.1
 ·rw[Qr6 h1,Qmi,rasR_ne]
section
variable {P:Program} (hm:P.follows .mixedOrders=true)
include hm
theorem Ek {f fe fs fc fr:FuncId} (hf:Q5 P f (L3t.c fe fs fc fr) L3t.r L3t.n) (he:Q0b P fe) (hs:Qtr P fs) (hc:Q54 P fc) (hr:Ba P fr):Q4y P f:=by
 intro m z k;have hec:=he k 32 1024 (by omega);have hsc:=hs m z;have hso:=sec_ok m z;have hz:Le1 (V.a [V.nil]) (rgV []):=.inr ⟨_,_,rfl,rfl,Le0.nil 2,trivial⟩;unfold Z3;cases hev:Z1 k 32 1024 with
 | false =>
   rw[hev]at hec
   rw[if_pos rfl];refine CallIs.res (r:=.t [.a [.nil],.i .i64 1]) ?_ (.inr ⟨_,_,rfl,rfl,hz,Le1.refl _,trivial⟩);refine PI hm hf ?_;unfold L3t.c;simp[go_sem,Mesh.enc,Mesh.cs];refine Q2 hec ?_;simp[go_sem,L3t.r]
   done
 | true =>
   rw[hev]at hec
   rw[if_neg (by simp)];unfold secL at hsc;generalize Zg m z=S at *
   obtain⟨l,e⟩:=S;simp only at hsc hso ⊢;by_cases h0:e=0
   case neg =>
    rw[if_pos h0];refine CallIs.res (r:=.t [.a [.nil],.i .i64 e]) ?_ (.inr ⟨_,_,rfl,rfl,hz,Le1.refl _,trivial⟩);refine PI hm hf ?_;have hb:(e != 0)=true:=by simpa using h0
    unfold L3t.c;simp[go_sem,Mesh.enc,Mesh.cs];refine Q2 hec ?_;simp[go_sem];refine Q2 hsc ?_;simp[go_sem,h0,hb,L3t.r]
    done
   subst h0;rw[if_neg (by simp)];obtain⟨hc1,hc2⟩:=hc l hso;by_cases hbal:Wq (egs l)
   case neg =>
    rw[if_neg hbal];have hcc:=hc1 hbal;refine CallIs.res (r:=.t [.a [.nil],.i .i64 12]) ?_ (.inr ⟨_,_,rfl,rfl,hz,Le1.refl _,trivial⟩);refine PI hm hf ?_;unfold L3t.c;simp[go_sem,Mesh.enc,Mesh.cs];refine Q2 hec ?_;simp[go_sem];refine Q2 hsc ?_;simp[go_sem];refine Q2 hcc ?_;simp[go_sem,L3t.r]
    done
   rw[if_pos hbal];have hcc:=hc2 hbal;refine PI hm hf ?_;unfold L3t.c;simp[go_sem,Mesh.enc,Mesh.cs];refine Q2 hec ?_;simp[go_sem];refine Q2 hsc ?_;simp[go_sem];refine (hcc.lift rfl _).mono ?_;rintro r h' ⟨⟨ps,hp1,hp2,rfl⟩,rfl⟩;obtain⟨hpo,hpr⟩:=Qj3 hso hp1 hp2;have hrc:=hr ps k hpo;unfold Xr at hrc;rw[if_neg (by rw[hev];simp),hpr]at hrc
   simp[go_sem];refine Q2 hrc ?_;simp[go_sem,rgV,V.cells,V.okA,L3t.r]
theorem Q94 {f fe fs fc fr:FuncId} (hf:Q5 P f (L2r.c fe fs fc fr) L2r.r L2r.n) (he:Q0b P fe) (hs:Qtr P fs) (hc:Q54 P fc) (hr:Ba P fr):Q4y P f:=Ek hm hf he hs hc hr
end
def L32.c (L0e L3z L0j L4g L33:FuncId):C :=(Bs [Au 1 (.box (.t 0)),Ac 2 0] (.seq (Bs [Ag 5 2 1,Au 6 (.call L0e [.t 5]),Am 3 6] (Bs [Am 7 3,Ak .neq 8 7 0] (.ite (.t 8) (Bs [Am 9 3,Am 2 9] .ret) .skip))) (.seq (Bs [Ag 10 2 1,Au 11 (.call L3z [.t 10]),Au 12 (.un .not (.t 11))] (.ite (.t 12) (Bs [Ac 2 12] .ret) .skip)) (.seq (Bs [Ag 13 2 1,Au 14 (.call L0j [.t 13]),Au 15 (.un .not (.t 14))] (.ite (.t 15) (Bs [Ac 2 13] .ret) .skip)) (.seq (Bs [Af 16 1 1,Al 17 16,An 18 0 17,Ac 19 0] (.blk 0 (.loop (Bs [Aj .lss 20 19 18] (.seq (.ite (.t 20) .skip (.exit 0)) (.seq (.blk 1 (Bs [Am 21 19,Am 4 21] (Bs [Ag 22 2 1,
 Am 23 4,Au 24 (.call L4g [.t 22,.t 23])] (.ite (.t 24) (Bs [Ac 2 1] .ret) .skip)))) (.reg [Ad 25 19 1,Am 19 25]))))))) (.seq (Bs [Ag 26 2 1,Au 27 (.call L33 [.t 26])] (.ite (.t 27) (Bs [Ac 2 1] .ret) .skip)) (Bs [Ac 2 0] .ret)))))))
def L32.r:List Rr:=[.tmp 2]
abbrev L32.n:Nat:=28
def L33.c (L40 L0g:FuncId):C :=(Bs [Au 1 (.box (.t 0)),Ab 2 false] (.seq (Bs [Ag 8 2 1,Au 9 (.call L40 [.t 8]),An 10 0 9,Ac 11 0] (.blk 0 (.loop (Bs [Aj .lss 12 11 10] (.seq (.ite (.t 12) .skip (.exit 0)) (.seq (.blk 1 (Bs [Ai 13 1 9 11,Al 14 13,Am 4 14] (Bs [Af 15 0 1,Al 16 15,Au 17 (.build [.nil,.nil] [(0,1,(.t 16))]),Au 5 (.alloc [.nil,.nil]),As 2 5 17] (.seq (Bs [Am 18 4,An 19 0 18,Ac 20 0] (.blk 2 (.loop (Bs [Aj .lss 21 20 19] (.seq (.ite (.t 21) .skip (.exit 2)) (.seq (.blk 3 (Bs [Ai 22 1 18 20,Al 23 22,Am 7 23] (.drw [Af 24 1 5,Al 25 24,Af 26 1 1,Al 27 26,Am 28 7,Ai 29 3 27 28,Ag 30 3 29,
 Au 31 (.bsi 3 1 [(.i .i64 0),(.i .i64 0),(.i .i64 0)] [(0,(.t 30))]),Au 32 (.app 3 24 (.t 25) (.t 31)),Af 33 1 5,As 1 33 32] []))) (.reg [Ad 34 20 1,Am 20 34]))))))) (Bs [Ag 35 2 5,Au 36 (.call L0g [.t 35]),Ak .lss 37 36 0] (.ite (.t 37) (Bs [Ab 2 true] .ret) .skip)))))) (.reg [Ad 38 11 1,Am 11 38]))))))) (Bs [Ab 2 false] .ret)))
def L33.r:List Rr:=[.tmp 2]
abbrev L33.n:Nat:=39
def L1t.c (L18 L1d L1p L1b L1f L1u L1a:FuncId):C :=(Bs [Au 1 (.box (.t 0)),Ac 2 0] (.seq (Bs [Ag 7 2 1,Au 8 (.call L18 [.t 7]),Am 3 8] (Bs [Am 9 3,Ak .neq 10 9 0] (.ite (.t 10) (Bs [Am 11 3,Am 2 11] .ret) .skip))) (.seq (Bs [Ag 12 2 1,Au 13 (.call L1d [.t 12]),Au 14 (.un .not (.t 13))] (.ite (.t 14) (Bs [Ac 2 12] .ret) .skip)) (.seq (Bs [Ag 15 2 1,Au 16 (.call L1p [.t 15]),Au 17 (.un .not (.t 16))] (.ite (.t 17) (Bs [Ac 2 13] .ret) .skip)) (.seq (Bs [Ac 4 0] (.blk 0 (.loop (.seq (Bs [Am 18 4,Af 19 1 1,Al 20 19,An 21 0 20,Aj .lss 22 18 21] (.ite (.t 22) .skip (.exit 0))) (.seq (.blk 1 (Bs [Ag 25 2 1,
 Am 26 4,Au 27 (.call L1b [.t 25,.t 26])] (.ite (.t 27) (Bs [Ac 2 1] .ret) .skip))) (.reg [Am 23 4,Ad 24 23 1,Am 4 24])))))) (Bs [Ag 28 2 1,Au 29 (.call L1f [.t 28]),Am 5 29] (.seq (Bs [Ac 6 0] (.blk 2 (.loop (.seq (Bs [Am 30 6,Am 31 5,An 32 0 31,Aj .lss 33 30 32] (.ite (.t 33) .skip (.exit 2))) (.seq (.blk 3 (.seq (.drw [Ag 36 2 1,Am 37 5,Am 38 6,Ai 39 1 37 38,Al 40 39,Au 41 (.call L1u [.t 36,.t 40]),Au 42 (.call L1a [.t 41]),Ak .lss 43 42 0] []) (.ite (.t 43) (Bs [Ac 2 1] .ret) .skip))) (.reg [Am 34 6,Ad 35 34 1,Am 6 35])))))) (Bs [Ac 2 0] .ret))))))))
def L1t.r:List Rr:=[.tmp 2]
abbrev L1t.n:Nat:=44
def L1u.c:C :=(Bs [Au 2 (.box (.t 0)),Au 4 (.alloc [.nil,.nil])] (Bs [Af 7 0 2,Al 8 7,Au 9 (.build [.nil,.nil] [(0,1,(.t 8))]),Au 5 (.alloc [.nil,.nil]),As 2 5 9] (.seq (Bs [Ac 6 0] (.blk 0 (.loop (.seq (Bs [Am 10 6,Am 11 1,An 12 0 11,Aj .lss 13 10 12] (.ite (.t 13) .skip (.exit 0))) (.seq (.blk 1 (.drw [Af 16 1 5,Al 17 16,Af 18 1 2,Al 19 18,Am 20 1,Am 21 6,Ai 22 1 20 21,Al 23 22,Ai 24 3 19 23,Ag 25 3 24,Au 26 (.bsi 3 1 [(.i .i64 0),(.i .i64 0),(.i .i64 0)] [(0,(.t 25))]),Au 27 (.app 3 24 (.t 17) (.t 26)),Af 28 1 5,As 1 28 27] [])) (.reg [Am 14 6,Ad 15 14 1,Am 6 15])))))) (Bs [Ag 29 2 5,As 2 4 29]
 .ret))))
def L1u.r:List Rr:=[.cell 4 (some 2)]
abbrev L1u.n:Nat:=30
def L1r.c:C :=(Bs [Au 2 (.box (.t 0)),Au 4 (.alloc [.nil,.nil])] (Bs [Af 7 0 2,Al 8 7,Au 9 (.build [.nil,.nil] [(0,1,(.t 8))]),Au 5 (.alloc [.nil,.nil]),As 2 5 9] (.seq (Bs [Ac 6 0] (.blk 0 (.loop (.seq (Bs [Am 10 6,Am 11 1,An 12 0 11,Aj .lss 13 10 12] (.ite (.t 13) .skip (.exit 0))) (.seq (.blk 1 (.drw [Af 16 1 5,Al 17 16,Af 18 1 2,Al 19 18,Am 20 1,Am 21 6,Ai 22 1 20 21,Al 23 22,Ai 24 3 19 23,Ag 25 3 24,Au 26 (.bsi 3 1 [(.i .i64 0),(.i .i64 0),(.i .i64 0)] [(0,(.t 25))]),Au 27 (.app 3 24 (.t 17) (.t 26)),Af 28 1 5,As 1 28 27] [])) (.reg [Am 14 6,Ad 15 14 1,Am 6 15])))))) (Bs [Ag 29 2 5,As 2 4 29]
 .ret))))
def L1r.r:List Rr:=[.cell 4 (some 2)]
abbrev L1r.n:Nat:=30
def L1a.c (L18 L0z:FuncId):C :=(Bs [Au 1 (.box (.t 0)),Ac 2 0] (.seq (Bs [Ag 6 2 1,Au 7 (.call L18 [.t 6]),Ak .neq 8 7 0] (.ite (.t 8) (Bs [Ac 2 0] .ret) .skip)) (Bs [Ac 3 0] (.seq (Bs [Af 9 1 1,Al 10 9,An 11 0 10,Ac 12 0] (.blk 0 (.loop (Bs [Aj .lss 13 12 11] (.seq (.ite (.t 13) .skip (.exit 0)) (.seq (.blk 1 (Bs [Ai 14 3 10 12,Ag 15 3 14,Au 5 (.alloc [(.i .i64 0),(.i .i64 0),(.i .i64 0)]),As 3 5 15] (.drw [Am 16 3,Af 17 0 1,Al 18 17,Af 19 0 5,Al 20 19,Ai 21 3 18 20,Ag 22 3 21,Af 23 0 1,Al 24 23,Af 25 1 5,Al 26 25,Ai 27 3 24 26,Ag 28 3 27,Af 29 0 1,Al 30 29,Af 31 2 5,Al 32 31,Ai 33 3 30 32,Ag 34 3 33,
 Au 35 (.call L0z [.t 22,.t 28,.t 34]),Aj .add 36 16 35,Am 3 36] []))) (.reg [Ad 37 12 1,Am 12 37]))))))) (Bs [Am 38 3,Am 2 38] .ret)))))
def L1a.r:List Rr:=[.tmp 2]
abbrev L1a.n:Nat:=39
def Jh (P:Program) (f:FuncId):Prop:=∀v:V3,CallIs P f [v.enc] (.b (v.within 131072))
def Q88 (P:Program) (f:FuncId):Prop:=∀b c:V3,b.valid=true->c.valid=true->CallIs P f [b.enc,c.enc] (crs b c).enc
def Qq0 (P:Program) (f:FuncId):Prop:=∀a b:V3,a.valid=true->b.within 8589934592=true->CallIs P f [a.enc,b.enc] (.i .i64 (Qyx a b))
theorem Ya {v:V3} (h:v.valid=true):v.within 131072=true:=by
 have:=V3.valid_iff.1 h;simp[V3.within];omega
theorem Qij {v:V3} {a b:Int} (hab:a<=b) (h:v.within a=true):v.within b=true:=by
 simp[V3.within]at h ⊢;omega
theorem Qbb {b c:V3} (hb:b.valid=true) (hc:c.valid=true):(crs b c).within 8589934592=true:=by
 have:=crs_b hb hc;simp[V3.within];omega
section
variable {P:Program} (hm:P.follows .mixedOrders=true)
include hm
theorem Q1b {f fw:FuncId} (hf:Q5 P f (L4e.c fw) L4e.r L4e.n) (hw:Xx P fw):Jh P f:=by
 intro v;refine PI hm hf ?_;unfold L4e.c;simp[go_sem,V3.enc,V3.cs];refine Q2 ((hw v 131072 (by omega) (by omega)).is rfl) ?_;simp[go_sem,L4e.r]
theorem Q1c {f fs:FuncId} (hf:Q5 P f (L49.c fs) L49.r L49.n) (hs:Jh P fs):Q88 P f:=by
 intro b c hb hc;refine PI hm hf ?_;unfold L49.c;have h1:=hs b;have h2:=hs c;rw[Ya hb]at h1
 rw[Ya hc]at h2
 obtain⟨b1,b2,b3,b4,b5,b6⟩:=V3.valid_iff.1 hb;obtain⟨c1,c2,c3,c4,c5,c6⟩:=V3.valid_iff.1 hc;have m1:=Ea b3 b4 c5 c6;have m2:=Ea b5 b6 c3 c4;have m3:=Ea b5 b6 c1 c2;have m4:=Ea b1 b2 c5 c6;have m5:=Ea b1 b2 c3 c4;have m6:=Ea b3 b4 c1 c2;have hcr:crs b c=⟨b.y*c.z-b.z*c.y,b.z*c.x-b.x*c.z,b.x*c.y-b.y*c.x⟩:=rfl;rw[hcr];simp[go_sem,V3.enc,V3.cs]at h1 h2 ⊢
 refine Q2 h1 ?_;simp[go_sem];refine Q2 h2 ?_;simp (disch:=omega) [go_sem,Q0,L49.r]
theorem Q8b {f fs fw:FuncId} (hf:Q5 P f (L4b.c fs fw) L4b.r L4b.n) (hs:Jh P fs) (hw:Xx P fw):Qq0 P f:=by
 intro a b ha hb;refine PI hm hf ?_;unfold L4b.c;have h1:=hs a;have h2:=(hw b 1099511627776 (by omega) (by omega)).is rfl;rw[Ya ha]at h1
 rw[Qij (by omega) hb]at h2
 obtain⟨b1,b2,b3,b4,b5,b6⟩:=V3.valid_iff.1 ha;simp only[V3.within,Bool.and_eq_true,decide_eq_true_eq]at hb;obtain⟨⟨⟨⟨⟨c1,c2⟩,c3⟩,c4⟩,c5⟩,c6⟩:=hb;have m1:=Qmj b1 b2 c1 c2;have m2:=Qmj b3 b4 c3 c4;have m3:=Qmj b5 b6 c5 c6;have hd:Qyx a b=a.x*b.x+a.y*b.y+a.z*b.z:=rfl;rw[hd];simp[go_sem,V3.enc,V3.cs]at h1 h2 ⊢
 refine Q2 h1 ?_;simp[go_sem];refine Q2 h2 ?_;simp (disch:=omega) [go_sem,Q0,L4b.r]
theorem Qlf {f fs fc fd:FuncId} (hf:Q5 P f (L4a.c fs fc fd) L4a.r L4a.n) (hs:Jh P fs) (hc:Q88 P fc) (hd:Qq0 P fd):Qtw P f:=by
 intro x y z hx hy hz;refine PI hm hf ?_;unfold L4a.c;have h1:=hs y;have h2:=hs z;rw[Ya hy]at h1
 rw[Ya hz]at h2
 simp[go_sem,V3.enc,V3.cs]at h1 h2 ⊢
 refine Q2 h1 ?_;simp[go_sem];refine Q2 h2 ?_;simp[go_sem];refine Qa (hc y z hy hz) ?_;simp[go_sem];refine Qa (hd x (crs y z) hx (Qbb hy hz)) ?_;simp[go_sem,L4a.r,Qhm]
theorem Eb {f fc fd:FuncId} (hf:Q5 P f (L0g.c fc fd) L0g.r L0g.n) (hc:Y0 P fc) (hd:Qtw P fd):Qtg P f:=by
 intro m;refine PI hm hf ?_;unfold L0g.c;have hv:m.vol6=if m.check=0 then Xb m.verts m.tris else 0:=rfl
 by_cases hz:m.check=0
 case neg =>
  rw[hv,if_neg hz];simp[go_sem,Mesh.enc,Mesh.cs];refine Q2 (hc m) ?_;simp[go_sem,hz,L0g.r]
 rw[hv,if_pos hz];obtain⟨z1,z2,z3,z4⟩:=Mesh.check_zero.1 hz;simp[go_sem,Mesh.enc,Mesh.cs];refine Q2 (hc m) ?_;simp[go_sem,hz,vsV,tsV];refine Q8 (α:=Nat) (λk=>k<=m.tris.length)
  (λk=>⟨[(1,.p 0 1 0 0),(3,.i .i64 (Xb m.verts (m.tris.take k))),(10,tsV m.tris),(11,.i .i64 m.tris.length),(12,.i .i64 k)],[.arr 1 2 [m.cs]]⟩)
  (λk=>m.tris.length-k) 0 (Nat.zero_le _) ?_ ?_
 ·simp[go_sem,Mesh.cs,vsV,tsV,Q1a]
 ·intro k hk;by_cases hkl:k=m.tris.length
  ·subst hkl;rw[qi];simp[go_sem,Mesh.cs,vsV,tsV,L0g.r]
  ·have hlt:k<m.tris.length:=by omega
   have hp:m.tris[k]?=some m.tris[k]:=q9 hlt;generalize m.tris[k]=t at hp;obtain⟨_,hp'⟩:=q8.1 hp;have hok:=Ei z4 hp;obtain⟨a1,a2,b1,b2,c1,c2⟩:=T3.ok_iff.1 hok;have ga:=Q7n a1 a2;have gb:=Q7n b1 b2;have gc:=Q7n c1 c2;have va:=Ki z3 a1 a2;have vb:=Ki z3 b1 b2;have vc:=Ki z3 c1 c2;have hb1:=Qu7 z3 (ts:=m.tris.take k) (by
    simp only[Ec,qj]at z4 ⊢;exact λx hx=>z4 x (jp hx))
   have hb2:=Qu6 z3 hok;have hln:((m.tris.take k).length:Int)<=4096:=by rw[qv];omega
   have hs:Xb m.verts (m.tris.take (k+1))=Xb m.verts (m.tris.take k)+Qin m.verts t:=by
    rw[List.take_add_one,hp,Qu8,Option.toList_some,Ii,Q1a];omega
   have hvt:Qin m.verts t=Qhm (vAt m.verts t.a) (vAt m.verts t.b) (vAt m.verts t.c):=rfl;have hdd:=hd _ _ _ va vb vc;rw[<- hvt]at hdd
   clear hvt;generalize vAt m.verts t.a=A at *
   generalize vAt m.verts t.b=B at *
   generalize vAt m.verts t.c=C at *
   generalize Xb m.verts (m.tris.take k)=S at *
   generalize Qin m.verts t=T at *
   obtain⟨ia,ga'⟩:=q8.1 ga;obtain⟨ib,gb'⟩:=q8.1 gb;obtain⟨ic,gc'⟩:=q8.1 gc;simp[go_sem,Mesh.cs,vsV,tsV,hlt,hp,hp',tcs,a1,b1,c1,ga,gb,gc,ia,ib,ic,ga',gb',gc',vcs];simp[go_sem,V3.enc,vcs]at hdd
   refine Qa hdd ?_;simp (disch:=omega) [go_sem,Q0];refine⟨k+1,by omega,by omega,?_⟩;exact⟨hs.symm,by omega⟩
end
theorem Q5a {ts:List T3} {sh:List Int} {j:Nat} {v:Int} (h:sh[j]?=some v):Z4 ts (sh.take (j+1))=Z4 ts (sh.take j)++[tAt ts v.toNat]:=by
 unfold Z4;rw[Q6 h,qx];rfl
theorem Um (ts:List T3) (sh:List Int):(Z4 ts sh).length=sh.length:=by simp[Z4]
def Qpy (P:Program) (f:FuncId):Prop:=∀(m:Mesh) (sh:List Int),sh.length<=4096->(∀v∈sh,0<=v/\v<m.tris.length)->CallIs P f [m.enc,isV sh] (Mesh.mk m.verts (Z4 m.tris sh)).enc
section
variable {P:Program} (hm:P.follows .mixedOrders=true)
include hm
theorem Qcf {f:FuncId} (hf:Q5 P f L1r.c L1r.r L1r.n):Qpy P f:=by
 intro m sh hshl hshm;refine PI hm hf ?_;unfold L1r.c;simp[go_sem,Mesh.enc,Mesh.cs,vsV,tsV,isV];refine Qi [.c 2 0 1 3] (α:=Nat) (λj=>j<=sh.length)
  (λj=>⟨[(1,isV sh),(2,.p 0 1 0 0),(4,.p 1 1 0 0),(5,.p 2 1 0 0),(6,.i .i64 j)],
   [.arr 1 2 [m.cs],.arr 1 2 [[.nil,.nil]],.arr 1 2 [[vsV m.verts,.own 3 (j+1) 0 j]],.arr (j+1) 3 ((Z4 m.tris (sh.take j)).map T3.cs)]⟩)
  (λj=>sh.length-j) 0 (Nat.zero_le _) ?_ ?_
 ·simp[go_sem,isV,Z4,Mesh.cs,vsV,tsV]
 ·intro j hj;by_cases hjl:j=sh.length
  ·subst hjl;rw[qi];have hpl:=Um m.tris sh;generalize Z4 m.tris sh=PT at *
   have htkp:List.take sh.length (PT.map T3.cs)=PT.map T3.cs:=qe (by simp;omega);simp[go_sem,isV,L1r.r,Mesh.enc,Mesh.cs,vsV,tsV,Qfb,Qoi,htkp,hpl]
  ·have hjlt:j<sh.length:=by omega
   have hq:sh[j]?=some sh[j]:=q9 hjlt;have hqm:sh[j]∈sh:=List.getElem_mem _;have hpj:=λv (h:sh[j]?=some v)=>Q5a (ts:=m.tris) h
   generalize sh[j]=v at hq hqm;have hpj:=hpj v hq;obtain⟨_,hq'⟩:=q8.1 hq;obtain⟨v0,v1⟩:=hshm v hqm;have v2:v.toNat<m.tris.length:=by omega
   have ht:=Zt v2;have hpl:=Um m.tris (sh.take j);rw[qv,Nat.min_eq_left (by omega)]at hpl
   generalize tAt m.tris v.toNat=t at ht hpj;obtain⟨_,ht'⟩:=q8.1 ht;generalize hPT:Z4 m.tris (sh.take j)=PT at *
   have htkp:List.take j (PT.map T3.cs)=PT.map T3.cs:=qe (by simp;omega);simp (disch:=omega) [go_sem,isV,Mesh.cs,vsV,tsV,hjlt,hq,hq',v0,v1,v2,ht,ht',tcs,htkp,hpl,Q0];refine⟨⟨by omega,by omega⟩,j+1,by omega,by omega,?_⟩;rw[hpj];exact⟨by omega,rfl,by rw[qx];rfl⟩
end
def InvC (P:Program) (f:FuncId):Prop:=∀m:Mesh,m.check=0->CallIs P f [m.enc] (.b m.inv)
def Qtz (P:Program) (f:FuncId):Prop:=∀m:Mesh,CallIs P f [m.enc] (.i .i64 (U9 m))
def NoneTo {α:Type} (p:α->Bool) (l:List α) (k:Nat):Prop:=(l.take k).any p=false
theorem NoneTo.zero {α:Type} (p:α->Bool) (l:List α):NoneTo p l 0:=by simp[NoneTo]
theorem NoneTo.all {α:Type} {p:α->Bool} {l:List α} (h:NoneTo p l l.length):l.any p=false:=by unfold NoneTo at h;rwa [qi]at h
theorem Q1f {α:Type} (p:α->Bool) {l:List α} {k:Nat} {a:α} (h:l[k]?=some a) (hn:NoneTo p l k) (ha:p a=false):NoneTo p l (k+1):=by
 unfold NoneTo at *
 rw[Q6 h,List.any_append,hn];simp[ha]
theorem Q82 {α:Type} (p:α->Bool) {l:List α} {k:Nat} {a:α} (h:l[k]?=some a) (ha:p a=true):l.any p=true :=
 List.any_eq_true.2 ⟨a,qb h,ha⟩
theorem Qpj {m:Mesh} (hz:m.check=0) {k:Nat} {t:T3} (h:m.tris[k]?=some t):m.degI (k:Int)=m.deg t:=by
 have hl:=(q8.1 h).1;unfold Mesh.degI;rw[if_pos ⟨by omega,by omega,hz⟩,Int.toNat_natCast,h]
theorem Qz8 {m:Mesh} (h:m.check≠0):U9 m=m.check:=by unfold U9;rw[if_pos h]
theorem Qz7 {m:Mesh} (h:m.check=0) (h2:m.closed=false):U9 m=12:=by unfold U9;rw[if_neg (by simpa using h),if_pos h2]
theorem Qz6 {m:Mesh} (h:m.check=0) (h2:m.closed=true) (h3:I8 m.tris=false):U9 m=13:=by unfold U9;rw[if_neg (by simpa using h),if_neg (by rw[h2];simp),if_pos h3]
theorem Qz5 {m:Mesh} (h:m.check=0) (h2:m.closed=true) (h3:I8 m.tris=true):U9 m=if m.tris.any m.deg=true then 1 else if m.inv=true then 1 else 0:=by
 unfold U9;rw[if_neg (by simpa using h),if_neg (by rw[h2];simp),if_neg (by rw[h3];simp)]
theorem Qkn {m:Mesh} (h:m.check=0):m.coh=I8 m.tris:=by unfold Mesh.coh;rw[h];simp
section
variable {P:Program} (hm:P.follows .mixedOrders=true)
include hm
theorem Q0e {f fs fv:FuncId} (hf:Q5 P f (L33.c fs fv) L33.r L33.n) (hs:B8 P fs) (hv:Qtg P fv):InvC P f:=by
 intro m hz;obtain⟨z1,z2,z3,z4⟩:=Mesh.check_zero.1 hz;have hok:=Qds hz;have hs1:=hs m;unfold Mesh.inv;generalize m.shells=shs at *
 generalize hp:(λsh=>decide (Xb m.verts (Z4 m.tris sh)<0))=p;generalize hB:shs.any p=B;refine PI hm hf ?_;unfold L33.c;simp[go_sem,Mesh.enc,Mesh.cs,vsV,tsV];refine Q2 hs1 ?_;simp[go_sem,lsV];have hsv:∀(n:Nat) (a:V3),List.map (V.sh1 n) a.cs=a.cs:=λn a=>by simp[vcs,V.sh1,V.sh0]
 have hst:∀(n:Nat) (a:T3),List.map (V.sh1 n) a.cs=a.cs:=λn a=>by simp[tcs,V.sh1,V.sh0]
 refine Q8 (α:=Nat) (λk=>k<=shs.length/\NoneTo p shs k)
  (λk=>⟨[(1,.p 0 1 0 0),(9,lsV shs),(10,.i .i64 shs.length),(11,.i .i64 k)],
   [.arr 1 2 [m.cs]]⟩)
  (λk=>shs.length-k) 0 ⟨Nat.zero_le _,NoneTo.zero _ _⟩ ?_ ?_
 ·simp[go_sem,lsV,Mesh.cs,vsV,tsV,Q1d,Ky,hsv,hst]
 ·rintro k ⟨hk,hno⟩;by_cases hkl:k=shs.length
  ·subst hkl;obtain rfl:=hB.symm.trans hno.all;simp[go_sem,lsV,L33.r]
  ·have hlt:k<shs.length:=by omega
   have hnum:=hok.num;have hq:shs[k]?=some shs[k]:=q9 hlt;have hmw:shs[k]∈shs:=List.getElem_mem _;generalize shs[k]=sh at hq hmw;obtain⟨_,hq'⟩:=q8.1 hq;have hshl:=hok.len sh hmw;have hshm:=hok.mem sh hmw;simp[go_sem,lsV,hlt,hq,hq',Mesh.cs,vsV,tsV,isV];refine Qi [.c 1 0 1 3] (α:=Nat) (λj=>j<=sh.length)
    (λj=>⟨[(1,.p 0 1 0 0),(4,isV sh),(5,.p 1 1 0 0),(9,lsV shs),(10,.i .i64 shs.length),(11,.i .i64 k),(18,isV sh),(19,.i .i64 sh.length),(20,.i .i64 j)],
     [.arr 1 2 [m.cs],.arr 1 2 [[vsV m.verts,.own 2 (j+1) 0 j]],.arr (j+1) 3 ((Z4 m.tris (sh.take j)).map T3.cs)]⟩)
    (λj=>sh.length-j) 0 (Nat.zero_le _) ?_ ?_
   ·simp[go_sem,lsV,isV,Z4,Mesh.cs,vsV,tsV,Q1d,Ky]
   ·intro j hj;by_cases hjl:j=sh.length
    ·subst hjl;rw[qi];have hpl:=Um m.tris sh;have hvol:=hv ⟨m.verts,Z4 m.tris sh⟩;have hve:(Mesh.mk m.verts (Z4 m.tris sh)).vol6=Xb m.verts (Z4 m.tris sh):=by unfold Mesh.vol6;rw[if_pos (Q9o hz hshl hshm)]
     rw[hve]at hvol
     have hps:p sh=decide (Xb m.verts (Z4 m.tris sh)<0):=by rw[<- hp]
     generalize Z4 m.tris sh=PT at *
     have htkp:List.take sh.length (PT.map T3.cs)=PT.map T3.cs:=qe (by simp;omega);simp[go_sem,lsV,isV];refine Y8 (vs:=[(Mesh.mk m.verts PT).enc]) ?_ hvol ?_
     ·simp[go_sem,Zh,frz,Ys,Mesh.enc,Mesh.cs,vsV,tsV,Qfb,htkp,hpl]
     ·by_cases hneg:Xb m.verts PT<0
      ·have ha:shs.any p=true:=Q82 p hq (by rw[hps];simpa using hneg);obtain rfl:=hB.symm.trans ha;simp (disch:=omega) [go_sem,vsV,tsV,hneg,L33.r]
      ·have ha:=Q1f p hq hno (by rw[hps];simpa using hneg);simp (disch:=omega) [go_sem,vsV,tsV,hneg,Q0];refine⟨k+1,⟨by omega,ha⟩,by omega,?_⟩;simp (disch:=omega) [go_sem,lsV,Mesh.cs,vsV,tsV,Q1d,Ky,Q0]
    ·have hjlt:j<sh.length:=by omega
     have hq2:sh[j]?=some sh[j]:=q9 hjlt;have hqm:sh[j]∈sh:=List.getElem_mem _;have hpj:=λv (h:sh[j]?=some v)=>Q5a (ts:=m.tris) h
     generalize sh[j]=v at hq2 hqm;have hpj:=hpj v hq2;obtain⟨_,hq2'⟩:=q8.1 hq2;obtain⟨v0,v1⟩:=hshm v hqm;have v2:v.toNat<m.tris.length:=by omega
     have ht:=Zt v2;have hpl:=Um m.tris (sh.take j);rw[qv,Nat.min_eq_left (by omega)]at hpl
     generalize tAt m.tris v.toNat=t at ht hpj;obtain⟨_,ht'⟩:=q8.1 ht;generalize hPT:Z4 m.tris (sh.take j)=PT at *
     have htkp:List.take j (PT.map T3.cs)=PT.map T3.cs:=qe (by simp;omega);simp (disch:=omega) [go_sem,lsV,isV,Mesh.cs,vsV,tsV,hjlt,hq2,hq2',v0,v1,v2,ht,ht',tcs,htkp,hpl,Q0];refine⟨⟨by omega,by omega⟩,j+1,by omega,by omega,?_⟩;rw[hpj];exact⟨by omega,rfl,by rw[qx];rfl⟩
theorem Q5w {f fc fl fh fd fi:FuncId} (hf:Q5 P f (L32.c fc fl fh fd fi) L32.r L32.n) (hc:Y0 P fc) (hl:Bc P fl) (hh:Kr P fh) (hd:Qtx P fd) (hi:InvC P fi):Qtz P f:=by
 intro m;have hl1:=hl m;have hh1:=hh m;by_cases hz:m.check=0
 case neg =>
  rw[Qz8 hz];refine PI hm hf ?_;unfold L32.c;simp[go_sem,Mesh.enc,Mesh.cs];refine Q2 (hc m) ?_;simp[go_sem,hz,L32.r]
 obtain⟨z1,z2,z3,z4⟩:=Mesh.check_zero.1 hz;rw[Qkn hz]at hh1
 by_cases hcl:m.closed=false
 case pos =>
  rw[Qz7 hz hcl];rw[hcl]at hl1
  refine PI hm hf ?_;unfold L32.c;simp[go_sem,Mesh.enc,Mesh.cs];refine Q2 (hc m) ?_;simp[go_sem,hz];refine Q2 hl1 ?_;simp[go_sem,L32.r]
 have hcl':m.closed=true:=by simpa using hcl
 rw[hcl']at hl1
 by_cases hco:I8 m.tris=false
 case pos =>
  rw[Qz6 hz hcl' hco];rw[hco]at hh1
  refine PI hm hf ?_;unfold L32.c;simp[go_sem,Mesh.enc,Mesh.cs];refine Q2 (hc m) ?_;simp[go_sem,hz];refine Q2 hl1 ?_;simp[go_sem];refine Q2 hh1 ?_;simp[go_sem,L32.r]
 have hco':I8 m.tris=true:=by simpa using hco
 rw[hco']at hh1
 rw[Qz5 hz hcl' hco'];generalize hA:m.tris.any m.deg=A;refine PI hm hf ?_;unfold L32.c;simp[go_sem,Mesh.enc,Mesh.cs,vsV,tsV];refine Q2 (hc m) ?_;simp[go_sem,hz];refine Q2 hl1 ?_;simp[go_sem];refine Q2 hh1 ?_;have hsv:∀(n:Nat) (a:V3),List.map (V.sh1 n) a.cs=a.cs:=λn a=>by simp[vcs,V.sh1,V.sh0]
 have hst:∀(n:Nat) (a:T3),List.map (V.sh1 n) a.cs=a.cs:=λn a=>by simp[tcs,V.sh1,V.sh0]
 simp[go_sem];refine Q8 (α:=Nat) (λk=>k<=m.tris.length/\NoneTo m.deg m.tris k)
  (λk=>⟨[(1,.p 0 1 0 0),(18,.i .i64 m.tris.length),(19,.i .i64 k)],[.arr 1 2 [m.cs]]⟩)
  (λk=>m.tris.length-k) 0 ⟨Nat.zero_le _,NoneTo.zero _ _⟩ ?_ ?_
 ·simp[go_sem,Mesh.cs,vsV,tsV,Q1d,Ky,hsv,hst]
 ·rintro k ⟨hk,hno⟩;by_cases hkl:k=m.tris.length
  ·subst hkl;obtain rfl:=hA.symm.trans hno.all;have hi1:=hi m hz;simp[go_sem,Mesh.cs,vsV,tsV];refine Q2 hi1 ?_;cases hin:m.inv<;>simp[go_sem,L32.r]
  ·have hlt:k<m.tris.length:=by omega
   have hq:=Zt hlt;have hdk:=hd m (k:Int);rw[Qpj hz hq]at hdk
   simp[go_sem,hlt,Mesh.cs,vsV,tsV];refine Q2 hdk ?_;cases hdg:m.deg (tAt m.tris k) with
   | true =>
     have ha:m.tris.any m.deg=true:=Q82 _ hq hdg;obtain rfl:=hA.symm.trans ha;simp[go_sem,L32.r]
   | false =>
     have ha:=Q1f _ hq hno hdg;simp (disch:=omega) [go_sem,Q0];refine⟨k+1,⟨by omega,ha⟩,by omega,?_⟩;simp[go_sem,Mesh.cs,vsV,tsV,Q1d,Ky]
theorem Qcd {f:FuncId} (hf:Q5 P f L1u.c L1u.r L1u.n):Qpy P f:=Qcf hm hf
theorem Q9b {f fc fl fh fd fs fp fv:FuncId} (hf:Q5 P f (L1t.c fc fl fh fd fs fp fv) L1t.r L1t.n) (hc:Y0 P fc) (hl:Bc P fl) (hh:Kr P fh) (hd:Qtx P fd) (hs:B8 P fs) (hp:Qpy P fp) (hv:Qtg P fv):Qtz P f:=by
 intro m;have hl1:=hl m;have hh1:=hh m;by_cases hz:m.check=0
 case neg =>
  rw[Qz8 hz];refine PI hm hf ?_;unfold L1t.c;simp[go_sem,Mesh.enc,Mesh.cs];refine Q2 (hc m) ?_;simp[go_sem,hz,L1t.r]
 obtain⟨z1,z2,z3,z4⟩:=Mesh.check_zero.1 hz;rw[Qkn hz]at hh1
 by_cases hcl:m.closed=false
 case pos =>
  rw[Qz7 hz hcl];rw[hcl]at hl1
  refine PI hm hf ?_;unfold L1t.c;simp[go_sem,Mesh.enc,Mesh.cs];refine Q2 (hc m) ?_;simp[go_sem,hz];refine Q2 hl1 ?_;simp[go_sem,L1t.r]
 have hcl':m.closed=true:=by simpa using hcl
 rw[hcl']at hl1
 by_cases hco:I8 m.tris=false
 case pos =>
  rw[Qz6 hz hcl' hco];rw[hco]at hh1
  refine PI hm hf ?_;unfold L1t.c;simp[go_sem,Mesh.enc,Mesh.cs];refine Q2 (hc m) ?_;simp[go_sem,hz];refine Q2 hl1 ?_;simp[go_sem];refine Q2 hh1 ?_;simp[go_sem,L1t.r]
 have hco':I8 m.tris=true:=by simpa using hco
 rw[hco']at hh1
 rw[Qz5 hz hcl' hco'];have hok:=Qds hz;have hs1:=hs m;unfold Mesh.inv;generalize m.shells=shs at *
 generalize hp':(λsh=>decide (Xb m.verts (Z4 m.tris sh)<0))=p;generalize hB:shs.any p=B;generalize hA:m.tris.any m.deg=A;refine PI hm hf ?_;unfold L1t.c;simp[go_sem,Mesh.enc,Mesh.cs,vsV,tsV];refine Q2 (hc m) ?_;simp[go_sem,hz];refine Q2 hl1 ?_;simp[go_sem];refine Q2 hh1 ?_;have hsv:∀(n:Nat) (a:V3),List.map (V.sh1 n) a.cs=a.cs:=λn a=>by simp[vcs,V.sh1,V.sh0]
 have hst:∀(n:Nat) (a:T3),List.map (V.sh1 n) a.cs=a.cs:=λn a=>by simp[tcs,V.sh1,V.sh0]
 simp[go_sem];refine Q8 (α:=Nat) (λk=>k<=m.tris.length/\NoneTo m.deg m.tris k)
  (λk=>⟨[(1,.p 0 1 0 0),(4,.i .i64 k)],[.arr 1 2 [m.cs]]⟩)
  (λk=>m.tris.length-k) 0 ⟨Nat.zero_le _,NoneTo.zero _ _⟩ ?_ ?_
 ·simp[go_sem,Mesh.cs,vsV,tsV,Q1d,Ky,hsv,hst]
 ·rintro k ⟨hk,hno⟩;by_cases hkl:k=m.tris.length
  ·subst hkl;obtain rfl:=hA.symm.trans hno.all;simp[go_sem,Mesh.cs,vsV,tsV];refine Q2 hs1 ?_;simp[go_sem,lsV];refine Q8 (α:=Nat) (λk=>k<=shs.length/\NoneTo p shs k)
    (λk=>⟨[(1,.p 0 1 0 0),(5,lsV shs),(6,.i .i64 k)],[.arr 1 2 [m.cs]]⟩)
    (λk=>shs.length-k) 0 ⟨Nat.zero_le _,NoneTo.zero _ _⟩ ?_ ?_
   ·simp[go_sem,lsV,Mesh.cs,vsV,tsV,Q1d,Ky,hsv,hst]
   ·rintro k ⟨hk,hno⟩;by_cases hkl:k=shs.length
    ·subst hkl;obtain rfl:=hB.symm.trans hno.all;simp[go_sem,lsV,L1t.r]
    ·have hlt:k<shs.length:=by omega
     have hnum:=hok.num;have hq:shs[k]?=some shs[k]:=q9 hlt;have hmw:shs[k]∈shs:=List.getElem_mem _;generalize shs[k]=sh at hq hmw;obtain⟨_,hq'⟩:=q8.1 hq;have hshl:=hok.len sh hmw;have hshm:=hok.mem sh hmw;have hpt:=hp m sh (by omega) hshm;have hvol:=hv ⟨m.verts,Z4 m.tris sh⟩
     have hve:(Mesh.mk m.verts (Z4 m.tris sh)).vol6=Xb m.verts (Z4 m.tris sh):=by unfold Mesh.vol6;rw[if_pos (Q9o hz hshl hshm)]
     rw[hve]at hvol
     have hps:p sh=decide (Xb m.verts (Z4 m.tris sh)<0):=by rw[<- hp']
     simp[go_sem,lsV,hlt,hq,hq',Mesh.cs,vsV,tsV,isV];refine Qa hpt ?_;simp[go_sem];refine Qa hvol ?_;by_cases hneg:Xb m.verts (Z4 m.tris sh)<0
     ·have ha:shs.any p=true:=Q82 p hq (by rw[hps];simpa using hneg);obtain rfl:=hB.symm.trans ha;simp (disch:=omega) [go_sem,hneg,L1t.r]
     ·have ha:=Q1f p hq hno (by rw[hps];simpa using hneg);simp (disch:=omega) [go_sem,hneg,Q0];refine⟨k+1,⟨by omega,ha⟩,by omega,?_⟩;simp[go_sem,lsV,Mesh.cs,vsV,tsV,Q1d,Ky]
  ·have hlt:k<m.tris.length:=by omega
   have hq:=Zt hlt;have hdk:=hd m (k:Int);rw[Qpj hz hq]at hdk
   simp[go_sem,hlt,Mesh.cs,vsV,tsV];refine Q2 hdk ?_;cases hdg:m.deg (tAt m.tris k) with
   | true =>
     have ha:m.tris.any m.deg=true:=Q82 _ hq hdg;obtain rfl:=hA.symm.trans ha;simp[go_sem,L1t.r]
   | false =>
     have ha:=Q1f _ hq hno hdg;simp (disch:=omega) [go_sem,Q0];refine⟨k+1,⟨by omega,ha⟩,by omega,?_⟩;simp[go_sem,Mesh.cs,vsV,tsV,Q1d,Ky]
end
end Go.Abs
