/- Part of the library on which the proof stands: an abstract machine, its values and its soundness against the model; or what functions of the program do to such values. -/
import Derived.Test.YtcdjgldeiaiaoaaGreatGoSr
import Derived.Test.YtcdjgldeiaiaoaaGreatGoSl
import Derived.Test.YtcdjgldeiaiaoaaGreatGoRevC
import Derived.Test.YtcdjgldeiaiaoaaGreatGoToB
set_option linter.unusedVariables false
set_option linter.unusedSimpArgs false
namespace Go.Abs
structure Mk (ls:List (List Int)) (n:Nat) (A d:List Int):Prop where
 len:A.length = n
 snd:∀ (v:Nat) (u:Int),A[v]? = some u→u ≠ 0→∃ (r:Nat) (l:List Int),ls[r]? = some l∧(v:Int) ∈ l∧u = (r:Int) + 1
 iff:∀ (v:Nat) (u:Int),A[v]? = some u→(u ≠ 0 ↔ (v:Int) ∈ d)
theorem Mk.start (ls:List (List Int)) (n:Nat):Mk ls n (List.replicate n 0) [] :=
 ⟨by simp,fun v u h hu=>by
  have:=List.eq_of_mem_replicate (List.mem_of_getElem? h)
  exact absurd this hu,fun v u h=>by
  have:=List.eq_of_mem_replicate (List.mem_of_getElem? h)
  simp [this]⟩
theorem Mk.add {ls:List (List Int)} {n:Nat} {A d l:List Int} (h:Mk ls n A d) {r v:Nat} (hr:ls[r]? = some l) (hv:(v:Int) ∈ l) (hn:v < n):Mk ls n (A.set v ((r:Int) + 1)) (d ++ [(v:Int)]) where
 len:=by rw [List.length_set,h.len]
 snd w u hw hu:=by
  rw [List.getElem?_set] at hw
  split at hw
  ·rename_i he;subst he
   rw [if_pos (by rw [h.len];exact hn)] at hw
   exact⟨r,l,hr,hv,(Option.some.inj hw).symm⟩
  ·exact h.snd w u hw hu
 iff w u hw:=by
  rw [List.getElem?_set] at hw
  split at hw
  ·rename_i he;subst he
   rw [if_pos (by rw [h.len];exact hn)] at hw
   have:=Option.some.inj hw
   simp;omega
  ·rename_i he
   rw [h.iff w u hw]
   simp only [List.mem_append,List.mem_singleton]
   constructor
   ·exact .inl
   ·rintro (h1 | h1)
    ·exact h1
    ·omega
end Go.Abs
set_option linter.unusedVariables false
set_option linter.unusedSimpArgs false
namespace Go.Abs
theorem rev_rev (e:P2):e.rev.rev = e:=rfl
theorem rev_und (e:P2):e.rev.und = e.und:=by
 unfold P2.rev P2.und
 simp only [P2.mk.injEq]
 exact⟨Int.min_comm _ _,Int.max_comm _ _⟩
theorem edgesOf_rev (t:T3):edgesOf t.rev = ((edgesOf t).map P2.rev).reverse:=by
 have h1:edges3 t.rev = ((edges3 t).map P2.rev).reverse:=rfl
 have h2:((fun e:P2=>decide (e.x ≠ e.y)) ∘ P2.rev) = fun e:P2=>decide (e.x ≠ e.y):=by
  funext e
  show decide (e.y ≠ e.x) = decide (e.x ≠ e.y)
  rw [decide_eq_decide]
  exact ne_comm
 have h3:∀ t,edgesOf t = (edges3 t).filter fun e=>decide (e.x ≠ e.y):=fun t=>rfl
 rw [h3,h3,h1,List.filter_reverse,List.filter_map,h2]
theorem mem_edges_rev {t:T3} {e:P2}:e ∈ edgesOf t.rev ↔ e.rev ∈ edgesOf t:=by
 rw [edgesOf_rev,List.mem_reverse,List.mem_map]
 constructor
 ·rintro⟨a,ha,rfl⟩;exact ha
 ·intro h;exact⟨_,h,rfl⟩
end Go.Abs
set_option linter.unusedVariables false
set_option linter.unusedSimpArgs false
namespace Go.Abs
structure Fl (ts us:List T3):Prop where
 len:us.length = ts.length
 at_:∀ (i:Nat) (t u:T3),ts[i]? = some t→us[i]? = some u→u = t ∨ u = t.rev
theorem T3.rev2 (t:T3):t.rev.rev = t:=rfl
theorem Fl.symm {ts us:List T3} (h:Fl ts us):Fl us ts :=
 ⟨h.len.symm,fun i t u h1 h2=>by
  rcases h.at_ i u t h2 h1 with h | h
  ·exact .inl h.symm
  ·exact .inr (by rw [h];rfl)⟩
theorem Fl.edge {t u:T3} (h:u = t ∨ u = t.rev) {a:P2} (ha:a ∈ edgesOf t):∃ b ∈ edgesOf u,b.und = a.und:=by
 rcases h with rfl | rfl
 ·exact⟨a,ha,rfl⟩
 ·exact⟨a.rev,mem_edges_rev.2 ha,rev_und a⟩
theorem Fl.adj {ts us:List T3} (h:Fl ts us) {i j:Nat} (ha:adjI ts i j):adjI us i j:=by
 have hl:=ha.lt
 obtain⟨s,t,hs,ht,a,haa,b,hb,hab⟩:=ha
 have h1:us[i]? = some (us[i]'(by rw [h.len];exact hl.1)):=List.getElem?_eq_getElem _
 have h2:us[j]? = some (us[j]'(by rw [h.len];exact hl.2)):=List.getElem?_eq_getElem _
 obtain⟨a',ha',e1⟩:=Fl.edge (h.at_ i s _ hs h1) haa
 obtain⟨b',hb',e2⟩:=Fl.edge (h.at_ j t _ ht h2) hb
 exact⟨_,_,h1,h2,a',ha',b',hb',by rw [e1,e2];exact hab⟩
theorem Fl.conn {ts us:List T3} (h:Fl ts us) {i j:Nat} (hc:Conn ts i j):Conn us i j:=by
 induction hc with
 | refl h1=>exact .refl (by rw [h.len];exact h1)
 | tail _ h2 ih=>exact .tail ih (h.adj h2)
theorem Fl.lab {ts us:List T3} (h:Fl ts us) {L:List Int} (hL:IsLab ts L):IsLab us L where
 len:=by rw [hL.len,h.len]
 con i v hv:=by
  obtain⟨h1,h2,h3⟩:=hL.con i v hv
  exact⟨h1,h2,h.conn h3⟩
 adj i j ha:=hL.adj i j (h.symm.adj ha)
theorem Fl.labOf {ts us:List T3} (h:Fl ts us):labOf us = labOf ts:=by
 obtain⟨L,hL⟩:=lab_ex ts
 rw [labOf_eq hL,labOf_eq (h.lab hL)]
end Go.Abs
set_option linter.unusedVariables false
set_option linter.unusedSimpArgs false
namespace Go.Abs
def crs (b c:V3):V3:=⟨b.y * c.z - b.z * c.y,b.z * c.x - b.x * c.z,b.x * c.y - b.y * c.x⟩
def dot3 (a b:V3):Int:=a.x * b.x + a.y * b.y + a.z * b.z
def det3 (a b c:V3):Int:=dot3 a (crs b c)
def vAt (vs:List V3) (i:Int):V3:=(vs[i.toNat]?).getD ⟨0,0,0⟩
def volT (vs:List V3) (t:T3):Int:=det3 (vAt vs t.a) (vAt vs t.b) (vAt vs t.c)
def volL (vs:List V3) (ts:List T3):Int:=(ts.map (volT vs)).sum
def Mesh.vol6 (m:Mesh):Int:=if m.check = 0 then volL m.verts m.tris else 0
def VolC (P:Program) (f:FuncId):Prop:=∀ m:Mesh,CallIs P f [m.enc] (.i .i64 m.vol6)
def DetC (P:Program) (f:FuncId):Prop:=∀ a b c:V3,a.valid = true→b.valid = true→c.valid = true→CallIs P f [a.enc,b.enc,c.enc] (.i .i64 (det3 a b c))
theorem det3_swap (a b c:V3):det3 a c b = - det3 a b c:=by
 unfold det3 dot3 crs
 grind
theorem volT_rev (vs:List V3) (t:T3):volT vs t.rev = - volT vs t:=det3_swap _ _ _
theorem volL_nil (vs:List V3):volL vs [] = 0:=rfl
theorem volL_cons (vs:List V3) (t:T3) (ts:List T3):volL vs (t :: ts) = volT vs t + volL vs ts:=by simp [volL]
theorem volL_app (vs:List V3) (a b:List T3):volL vs (a ++ b) = volL vs a + volL vs b:=by
 induction a with
 | nil=>simp [volL_nil]
 | cons t a ih=>rw [List.cons_append,volL_cons,volL_cons,ih];omega
theorem volL_rev (vs:List V3) (ts:List T3):volL vs (ts.map T3.rev) = - volL vs ts:=by
 induction ts with
 | nil=>rfl
 | cons t ts ih=>rw [List.map_cons,volL_cons,volL_cons,ih,volT_rev];omega
theorem mulB {x y A B:Int} (h1:-A ≤ x) (h2:x ≤ A) (h3:-B ≤ y) (h4:y ≤ B):-(A * B) ≤ x * y∧x * y ≤ A * B:=by
 have hA:0 ≤ A:=by omega
 have hB:0 ≤ B:=by omega
 have a1:=Int.mul_nonneg (a:=A - x) (b:=B - y) (by omega) (by omega)
 have a2:=Int.mul_nonneg (a:=A + x) (b:=B + y) (by omega) (by omega)
 have a3:=Int.mul_nonneg (a:=A - x) (b:=B + y) (by omega) (by omega)
 have a4:=Int.mul_nonneg (a:=A + x) (b:=B - y) (by omega) (by omega)
 simp only [Int.mul_add,Int.add_mul,Int.mul_sub,Int.sub_mul] at a1 a2 a3 a4
 omega
theorem mul16 {x y:Int} (h1:-65536 ≤ x) (h2:x ≤ 65536) (h3:-65536 ≤ y) (h4:y ≤ 65536):-4294967296 ≤ x * y∧x * y ≤ 4294967296:=mulB (A:=65536) (B:=65536) h1 h2 h3 h4
theorem crs_b {b c:V3} (hb:b.valid = true) (hc:c.valid = true):-8589934592 ≤ (crs b c).x∧(crs b c).x ≤ 8589934592∧-8589934592 ≤ (crs b c).y∧(crs b c).y ≤ 8589934592∧-8589934592 ≤ (crs b c).z∧(crs b c).z ≤ 8589934592:=by
 obtain⟨b1,b2,b3,b4,b5,b6⟩:=V3.valid_iff.1 hb
 obtain⟨c1,c2,c3,c4,c5,c6⟩:=V3.valid_iff.1 hc
 have m1:=mul16 b3 b4 c5 c6
 have m2:=mul16 b5 b6 c3 c4
 have m3:=mul16 b5 b6 c1 c2
 have m4:=mul16 b1 b2 c5 c6
 have m5:=mul16 b1 b2 c3 c4
 have m6:=mul16 b3 b4 c1 c2
 unfold crs
 refine⟨?_,?_,?_,?_,?_,?_⟩ <;> simp only <;> omega
theorem det3_b {a b c:V3} (ha:a.valid = true) (hb:b.valid = true) (hc:c.valid = true):-1688849860263936 ≤ det3 a b c∧det3 a b c ≤ 1688849860263936:=by
 obtain⟨b1,b2,b3,b4,b5,b6⟩:=V3.valid_iff.1 ha
 obtain⟨c1,c2,c3,c4,c5,c6⟩:=crs_b hb hc
 have m1:=mulB b1 b2 c1 c2
 have m2:=mulB b3 b4 c3 c4
 have m3:=mulB b5 b6 c5 c6
 unfold det3 dot3
 omega
theorem vAt_get {vs:List V3} {i:Int} (h0:0 ≤ i) (h:i < vs.length):vs[i.toNat]? = some (vAt vs i):=by
 unfold vAt;rw [List.getElem?_eq_getElem (by omega)];rfl
theorem vAt_valid {vs:List V3} (hv:vsOk vs = true) {i:Int} (h0:0 ≤ i) (h:i < vs.length):(vAt vs i).valid = true:=vsOk_get hv (vAt_get h0 h)
theorem volT_b {vs:List V3} (hv:vsOk vs = true) {t:T3} (ht:t.ok vs.length = true):-1688849860263936 ≤ volT vs t∧volT vs t ≤ 1688849860263936:=by
 obtain⟨a1,a2,b1,b2,c1,c2⟩:=T3.ok_iff.1 ht
 exact det3_b (vAt_valid hv a1 a2) (vAt_valid hv b1 b2) (vAt_valid hv c1 c2)
theorem volL_b {vs:List V3} (hv:vsOk vs = true):∀ {ts:List T3},tsOk vs.length ts = true→-1688849860263936 * (ts.length:Int) ≤ volL vs ts∧volL vs ts ≤ 1688849860263936 * (ts.length:Int)
 | [],_=>by simp [volL_nil]
 | t :: ts,h=>by
   have h':t.ok vs.length = true∧tsOk vs.length ts = true:=by simpa [tsOk] using h
   have h1:=volT_b hv h'.1
   have h2:=volL_b hv h'.2
   rw [volL_cons,List.length_cons]
   omega
end Go.Abs
set_option linter.unusedVariables false
set_option linter.unusedSimpArgs false
namespace Go.Abs
def partOf (ts:List T3) (sh:List Int):List T3:=sh.map fun v=>tAt ts v.toNat
def flp (ts:List T3) (F:List Int):List T3:=(List.range ts.length).map fun (i:Nat)=>if (i:Int) ∈ F then (tAt ts i).rev else tAt ts i
theorem flp_len (ts:List T3) (F:List Int):(flp ts F).length = ts.length:=by simp [flp]
theorem flp_get {ts:List T3} {F:List Int} {i:Nat} (h:i < ts.length):(flp ts F)[i]? = some (if (i:Int) ∈ F then (tAt ts i).rev else tAt ts i):=by
 unfold flp
 rw [List.getElem?_map,List.getElem?_range h];rfl
theorem flp_at {ts:List T3} {F:List Int} {i:Nat} (h:i < ts.length):tAt (flp ts F) i = if (i:Int) ∈ F then (tAt ts i).rev else tAt ts i:=by
 have:=flp_get (F:=F) h
 unfold tAt at this ⊢
 rw [this];rfl
theorem flp_nil (ts:List T3):flp ts [] = ts:=by
 apply List.ext_getElem?
 intro i
 by_cases h:i < ts.length
 ·rw [flp_get h,tAt_get h];simp
 ·rw [List.getElem?_eq_none (by rw [flp_len];omega),List.getElem?_eq_none (by omega)]
theorem flp_set {ts:List T3} {F:List Int} {v:Nat} (hv:v < ts.length):(flp ts F).set v (tAt ts v).rev = flp ts (F ++ [(v:Int)]):=by
 apply List.ext_getElem?
 intro i
 by_cases h:i < ts.length
 ·rw [flp_get h]
  by_cases hi:v = i
  ·subst hi
   rw [List.getElem?_set_self (by rw [flp_len];exact hv)]
   simp
  ·rw [List.getElem?_set_ne hi,flp_get h]
   have:((i:Int) ∈ F ++ [(v:Int)]) ↔ (i:Int) ∈ F:=by
    rw [List.mem_append,List.mem_singleton]
    constructor
    ·rintro (h | h)
     ·exact h
     ·omega
    ·exact .inl
   simp only [this]
 ·rw [List.getElem?_eq_none (by rw [List.length_set,flp_len];omega),List.getElem?_eq_none (by rw [flp_len];omega)]
theorem flp_Fl (ts:List T3) (F:List Int):Fl ts (flp ts F) where
 len:=flp_len ts F
 at_ i t u h1 h2:=by
  have hi:=(List.getElem?_eq_some_iff.1 h1).1
  rw [flp_get hi] at h2
  rw [tAt_get hi] at h1
  obtain rfl:=Option.some.inj h1
  have h2:=Option.some.inj h2
  split at h2
  ·exact .inr h2.symm
  ·exact .inl h2.symm
def negsOf (vs:List V3) (ts:List T3) (shs:List (List Int)):List (List Int):=shs.filter fun sh=>decide (volL vs (partOf ts sh) < 0)
theorem negsOf_snoc (vs:List V3) (ts:List T3) (shs:List (List Int)) (sh:List Int):negsOf vs ts (shs ++ [sh]) = negsOf vs ts shs ++ if volL vs (partOf ts sh) < 0 then [sh] else []:=by
 unfold negsOf
 rw [List.filter_append]
 by_cases h:volL vs (partOf ts sh) < 0 <;> simp [h]
theorem negsOf_len (vs:List V3) (ts:List T3) (shs:List (List Int)):(negsOf vs ts shs).length ≤ shs.length:=List.length_filter_le _ _
noncomputable def Mesh.negs (m:Mesh):List (List Int):=negsOf m.verts m.tris m.shells
noncomputable def Mesh.outw (m:Mesh):Mesh:=⟨m.verts,flp m.tris m.negs.flatten⟩
def mieV (p:Mesh × Int × Int):V:=.t [p.1.enc,.i .i64 p.2.1,.i .i64 p.2.2]
noncomputable def outR (m:Mesh):Mesh × Int × Int :=
 if m.check ≠ 0 then (⟨[],[]⟩,0,m.check) else if m.closed = false then (⟨[],[]⟩,0,12) else if cohB m.tris = false then (⟨[],[]⟩,0,13) else (m.outw,m.negs.length,0)
def OutwardC (P:Program) (f:FuncId):Prop:=∀ m:Mesh,CallIs P f [m.enc] (mieV (outR m))
theorem mieV_no (e:Int):Le (.t [.a [.nil,.nil],.i .i64 0,.i .i64 e]) (mieV (⟨[],[]⟩,0,e)) :=
 .inr ⟨_,_,rfl,rfl,.inr ⟨_,_,rfl,rfl,Le0.nil 3,Le0.nil 3,trivial⟩,Le1.refl _,Le1.refl _,trivial⟩
structure ShOk (n:Nat) (shs:List (List Int)):Prop where
 num:shs.length ≤ n
 len:∀ sh ∈ shs,sh.length ≤ n
 mem:∀ sh ∈ shs,∀ v ∈ sh,0 ≤ v∧v < n
 nodup:shs.flatten.Nodup
theorem shK_nodup2 (L:List Int) (i k:Nat):(shK L i k).Nodup:=by
 have hsh:(shK L i k).Pairwise fun a b=>a < b:=by
  unfold shK
  rw [List.pairwise_map]
  have h1:(List.range k).Pairwise (fun a b:Nat=>a < b):=List.pairwise_lt_range
  exact (h1.filter _).imp fun {a b:Nat} (h:a < b)=>by show (a:Int) < (b:Int);omega
 exact hsh.imp fun h=>by omega
theorem mem_shK2 {L:List Int} {i k:Nat} {v:Int}:v ∈ shK L i k ↔ ∃ j:Nat,v = (j:Int)∧j < k∧L[j]? = some (i:Int):=by
 unfold shK
 rw [List.mem_map]
 constructor
 ·rintro⟨j,hj,rfl⟩
  have hf:=List.mem_filter.1 hj
  exact⟨j,rfl,List.mem_range.1 hf.1,by simpa using hf.2⟩
 ·rintro⟨j,rfl,h1,h2⟩
  exact⟨j,List.mem_filter.2 ⟨List.mem_range.2 h1,by simpa using h2⟩,rfl⟩
theorem shsK_mem {L:List Int} {k:Nat} {sh:List Int}:sh ∈ shsK L k ↔ ∃ i:Nat,i < k∧L[i]? = some (i:Int)∧sh = shK L i L.length:=by
 unfold shsK
 rw [List.mem_map]
 constructor
 ·rintro⟨i,hi,rfl⟩
  have hf:=List.mem_filter.1 hi
  exact⟨i,List.mem_range.1 hf.1,by simpa using hf.2,rfl⟩
 ·rintro⟨i,h1,h2,rfl⟩
  exact⟨i,List.mem_filter.2 ⟨List.mem_range.2 h1,by simpa using h2⟩,rfl⟩
theorem shsK_nodup (L:List Int) (k:Nat):(shsK L k).flatten.Nodup:=by
 induction k with
 | zero=>simp [shsK]
 | succ k ih =>
   rw [shsK_succ]
   split
   ·rw [List.flatten_append,List.nodup_append]
    refine⟨ih,by simpa using shK_nodup2 L k L.length,fun a ha b hb=>?_⟩
    simp at hb
    obtain⟨sh,hs,has⟩:=List.mem_flatten.1 ha
    obtain⟨i,hi,_,rfl⟩:=shsK_mem.1 hs
    obtain⟨j,rfl,_,hj⟩:=mem_shK2.1 has
    rintro rfl
    obtain⟨j',hjj,_,hj'⟩:=mem_shK2.1 hb
    obtain rfl:j = j':=by omega
    rw [hj] at hj'
    have:=Option.some.inj hj'
    omega
   ·simpa using ih
theorem shells_ok {m:Mesh} (hz:m.check = 0):ShOk m.tris.length m.shells:=by
 obtain⟨L,hL⟩:=lab_ex m.tris
 have hR:m.shells = shsK L m.tris.length:=by unfold Mesh.shells;rw [if_pos hz,labOf_eq hL,hL.len]
 rw [hR]
 refine⟨?_,fun sh hs=>?_,fun sh hs v hv=>?_,shsK_nodup _ _⟩
 ·unfold shsK
  rw [List.length_map]
  have:=List.length_filter_le (fun (i:Nat)=>decide (L[i]? = some (i:Int))) (List.range m.tris.length)
  rwa [List.length_range] at this
 ·obtain⟨i,_,_,rfl⟩:=shsK_mem.1 hs
  unfold shK
  rw [List.length_map]
  have:=List.length_filter_le (fun (j:Nat)=>decide (L[j]? = some (i:Int))) (List.range L.length)
  rw [List.length_range,hL.len] at this
  rw [hL.len]
  omega
 ·obtain⟨i,_,_,rfl⟩:=shsK_mem.1 hs
  obtain⟨j,rfl,h1,_⟩:=mem_shK2.1 hv
  rw [hL.len] at h1
  omega
theorem tAt_ok {n:Nat} {ts:List T3} (h:tsOk n ts = true) {i:Nat} (hi:i < ts.length):(tAt ts i).ok n = true:=tsOk_get h (tAt_get hi)
theorem part_check {m:Mesh} (hz:m.check = 0) {sh:List Int} (hl:sh.length ≤ m.tris.length) (hv:∀ v ∈ sh,0 ≤ v∧v < m.tris.length):(Mesh.mk m.verts (partOf m.tris sh)).check = 0:=by
 obtain⟨z1,z2,z3,z4⟩:=Mesh.check_zero.1 hz
 refine Mesh.check_zero.2 ⟨z1,by simp [partOf];omega,z3,?_⟩
 simp only [tsOk,List.all_eq_true,partOf,List.mem_map]
 rintro t ⟨v,hvs,rfl⟩
 have:=hv v hvs
 exact tAt_ok z4 (by omega)
theorem T3.rev_ok {n:Nat} {t:T3} (h:t.ok n = true):t.rev.ok n = true:=by
 obtain⟨a1,a2,b1,b2,c1,c2⟩:=T3.ok_iff.1 h
 exact T3.ok_iff.2 ⟨a1,a2,c1,c2,b1,b2⟩
theorem flp_check {m:Mesh} (hz:m.check = 0) (F:List Int):(Mesh.mk m.verts (flp m.tris F)).check = 0:=by
 obtain⟨z1,z2,z3,z4⟩:=Mesh.check_zero.1 hz
 refine Mesh.check_zero.2 ⟨z1,by rw [flp_len];exact z2,z3,?_⟩
 simp only [tsOk,List.all_eq_true]
 intro t ht
 obtain⟨i,hi⟩:=List.getElem?_of_mem ht
 have hil:=(List.getElem?_eq_some_iff.1 hi).1
 rw [flp_len] at hil
 rw [flp_get hil] at hi
 obtain rfl:=Option.some.inj hi
 have:=tAt_ok z4 hil
 split
 ·exact T3.rev_ok this
 ·exact this
end Go.Abs
set_option linter.unusedVariables false
set_option linter.unusedSimpArgs false
namespace Go.Abs
theorem und_two {a b:P2} (h:a.und = b.und):a = b ∨ a = b.rev:=by
 cases a;cases b
 simp only [P2.und,P2.rev,P2.mk.injEq] at h ⊢
 omega
theorem edgesOf_nodup (t:T3):(edgesOf t).Nodup:=by
 have h0:edgesOf t = (edges3 t).filter fun e=>decide (e.x ≠ e.y):=rfl
 rw [h0,List.nodup_iff_pairwise_ne,List.pairwise_filter]
 unfold edges3
 simp only [List.pairwise_cons,List.mem_cons,List.not_mem_nil,or_false,decide_eq_true_eq,ne_eq,false_implies,implies_true,List.Pairwise.nil,and_true,P2.mk.injEq]
 refine⟨fun x hx h1 h2=>?_,fun x hx h1 h2=>?_⟩
 ·rcases hx with rfl | rfl
  ·simp only [P2.mk.injEq];simp only at h1 h2;omega
  ·simp only [P2.mk.injEq];simp only at h1 h2;omega
 ·subst hx
  simp only [P2.mk.injEq];simp only at h1 h2;omega
def Coh (ts:List T3):Prop:=∀ (i j:Nat) (e:P2),i < ts.length→j < ts.length→e ∈ edgesOf (tAt ts i)→e ∈ edgesOf (tAt ts j)→i = j
theorem tAt_el {ts:List T3} {i:Nat} (h:i < ts.length):ts[i] = tAt ts i:=by
 have:=tAt_get h
 rw [List.getElem?_eq_getElem h] at this
 exact Option.some.inj this
theorem coh_iff {ts:List T3}:(alluses ts).Nodup ↔ Coh ts:=by
 have h0:(alluses ts).Nodup ↔ (∀ t ∈ ts,(edgesOf t).Nodup)∧ts.Pairwise fun s t=>∀ x ∈ edgesOf s,∀ y ∈ edgesOf t,x ≠ y:=List.pairwise_flatMap
 rw [h0,List.pairwise_iff_getElem]
 constructor
 ·rintro⟨_,h⟩ i j e hi hj h1 h2
  rcases Nat.lt_trichotomy i j with hh | hh | hh
  ·exact absurd rfl (h i j hi hj hh e (by rw [tAt_el hi];exact h1) e (by rw [tAt_el hj];exact h2))
  ·exact hh
  ·exact absurd rfl (h j i hj hi hh e (by rw [tAt_el hj];exact h2) e (by rw [tAt_el hi];exact h1))
 ·intro h
  refine⟨fun t _=>edgesOf_nodup t,fun i j hi hj hij x hx y hy=>?_⟩
  rintro rfl
  rw [tAt_el hi] at hx
  rw [tAt_el hj] at hy
  have:=h i j x hi hj hx hy
  omega
theorem cohB_iff {ts:List T3}:cohB ts = true ↔ Coh ts:=by unfold cohB;rw [decide_eq_true_eq];exact coh_iff
theorem Fl.tat {ts us:List T3} (h:Fl ts us) {i:Nat} (hi:i < ts.length):tAt us i = tAt ts i ∨ tAt us i = (tAt ts i).rev :=
 h.at_ i _ _ (tAt_get hi) (tAt_get (by rw [h.len];exact hi))
theorem tAt_ext {us vs:List T3} (hl:us.length = vs.length) (h:∀ i,i < us.length→tAt us i = tAt vs i):us = vs:=by
 apply List.ext_getElem?
 intro i
 by_cases hi:i < us.length
 ·rw [tAt_get hi,tAt_get (by omega),h i hi]
 ·rw [List.getElem?_eq_none (by omega),List.getElem?_eq_none (by omega)]
theorem adj_edge {ts:List T3} {i j:Nat} (h:adjI ts i j):i < ts.length∧j < ts.length∧∃ a ∈ edgesOf (tAt ts i),∃ b ∈ edgesOf (tAt ts j),a.und = b.und:=by
 have hl:=h.lt
 obtain⟨s,t,hs,ht,a,ha,b,hb,hab⟩:=h
 rw [tAt_get hl.1] at hs
 rw [tAt_get hl.2] at ht
 obtain rfl:=Option.some.inj hs
 obtain rfl:=Option.some.inj ht
 exact⟨hl.1,hl.2,a,ha,b,hb,hab⟩
theorem adjI_of' {ts:List T3} {i j:Nat} (hi:i < ts.length) (hj:j < ts.length) {a b:P2} (ha:a ∈ edgesOf (tAt ts i)) (hb:b ∈ edgesOf (tAt ts j)) (h:a.und = b.und):adjI ts i j :=
 ⟨_,_,tAt_get hi,tAt_get hj,a,ha,b,hb,h⟩
structure Good (ts us:List T3) (L:List Int):Prop where
 fl:Fl ts us
 coh:Coh us
 first:∀ i:Nat,i < ts.length→L[i]? = some (i:Int)→tAt us i = tAt ts i
theorem Good.step {ts us vs:List T3} {L:List Int} (h:Good ts us L) (k:Good ts vs L) {i j:Nat} (ha:adjI ts i j) (he:tAt us i = tAt vs i):tAt us j = tAt vs j:=by
 obtain⟨hi,hj,a,haa,b,hbb,hab⟩:=adj_edge (h.fl.adj ha)
 rw [h.fl.len] at hi hj
 by_cases hij:i = j
 ·subst hij;exact he
 refine Decidable.byContradiction fun hne=>?_
 have hrev:tAt vs j = (tAt us j).rev:=by
  rcases h.fl.tat hj with h1 | h1 <;> rcases k.fl.tat hj with h2 | h2
  ·exact absurd (h1.trans h2.symm) hne
  ·rw [h1,h2]
  ·rw [h1,h2];rfl
  ·exact absurd (h1.trans h2.symm) hne
 rcases und_two hab with rfl | hab
 ·exact hij (h.coh i j a (by rw [h.fl.len];exact hi) (by rw [h.fl.len];exact hj) haa hbb)
 ·refine hij (k.coh i j a (by rw [k.fl.len];exact hi) (by rw [k.fl.len];exact hj) (by rw [← he];exact haa) ?_)
  rw [hrev,mem_edges_rev,hab,rev_rev]
  exact hbb
theorem Good.eq {ts us vs:List T3} {L:List Int} (hL:IsLab ts L) (h:Good ts us L) (k:Good ts vs L):us = vs:=by
 refine tAt_ext (by rw [h.fl.len,k.fl.len]) fun j hj=>?_
 rw [h.fl.len] at hj
 have hv:L[j]? = some (L[j]'(by rw [hL.len];exact hj)):=List.getElem?_eq_getElem _
 generalize L[j]'(by rw [hL.len];exact hj) = v at hv
 obtain⟨v0,v1,hc⟩:=hL.con j v hv
 have hvv:=hL.conn hc
 rw [hv] at hvv
 have hc':=hc.symm
 have hvl:=hc'.lt.1
 have hLv:L[v.toNat]? = some (v.toNat:Int):=by rw [← hvv];congr 1;omega
 have h0:tAt us v.toNat = tAt vs v.toNat:=by rw [h.first _ hvl hLv,k.first _ hvl hLv]
 clear hv hvv hc hj v1
 induction hc' with
 | refl _=>exact h0
 | tail _ h2 ih=>exact h.step k h2 ih
open Classical in
noncomputable def orientL (ts:List T3):Option (List T3):=if h:∃ us,Good ts us (labOf ts) then some (Classical.choose h) else none
theorem orientL_some {ts us:List T3} {L:List Int} (hL:IsLab ts L) (h:Good ts us L):orientL ts = some us:=by
 unfold orientL
 rw [labOf_eq hL]
 have hex:∃ us,Good ts us L:=⟨us,h⟩
 rw [dif_pos hex]
 congr 1
 exact (Classical.choose_spec hex).eq hL h
theorem orientL_none {ts:List T3} {L:List Int} (hL:IsLab ts L) (h:∀ us,¬ Good ts us L):orientL ts = none:=by
 unfold orientL
 rw [labOf_eq hL,dif_neg]
 rintro⟨us,hu⟩
 exact h us hu
theorem orientL_good {ts us:List T3} {L:List Int} (hL:IsLab ts L) (h:orientL ts = some us):Good ts us L:=by
 unfold orientL at h
 rw [labOf_eq hL] at h
 split at h
 ·rename_i hex
  obtain rfl:=Option.some.inj h
  exact Classical.choose_spec hex
 ·simp at h
def difN (ts us:List T3):Nat:=((List.range ts.length).filter fun i=>decide (tAt us i ≠ tAt ts i)).length
noncomputable def oriR (m:Mesh):Mesh × Int × Int :=
 if m.check ≠ 0 then (⟨[],[]⟩,0,m.check) else match orientL m.tris with
 | none=>(⟨[],[]⟩,0,13)
 | some us=>(⟨m.verts,us⟩,difN m.tris us,0)
def OrientC (P:Program) (f:FuncId):Prop:=∀ m:Mesh,CallIs P f [m.enc] (mieV (oriR m))
theorem tAt_set {us:List T3} {j:Nat} (hj:j < us.length) (i:Nat) (t:T3):tAt (us.set j t) i = if i = j then t else tAt us i:=by
 unfold tAt
 by_cases h:i = j
 ·subst h;rw [List.getElem?_set_self hj,if_pos rfl];rfl
 ·rw [List.getElem?_set_ne (fun hh=>h hh.symm),if_neg h]
theorem Fl.set {ts us:List T3} (h:Fl ts us) {j:Nat} (hj:j < ts.length):Fl ts (us.set j (tAt us j).rev) where
 len:=by rw [List.length_set,h.len]
 at_ i t u h1 h2:=by
  have hi:=(List.getElem?_eq_some_iff.1 h1).1
  have hju:j < us.length:=by rw [h.len];exact hj
  rw [tAt_get (by rw [List.length_set,h.len];exact hi)] at h2
  rw [tAt_get hi] at h1
  obtain rfl:=Option.some.inj h1
  obtain rfl:=Option.some.inj h2
  rw [tAt_set hju]
  split
  ·rename_i hh;subst hh
   rcases h.tat hj with h3 | h3
   ·exact .inr (by rw [h3])
   ·exact .inl (by rw [h3];rfl)
  ·exact h.tat hi
theorem Fl.refl (ts:List T3):Fl ts ts:=⟨rfl,fun i t u h1 h2=>.inl (by rw [h1] at h2;exact (Option.some.inj h2).symm)⟩
theorem difN_self (ts:List T3):difN ts ts = 0:=by unfold difN;simp
theorem filter_one {n j:Nat} (hj:j < n) {p q:Nat→Bool} (hq:∀ i,i < n→q i = (if i = j then true else p i)) (hp:p j = false):((List.range n).filter q).length = ((List.range n).filter p).length + 1:=by
 induction n with
 | zero=>omega
 | succ n ih =>
   rw [List.range_succ,List.filter_append,List.filter_append,List.length_append,List.length_append]
   by_cases h:j = n
   ·subst h
    have h1:(List.range j).filter q = (List.range j).filter p:=by
     refine List.filter_congr fun i hi=>?_
     have:=List.mem_range.1 hi
     rw [hq i (by omega),if_neg (by omega)]
    rw [h1]
    have h2:=hq j (by omega)
    rw [if_pos rfl] at h2
    simp [h2,hp]
   ·have h1:=ih (by omega) fun i hi=>hq i (by omega)
    have h2:=hq n (by omega)
    rw [if_neg (fun hh=>h hh.symm)] at h2
    rw [h1]
    by_cases h3:p n = true <;> simp [h2,h3] <;> omega
theorem difN_set {ts us:List T3} (hl:us.length = ts.length) {j:Nat} (hj:j < ts.length) (he:tAt us j = tAt ts j) {t:T3} (hne:t ≠ tAt ts j):difN ts (us.set j t) = difN ts us + 1:=by
 unfold difN
 refine filter_one hj (fun i hi=>?_) (by simp [he])
 rw [tAt_set (by rw [hl];exact hj)]
 by_cases h:i = j
 ·subst h;simp [hne]
 ·simp [h]
structure OrI (ts us:List T3) (L X:List Int) (n:Nat):Prop where
 fl:Fl ts us
 new:∀ i:Nat,i < ts.length→(i:Int) ∉ X→tAt us i = tAt ts i
 first:∀ i:Nat,i < ts.length→L[i]? = some (i:Int)→tAt us i = tAt ts i
 num:n ≤ X.length
 good:∀ vs,Good ts vs L→(∀ i:Nat,i < ts.length→(i:Int) ∈ X→tAt us i = tAt vs i)∧n = difN ts us
theorem OrI.start (ts:List T3) (L:List Int):OrI ts ts L [] 0 :=
 ⟨Fl.refl ts,fun _ _ _=>rfl,fun _ _ _=>rfl,Nat.zero_le _,fun vs h=>⟨by simp,by rw [difN_self]⟩⟩
theorem mem_snoc {X:List Int} {k i:Int}:i ∈ X ++ [k] ↔ i ∈ X ∨ i = k:=by simp
theorem OrI.top {ts us:List T3} {L X:List Int} {n:Nat} (h:OrI ts us L X n) {k:Nat} (hk:k < ts.length) (hx:(k:Int) ∉ X) (hL:L[k]? = some (k:Int)):OrI ts us L (X ++ [(k:Int)]) n where
 fl:=h.fl
 new i hi hn:=h.new i hi fun hh=>hn (mem_snoc.2 (.inl hh))
 first:=h.first
 num:=by have:=h.num;simp;omega
 good vs hv:=by
  obtain⟨h1,h2⟩:=h.good vs hv
  refine⟨fun i hi hm=>?_,h2⟩
  rcases mem_snoc.1 hm with hm | hm
  ·exact h1 i hi hm
  ·obtain rfl:i = k:=by omega
   rw [h.first i hi hL,hv.first i hi hL]
theorem OrI.keep {ts us:List T3} {L X:List Int} {n:Nat} (h:OrI ts us L X n) {i k:Nat} (hi:i < ts.length) (hk:k < ts.length) (hix:(i:Int) ∈ X) (hx:(k:Int) ∉ X) {e:P2} (he:e ∈ edgesOf (tAt us i)) (hno:e ∉ edgesOf (tAt us k))
  {b:P2} (hb:b ∈ edgesOf (tAt ts k)) (hbe:b.und = e.und):OrI ts us L (X ++ [(k:Int)]) n where
 fl:=h.fl
 new i hi hn:=h.new i hi fun hh=>hn (mem_snoc.2 (.inl hh))
 first:=h.first
 num:=by have:=h.num;simp;omega
 good vs hv:=by
  obtain⟨h1,h2⟩:=h.good vs hv
  refine⟨fun j hj hm=>?_,h2⟩
  rcases mem_snoc.1 hm with hm | hm
  ·exact h1 j hj hm
  ·obtain rfl:j = k:=by omega
   have huk:=h.new j hj hx
   rw [huk] at hno ⊢
   rcases hv.fl.tat hj with h3 | h3
   ·exact h3.symm
   ·exfalso
    rcases und_two hbe with rfl | rfl
    ·exact hno hb
    ·have hij:=hv.coh i j e (by rw [hv.fl.len];exact hi) (by rw [hv.fl.len];exact hj) (by rw [← h1 i hi hix];exact he) (by rw [h3,mem_edges_rev];exact hb)
     subst hij
     exact hx hix
theorem OrI.turn {ts us:List T3} {L X:List Int} {n:Nat} (h:OrI ts us L X n) {i k:Nat} (hi:i < ts.length) (hk:k < ts.length) (hix:(i:Int) ∈ X) (hx:(k:Int) ∉ X) (hL:L[k]? ≠ some (k:Int)) {e:P2} (he:e ∈ edgesOf (tAt us i)) (hye:e ∈ edgesOf (tAt us k)) :
  OrI ts (us.set k (tAt us k).rev) L (X ++ [(k:Int)]) (n + 1) where
 fl:=h.fl.set hk
 new j hj hn:=by
  rw [tAt_set (by rw [h.fl.len];exact hk),if_neg (fun hh=>hn (mem_snoc.2 (.inr (by omega))))]
  exact h.new j hj fun hh=>hn (mem_snoc.2 (.inl hh))
 first j hj hLj:=by
  rw [tAt_set (by rw [h.fl.len];exact hk),if_neg (by rintro rfl;exact hL hLj)]
  exact h.first j hj hLj
 num:=by have:=h.num;simp;omega
 good vs hv:=by
  obtain⟨h1,h2⟩:=h.good vs hv
  have huk:=h.new k hk hx
  have hvk:tAt vs k = (tAt us k).rev:=by
   rw [huk] at hye ⊢
   rcases hv.fl.tat hk with h3 | h3
   ·exfalso
    have hij:=hv.coh i k e (by rw [hv.fl.len];exact hi) (by rw [hv.fl.len];exact hk) (by rw [← h1 i hi hix];exact he) (by rw [h3];exact hye)
    subst hij
    exact hx hix
   ·exact h3
  refine⟨fun j hj hm=>?_,?_⟩
  ·rw [tAt_set (by rw [h.fl.len];exact hk)]
   split
   ·rename_i hh;subst hh;exact hvk.symm
   ·rename_i hh
    rcases mem_snoc.1 hm with hm | hm
    ·exact h1 j hj hm
    ·omega
  ·rw [difN_set h.fl.len hk huk,h2]
   intro hh
   have hij:=hv.coh i k e (by rw [hv.fl.len];exact hi) (by rw [hv.fl.len];exact hk) (by rw [← h1 i hi hix];exact he) (by rw [hvk,hh,← huk];exact hye)
   subst hij
   exact hx hix
theorem OrI.done {ts us:List T3} {L X:List Int} {n:Nat} (hL:IsLab ts L) (h:OrI ts us L X n) (hall:∀ i:Nat,i < ts.length→(i:Int) ∈ X) :
  (Coh us→orientL ts = some us∧n = difN ts us)∧(¬ Coh us→orientL ts = none):=by
 constructor
 ·intro hc
  have hg:Good ts us L:=⟨h.fl,hc,h.first⟩
  exact⟨orientL_some hL hg,(h.good us hg).2⟩
 ·intro hc
  refine orientL_none hL fun vs hv=>hc ?_
  obtain⟨h1,_⟩:=h.good vs hv
  have:us = vs:=tAt_ext (by rw [h.fl.len,hv.fl.len]) fun i hi=>by
   rw [h.fl.len] at hi
   exact h1 i hi (hall i hi)
  rw [this]
  exact hv.coh
end Go.Abs
set_option linter.unusedVariables false
set_option linter.unusedSimpArgs false
namespace Go.Abs
theorem mem_all {ts:List T3} {e:P2}:e ∈ alluses ts ↔ ∃ i:Nat,i < ts.length∧e ∈ edgesOf (tAt ts i):=by
 unfold alluses
 rw [List.mem_flatMap]
 constructor
 ·rintro⟨t,ht,he⟩
  obtain⟨i,hi⟩:=List.getElem?_of_mem ht
  have hl:=(List.getElem?_eq_some_iff.1 hi).1
  rw [tAt_get hl] at hi
  obtain rfl:=Option.some.inj hi
  exact⟨i,hl,he⟩
 ·rintro⟨i,hl,he⟩
  exact⟨_,List.mem_of_getElem? (tAt_get hl),he⟩
def Clo (ts:List T3):Prop:=∀ e ∈ alluses ts,e.rev ∈ alluses ts
theorem closed_clo {m:Mesh} (h:m.closed = true):m.check = 0∧Clo m.tris:=by
 unfold Mesh.closed at h
 simp only [Bool.and_eq_true,decide_eq_true_eq] at h
 obtain⟨hz,hb⟩:=h
 refine⟨hz,fun e he=>?_⟩
 have hne:¬ e ∈ m.border:=by rw [hb];simp
 rw [mem_border] at hne
 have h1:¬ m.use e.rev < m.use e:=fun hh=>hne ⟨hz,he,hh⟩
 unfold Mesh.use at h1
 rw [if_pos hz,if_pos hz] at h1
 have h2:0 < (alluses m.tris).count e:=List.count_pos_iff.2 he
 exact List.count_pos_iff.1 (by omega)
theorem clo_closed {m:Mesh} (hz:m.check = 0) (hc:Coh m.tris) (h:Clo m.tris):m.closed = true:=by
 unfold Mesh.closed
 simp only [Bool.and_eq_true,decide_eq_true_eq]
 refine⟨hz,?_⟩
 rw [List.eq_nil_iff_forall_not_mem]
 intro e he
 rw [mem_border] at he
 obtain⟨_,h1,h2⟩:=he
 unfold Mesh.use at h2
 rw [if_pos hz,if_pos hz] at h2
 have h3:=List.nodup_iff_count.1 (coh_iff.2 hc) e
 have h4:0 < (alluses m.tris).count e.rev:=List.count_pos_iff.2 (h e h1)
 omega
def Whole (ts:List T3) (F:List Int):Prop:=∀ i j:Nat,adjI ts i j→((i:Int) ∈ F ↔ (j:Int) ∈ F)
theorem flp_coh {ts:List T3} {F:List Int} (hw:Whole ts F) (h:Coh ts):Coh (flp ts F):=by
 intro i j e hi hj h1 h2
 rw [flp_len] at hi hj
 have ha:adjI ts i j:=(flp_Fl ts F).symm.adj (adjI_of' (by rw [flp_len];exact hi) (by rw [flp_len];exact hj) h1 h2 rfl)
 have hij:=hw i j ha
 rw [flp_at hi] at h1
 rw [flp_at hj] at h2
 by_cases hF:(i:Int) ∈ F
 ·rw [if_pos hF,mem_edges_rev] at h1
  rw [if_pos (hij.1 hF),mem_edges_rev] at h2
  exact h i j e.rev hi hj h1 h2
 ·rw [if_neg hF] at h1
  rw [if_neg (fun hh=>hF (hij.2 hh))] at h2
  exact h i j e hi hj h1 h2
theorem flp_clo {ts:List T3} {F:List Int} (hw:Whole ts F) (h:Clo ts):Clo (flp ts F):=by
 intro e he
 obtain⟨i,hi,h1⟩:=mem_all.1 he
 rw [flp_len] at hi
 rw [flp_at hi] at h1
 by_cases hF:(i:Int) ∈ F
 ·rw [if_pos hF,mem_edges_rev] at h1
  obtain⟨j,hj,h2⟩:=mem_all.1 (h _ (mem_all.2 ⟨i,hi,h1⟩))
  rw [rev_rev] at h2
  have ha:=adjI_of' hi hj h1 h2 (rev_und e)
  refine mem_all.2 ⟨j,by rw [flp_len];exact hj,?_⟩
  rw [flp_at hj,if_pos ((hw i j ha).1 hF),mem_edges_rev,rev_rev]
  exact h2
 ·rw [if_neg hF] at h1
  obtain⟨j,hj,h2⟩:=mem_all.1 (h _ (mem_all.2 ⟨i,hi,h1⟩))
  have ha:=adjI_of' hi hj h1 h2 (rev_und e).symm
  refine mem_all.2 ⟨j,by rw [flp_len];exact hj,?_⟩
  rw [flp_at hj,if_neg (fun hh=>hF ((hw i j ha).2 hh))]
  exact h2
theorem neg_mem {vs:List V3} {ts:List T3} {L:List Int} {n:Nat} {sh:List Int} (hs:sh ∈ shsK L n) {v:Int} (hv:v ∈ sh):v ∈ (negsOf vs ts (shsK L n)).flatten ↔ volL vs (partOf ts sh) < 0:=by
 obtain⟨i,hi,hLi,rfl⟩:=shsK_mem.1 hs
 obtain⟨j,rfl,hj,hLj⟩:=mem_shK2.1 hv
 rw [List.mem_flatten]
 constructor
 ·rintro⟨sh',h1,h2⟩
  have hf:=List.mem_filter.1 h1
  obtain⟨i',_,_,he⟩:=shsK_mem.1 hf.1
  have h3:=hf.2
  subst he
  obtain⟨j',hjj,_,hLj'⟩:=mem_shK2.1 h2
  obtain rfl:j = j':=by omega
  rw [hLj] at hLj'
  have:=Option.some.inj hLj'
  obtain rfl:i = i':=by omega
  simpa using h3
 ·intro h
  exact⟨_,List.mem_filter.2 ⟨hs,by simpa using h⟩,hv⟩
theorem lab_sh {ts:List T3} {L:List Int} (hL:IsLab ts L) {i:Nat} (hi:i < ts.length):∃ q:Nat,L[i]? = some (q:Int)∧L[q]? = some (q:Int)∧q ≤ i∧shK L q L.length ∈ shsK L ts.length∧(i:Int) ∈ shK L q L.length:=by
 have hv:L[i]? = some (L[i]'(by rw [hL.len];exact hi)):=List.getElem?_eq_getElem _
 generalize L[i]'(by rw [hL.len];exact hi) = v at hv
 obtain⟨v0,v1,hc⟩:=hL.con i v hv
 have hvv:=hL.conn hc
 rw [hv] at hvv
 have hvn:(v.toNat:Int) = v:=Int.toNat_of_nonneg v0
 have h1:L[v.toNat]? = some (v.toNat:Int):=by rw [hvn];exact hvv.symm
 refine⟨v.toNat,by rw [hvn];exact hv,h1,by omega,shsK_mem.2 ⟨v.toNat,hc.lt.2,h1,rfl⟩,mem_shK2.2 ⟨i,rfl,by rw [hL.len];exact hi,by rw [hvn];exact hv⟩⟩
theorem negs_whole {vs:List V3} {ts:List T3} {L:List Int} (hL:IsLab ts L):Whole ts (negsOf vs ts (shsK L ts.length)).flatten:=by
 intro i j ha
 have hl:=ha.lt
 obtain⟨q,h1,h2,h3,h4,h5⟩:=lab_sh hL hl.1
 have hj:(j:Int) ∈ shK L q L.length:=mem_shK2.2 ⟨j,rfl,by rw [hL.len];exact hl.2,by rw [← hL.adj i j ha];exact h1⟩
 rw [neg_mem h4 h5,neg_mem h4 hj]
theorem part_flp {vs:List V3} {ts:List T3} {L:List Int} (hL:IsLab ts L) {sh:List Int} (hs:sh ∈ shsK L ts.length) :
  0 ≤ volL vs (partOf (flp ts (negsOf vs ts (shsK L ts.length)).flatten) sh):=by
 have hr:∀ v ∈ sh,0 ≤ v∧v.toNat < ts.length∧(v.toNat:Int) = v:=by
  intro v hv
  obtain⟨i,hi,hLi,rfl⟩:=shsK_mem.1 hs
  obtain⟨j,rfl,hj,hLj⟩:=mem_shK2.1 hv
  rw [hL.len] at hj
  omega
 by_cases hn:volL vs (partOf ts sh) < 0
 ·have:partOf (flp ts (negsOf vs ts (shsK L ts.length)).flatten) sh = (partOf ts sh).map T3.rev:=by
   unfold partOf
   rw [List.map_map]
   refine List.map_congr_left fun v hv=>?_
   obtain⟨h0,h1,h2⟩:=hr v hv
   rw [flp_at h1,h2,if_pos ((neg_mem hs hv).2 hn)];rfl
  rw [this,volL_rev]
  omega
 ·have:partOf (flp ts (negsOf vs ts (shsK L ts.length)).flatten) sh = partOf ts sh:=by
   unfold partOf
   refine List.map_congr_left fun v hv=>?_
   obtain⟨h0,h1,h2⟩:=hr v hv
   rw [flp_at h1,h2,if_neg (fun hh=>hn ((neg_mem hs hv).1 hh))]
  rw [this]
  omega
structure OutOk (x:Mesh):Prop where
 z:x.check = 0
 clo:x.closed = true
 coh:cohB x.tris = true
 vol:∀ sh ∈ x.shells,0 ≤ volL x.verts (partOf x.tris sh)
theorem outw_ok {m:Mesh} (hz:m.check = 0) (hc:m.closed = true) (hh:cohB m.tris = true):OutOk m.outw:=by
 obtain⟨L,hL⟩:=lab_ex m.tris
 have hR:m.shells = shsK L m.tris.length:=by unfold Mesh.shells;rw [if_pos hz,labOf_eq hL,hL.len]
 have hz2:m.outw.check = 0:=flp_check hz _
 have hR2:m.outw.shells = shsK L m.tris.length:=by
  unfold Mesh.shells
  rw [if_pos hz2]
  show shsK (labOf (flp m.tris _)) (labOf (flp m.tris _)).length = _
  rw [(flp_Fl m.tris _).labOf,labOf_eq hL,hL.len]
 have hneg:m.negs = negsOf m.verts m.tris (shsK L m.tris.length):=by unfold Mesh.negs;rw [hR]
 have hw:Whole m.tris m.negs.flatten:=by rw [hneg];exact negs_whole hL
 have hcoh:=flp_coh hw (cohB_iff.1 hh)
 refine⟨hz2,clo_closed hz2 hcoh (flp_clo hw (closed_clo hc).2),cohB_iff.2 hcoh,fun sh hs=>?_⟩
 rw [hR2] at hs
 have:=part_flp (vs:=m.verts) hL hs
 rw [← hneg] at this
 exact this
theorem outR_again {x:Mesh} (h:OutOk x):outR x = (x,0,0):=by
 have hn:x.negs = []:=by
  unfold Mesh.negs negsOf
  rw [List.filter_eq_nil_iff]
  intro sh hs
  have:=h.vol sh hs
  simp;omega
 unfold outR Mesh.outw
 rw [if_neg (by simpa using h.z),if_neg (by rw [h.clo];simp),if_neg (by rw [h.coh];simp),hn]
 simp [flp_nil]
theorem outR_cases (m:Mesh):((outR m).2.2 ≠ 0∧outR m = (⟨[],[]⟩,0,(outR m).2.2)) ∨ (outR m = (m.outw,(m.negs.length:Int),0)∧OutOk m.outw):=by
 unfold outR
 by_cases hz:m.check = 0
 case neg=>rw [if_pos hz];exact .inl ⟨hz,rfl⟩
 rw [if_neg (by simpa using hz)]
 by_cases hc:m.closed = false
 case pos=>rw [if_pos hc];exact .inl ⟨by simp,rfl⟩
 rw [if_neg hc]
 by_cases hh:cohB m.tris = false
 case pos=>rw [if_pos hh];exact .inl ⟨by simp,rfl⟩
 rw [if_neg hh]
 exact .inr ⟨rfl,outw_ok hz (by simpa using hc) (by simpa using hh)⟩
end Go.Abs
set_option linter.unusedVariables false
set_option linter.unusedSimpArgs false
namespace Go.Abs
theorem Fl.check {vs:List V3} {ts us:List T3} (h:Fl ts us) (hz:(Mesh.mk vs ts).check = 0):(Mesh.mk vs us).check = 0:=by
 obtain⟨z1,z2,z3,z4⟩:=Mesh.check_zero.1 hz
 refine Mesh.check_zero.2 ⟨z1,by rw [show (Mesh.mk vs us).tris.length = us.length from rfl,h.len];exact z2,z3,?_⟩
 simp only [tsOk,List.all_eq_true]
 intro t ht
 obtain⟨i,hi⟩:=List.getElem?_of_mem ht
 have hil:=(List.getElem?_eq_some_iff.1 hi).1
 have hil2:i < ts.length:=by rw [← h.len];exact hil
 have hok:=tAt_ok z4 hil2
 rw [tAt_get hil] at hi
 obtain rfl:=Option.some.inj hi
 rcases h.tat hil2 with h1 | h1
 ·rw [h1];exact hok
 ·rw [h1];exact T3.rev_ok hok
theorem Fl.trans {ts us vs:List T3} (h:Fl ts us) (k:Fl us vs):Fl ts vs where
 len:=by rw [k.len,h.len]
 at_ i t u h1 h2:=by
  have hi:=(List.getElem?_eq_some_iff.1 h1).1
  have hu:i < us.length:=by rw [h.len];exact hi
  have hv:i < vs.length:=by rw [k.len];exact hu
  rw [tAt_get hi] at h1
  rw [tAt_get hv] at h2
  obtain rfl:=Option.some.inj h1
  obtain rfl:=Option.some.inj h2
  rcases h.tat hi with h3 | h3 <;> rcases k.tat hu with h4 | h4
  ·exact .inl (by rw [h4,h3])
  ·exact .inr (by rw [h4,h3])
  ·exact .inr (by rw [h4,h3])
  ·exact .inl (by rw [h4,h3];rfl)
theorem good_self {ts:List T3} {L:List Int} (hc:Coh ts):Good ts ts L:=⟨Fl.refl ts,hc,fun _ _ _=>rfl⟩
theorem oriR_err {m:Mesh} (hz:m.check = 0) (h:orientL m.tris = none):oriR m = (⟨[],[]⟩,0,13):=by
 unfold oriR;simp only [if_neg (show ¬ m.check ≠ 0 by simpa using hz),h]
theorem oriR_ok {m:Mesh} (hz:m.check = 0) {us:List T3} (h:orientL m.tris = some us):oriR m = ((⟨m.verts,us⟩:Mesh),(difN m.tris us:Int),(0:Int)):=by
 unfold oriR;simp only [if_neg (show ¬ m.check ≠ 0 by simpa using hz),h]
end Go.Abs
