/- Part of the library on which the proof stands: an abstract machine, its values and its soundness against the model; or what functions of the program do to such values. -/
import Derived.Test.YtcdjgldeiaiaoaaGreatGoWe
import Derived.Test.YtcdjgldeiaiaoaaGreatGoToB
import Derived.Test.YtcdjgldeiaiaoaaGreatGoOriA
import Derived.Test.YtcdjgldeiaiaoaaGreatGoTr
set_option linter.unusedVariables false
set_option linter.unusedSimpArgs false
namespace Go.Abs
open Go.Sort
instance:Inhabited V3:=⟨⟨0,0,0⟩⟩
def V3.ints (v:V3):List Int:=[v.x,v.y,v.z]
def LessC (P:Program) (f:FuncId):Prop:=∀a b:V3,CallIs P f [a.enc,b.enc] (.b (decide (V3.lt a b)))
def cmpV (a b:V3):Int:=if V3.lt a b then -1 else if V3.lt b a then 1 else 0
def CmpVC (P:Program) (f:FuncId):Prop:=∀a b:V3,CallIs P f [a.enc,b.enc] (.i .i64 (cmpV a b))
def BeforeC (P:Program) (f:FuncId):Prop:=∀a b:T3,CallIs P f [a.enc,b.enc] (.b (decide (T3.lt a b)))
def TurnedC (P:Program) (f:FuncId):Prop:=∀t:T3,CallIs P f [t.enc] t.turned.enc
def SubVC (P:Program) (f:FuncId):Prop:=∀a b:V3,a.valid=true->b.valid=true->CallIs P f [a.enc,b.enc] (a.sub b).enc
def CrossWC (P:Program) (f:FuncId):Prop:=∀a b:V3,a.within 131072=true->b.within 131072=true->CallIs P f [a.enc,b.enc] (a.crs b).enc
def SmallWC (P:Program) (f:FuncId):Prop:=∀a:V3,CallIs P f [a.enc] (.b (a.within 131072))
def CollC (P:Program) (f:FuncId):Prop:=∀a b c:V3,CallIs P f [a.enc,b.enc,c.enc] (.b (Kq a b c))
theorem ltV (a b:V3):ltC cmpV a b=decide (V3.lt a b):=by
 unfold ltC cmpV
 by_cases h1:V3.lt a b
 ·simp[h1]
 ·by_cases h2:V3.lt b a<;>simp[h1,h2]
theorem swoV:SWO (ltC cmpV) where
 irrefl x:=by rw[ltV];simp[V3.ltO.irr]
 trans x y z h1 h2:=by
  rw[ltV,decide_eq_true_eq]at *
  exact V3.ltO.tr h1 h2
 ntrans x y z h1 h2:=by
  rw[ltV,decide_eq_false_iff_not]at *
  unfold V3.lt at *;omega
section
variable {P:Program} (hm:P.follows .mixedOrders=true)
include hm
theorem vec_Less_ok {f:FuncId} (hf:Q9 P f vec_Less.c vec_Less.r vec_Less.n):LessC P f:=by
 intro a b
 refine PureC.is (Q7 hm hf (Nat.le_of_ble_eq_true rfl) ?_) rfl
 unfold vec_Less.c
 by_cases h1:a.x=b.x
 ·by_cases h2:a.y=b.y
  ·simp[go_sem,V3.enc,vcs,h1,h2,vec_Less.r,V3.lt]
  ·simp[go_sem,V3.enc,vcs,h1,h2,vec_Less.r,V3.lt]
 ·simp[go_sem,V3.enc,vcs,h1,vec_Less.r,V3.lt]
theorem ref04_Less_ok {f:FuncId} (hf:Q9 P f ref04_Less.c ref04_Less.r ref04_Less.n):LessC P f:=vec_Less_ok hm hf
theorem weld_before_ok {f:FuncId} (hf:Q9 P f weld_before.c weld_before.r weld_before.n):BeforeC P f:=by
 intro a b
 refine PureC.is (Q7 hm hf (Nat.le_of_ble_eq_true rfl) ?_) rfl
 unfold weld_before.c
 by_cases h1:a.a=b.a
 ·by_cases h2:a.b=b.b
  ·simp[go_sem,T3.enc,tcs,h1,h2,weld_before.r,T3.lt]
  ·simp[go_sem,T3.enc,tcs,h1,h2,weld_before.r,T3.lt]
 ·simp[go_sem,T3.enc,tcs,h1,weld_before.r,T3.lt]
theorem weld_used_1_ok {f fl:FuncId} (hf:Q9 P f (weld_used_1.c fl) weld_used_1.r weld_used_1.n) (hl:LessC P fl):CmpVC P f:=by
 intro a b
 refine PureC.is (Q7 hm hf (Nat.le_of_ble_eq_true rfl) ?_) rfl
 unfold weld_used_1.c
 simp[go_sem,V3.enc,vcs]
 refine Q3 (hl a b) ?_
 by_cases h1:V3.lt a b
 ·simp[go_sem,h1,weld_used_1.r,cmpV]
 ·simp[go_sem,h1]
  refine Q3 (hl b a) ?_
  by_cases h2:V3.lt b a<;>simp[go_sem,h1,h2,weld_used_1.r,cmpV]
theorem weld_turned_ok {f fb:FuncId} (hf:Q9 P f (weld_turned.c fb) weld_turned.r weld_turned.n) (hb:BeforeC P fb):TurnedC P f:=by
 intro t
 refine PureC.is (Q7 hm hf (Nat.le_of_ble_eq_true rfl) ?_) rfl
 unfold weld_turned.c
 have w1:IntKind.i64.wrap 1=1:=rfl
 have w2:IntKind.i64.wrap 2=2:=rfl
 simp[go_sem,T3.enc,tcs]
 refine Qe (α:=Nat) (λk=>k<=2)
  (λk=>⟨[(1,.p 0 1 0 0),(2,.p 1 1 0 0),(3,.p 2 1 0 0),(5,.i .i64 k)],[.arr 1 3 [(if k=0 then t else if k=1 then t.rot else t.rot.rot).cs],.arr 1 3 [[.i .i64 0,.i .i64 0,.i .i64 0]],.arr 1 3 [(if k=0 then t else if k=1 then T3.least t t.rot else t.turned).cs]]⟩)
  (λk=>2-k) 0 (by omega) ?_ ?_
 ·simp[go_sem,tcs]
 ·intro k hk
  have:k=0∨k=1∨k=2:=by omega
  rcases this with rfl | rfl | rfl
  ·simp[go_sem,tcs,w1]
   refine Q3 (hb t.rot t) ?_
   by_cases h:T3.lt t.rot t
   ·have hl:T3.least t t.rot=t.rot:=by simp only[T3.least,h,if_true]
    simp[go_sem,h,w1]
    exact⟨1,by omega,by omega,rfl,by simp[T3.rot],by rw[hl];simp[T3.rot]⟩
   ·have hl:T3.least t t.rot=t:=by simp only[T3.least,h,if_false]
    simp[go_sem,h,w1]
    exact⟨1,by omega,by omega,rfl,by simp[T3.rot],by rw[hl];simp⟩
  ·simp[go_sem,tcs,w2]
   refine Q3 (hb t.rot.rot (T3.least t t.rot)) ?_
   by_cases h:T3.lt t.rot.rot (T3.least t t.rot)
   ·have hl:t.turned=t.rot.rot:=by unfold T3.turned;rw[T3.least,if_pos h]
    simp[go_sem,h,w2]
    exact⟨2,by omega,by omega,rfl,by simp[T3.rot],by rw[hl];simp[T3.rot]⟩
   ·have hl:t.turned=T3.least t t.rot:=by unfold T3.turned;rw[T3.least,if_neg h]
    simp[go_sem,h,w2]
    exact⟨2,by omega,by omega,rfl,by simp[T3.rot],by rw[hl];simp⟩
  ·simp[go_sem,tcs,weld_turned.r]
theorem vec_Sub_ok {f fv:FuncId} (hf:Q9 P f (vec_Sub.c fv) vec_Sub.r vec_Sub.n) (hv:W6 P fv):SubVC P f:=by
 intro a b h1 h2
 have g1:=V3.valid_iff.1 h1
 have g2:=V3.valid_iff.1 h2
 refine PureC.is (Q7 hm hf (Nat.le_of_ble_eq_true rfl) ?_) rfl
 unfold vec_Sub.c
 simp[go_sem,V3.enc,vcs]
 refine Q3 (hv a) ?_
 simp[go_sem,h1]
 refine Q3 (hv b) ?_
 simp (disch:=omega) [go_sem,h2,Q0,vec_Sub.r,V3.sub]
theorem ref04_Sub_ok {f fv:FuncId} (hf:Q9 P f (ref04_Sub.c fv) ref04_Sub.r ref04_Sub.n) (hv:W6 P fv):SubVC P f:=vec_Sub_ok hm hf hv
theorem I8 {f fw:FuncId} (hf:Q9 P f (vec_small.c fw) vec_small.r vec_small.n) (hw:Xs P fw):SmallWC P f:=by
 intro a
 refine PureC.is (Q7 hm hf (Nat.le_of_ble_eq_true rfl) ?_) rfl
 unfold vec_small.c
 simp[go_sem,V3.enc,vcs]
 refine Q3 ((hw a 131072 (by omega) (by omega)).is rfl) ?_
 simp[go_sem,vec_small.r]
theorem I9 {f fv:FuncId} (hf:Q9 P f (vec_Cross.c fv) vec_Cross.r vec_Cross.n) (hv:SmallWC P fv):CrossWC P f:=by
 intro a b h1 h2
 have g1:(-131072<=a.x/\a.x<=131072/\-131072<=a.y/\a.y<=131072/\-131072<=a.z/\a.z<=131072):=by simpa[V3.within,and_assoc]using h1
 have g2:(-131072<=b.x/\b.x<=131072/\-131072<=b.y/\b.y<=131072/\-131072<=b.z/\b.z<=131072):=by simpa[V3.within,and_assoc]using h2
 have m1:=mulb (x:=a.y) (y:=b.z) (A:=131072) (B:=131072) (by omega) (by omega) (by omega) (by omega)
 have m2:=mulb (x:=a.z) (y:=b.y) (A:=131072) (B:=131072) (by omega) (by omega) (by omega) (by omega)
 have m3:=mulb (x:=a.z) (y:=b.x) (A:=131072) (B:=131072) (by omega) (by omega) (by omega) (by omega)
 have m4:=mulb (x:=a.x) (y:=b.z) (A:=131072) (B:=131072) (by omega) (by omega) (by omega) (by omega)
 have m5:=mulb (x:=a.x) (y:=b.y) (A:=131072) (B:=131072) (by omega) (by omega) (by omega) (by omega)
 have m6:=mulb (x:=a.y) (y:=b.x) (A:=131072) (B:=131072) (by omega) (by omega) (by omega) (by omega)
 refine PureC.is (Q7 hm hf (Nat.le_of_ble_eq_true rfl) ?_) rfl
 unfold vec_Cross.c
 simp[go_sem,V3.enc,vcs]
 refine Q3 (hv a) ?_
 simp[go_sem,h1]
 refine Q3 (hv b) ?_
 simp (disch:=omega) [go_sem,h2,Q0,vec_Cross.r,V3.crs]
omit hm in
theorem Wy {a b:V3} (h1:a.valid=true) (h2:b.valid=true):(a.sub b).within 131072=true:=by
 have g1:=V3.valid_iff.1 h1
 have g2:=V3.valid_iff.1 h2
 simp only[V3.within,Bool.and_eq_true,decide_eq_true_eq]
 simp only[V3.sub]
 omega
omit hm in
theorem v3_zero (v:V3):decide (v=⟨0,0,0⟩)=(v.x == 0 && (v.y == 0 && v.z == 0)):=by
 cases v;rw[Bool.eq_iff_iff];simp[V3.mk.injEq]
theorem vec_Collinear_ok {f fv fs fc:FuncId} (hf:Q9 P f (vec_Collinear.c fv fs fc) vec_Collinear.r vec_Collinear.n) (hv:W6 P fv) (hs:SubVC P fs) (hc:CrossWC P fc):CollC P f:=by
 intro a b c
 refine PureC.is (Q7 hm hf (Nat.le_of_ble_eq_true rfl) ?_) rfl
 unfold vec_Collinear.c
 simp[go_sem,V3.enc,vcs]
 refine Qf (hv a) ?_
 cases h1:a.valid
 ·simp[go_sem,vec_Collinear.r,Kq,h1]
 simp[go_sem]
 refine Qf (hv b) ?_
 cases h2:b.valid
 ·simp[go_sem,vec_Collinear.r,Kq,h1,h2]
 simp[go_sem]
 refine Qf (hv c) ?_
 cases h3:c.valid
 ·simp[go_sem,vec_Collinear.r,Kq,h1,h2,h3]
 simp[go_sem]
 refine Qf (hs b a h2 h1) ?_
 simp[go_sem]
 refine Qf (hs c a h3 h1) ?_
 simp[go_sem]
 refine Qf (hc _ _ (Wy h2 h1) (Wy h3 h1)) ?_
 simp[go_sem,V3.enc,vcs,vec_Collinear.r,Kq,h1,h2,h3,v3_zero]
end
end Go.Abs
set_option linter.unusedVariables false
set_option linter.unusedSimpArgs false
namespace Go.Abs
open Go.Sort
def dd (l:List V3):List V3:=l.foldl (λacc v=>if v∈acc then acc else acc++[v]) []
theorem dd_snoc (l:List V3) (v:V3):dd (l++[v])=if v∈dd l then dd l else dd l++[v]:=by unfold dd;rw[List.foldl_append];rfl
theorem dd_ok (l:List V3):(dd l).Nodup/\(∀v,v∈dd l↔v∈l)/\(dd l).length<=l.length:=by
 refine Kz (p:=λl=>(dd l).Nodup/\(∀v,v∈dd l↔v∈l)/\(dd l).length<=l.length) ?_ ?_ l
 ·simp[dd]
 ·intro E x ih
  rw[dd_snoc]
  split
  ·rename_i h
   refine⟨ih.1,λv=>?_,by simp;omega⟩
   rw[ih.2.1,List.mem_append,List.mem_singleton]
   constructor
   ·exact .inl
   ·rintro (h1 | rfl)
    ·exact h1
    ·exact(ih.2.1 v).1 h
  ·rename_i h
   refine⟨?_,λv=>by rw[List.mem_append,ih.2.1,List.mem_append],by simp;omega⟩
   rw[List.nodup_append]
   exact⟨ih.1,by simp,λa ha b hb=>by simp at hb;subst hb;rintro rfl;exact h ha⟩
def UsedC (P:Program) (f:FuncId):Prop:=∀m:Mesh,m.check=0->CallIs P f [m.enc] (vsV m.wverts)
theorem usedL_succ {m:Mesh} {l:List T3} {k:Nat} {t:T3} (h:l[k]?=some t):m.usedL (l.take (k+1))=m.usedL (l.take k)++m.cor t:=by simp[Mesh.usedL,List.take_add_one,h]
theorem usedL_len (m:Mesh) (l:List T3):(m.usedL l).length=3*l.length:=by
 unfold Mesh.usedL
 induction l with
 | nil=>rfl
 | cons t l ih=>simp only[List.flatMap_cons,List.length_append,ih,List.length_cons];simp[Mesh.cor];omega
def Qb (m:Mesh):Mesh × Int × Int:=if m.check=0 then (m.weldM,(m.verts.length:Int)-m.wverts.length,0) else (Zc,0,m.check)
def Xx (r:Mesh × Int × Int):V:=.t [r.1.enc,.i .i64 r.2.1,.i .i64 r.2.2]
theorem weldV_no (n e:Int):Le (.t [.a [.nil,.nil],.i .i64 n,.i .i64 e]) (Xx (Zc,n,e)) :=
 .inr ⟨_,_,rfl,rfl,.inr ⟨_,_,rfl,rfl,Le0.nil 3,Le0.nil 3,trivial⟩,Le1.refl _,Le1.refl _,trivial⟩
def wlK (W:List V3) (k:Nat):List (V3 × Int):=(List.range k).map λ(i:Nat)=>((W[i]?).getD ⟨0,0,0⟩,(i:Int))
theorem wlK_succ (W:List V3) (k:Nat):wlK W (k+1)=wlK W k++[((W[k]?).getD ⟨0,0,0⟩,(k:Int))]:=by simp[wlK,List.range_succ]
theorem wlK_get {W:List V3} {k i:Nat} (h:i<k):(wlK W k)[i]?=some ((W[i]?).getD ⟨0,0,0⟩,(i:Int)):=by simp[wlK,h]
theorem wlK_keys {W:List V3} {k:Nat} (h:k<=W.length):(wlK W k).map Prod.fst=W.take k:=by
 apply List.ext_getElem?
 intro i
 rw[List.getElem?_map,List.getElem?_take]
 by_cases hi:i<k
 ·rw[wlK_get hi,if_pos hi,List.getElem?_eq_getElem (show i<W.length by omega)];rfl
 ·rw[if_neg hi,List.getElem?_eq_none (by simp[wlK];omega)];rfl
theorem wlK_cl (W:List V3) (k n:Nat):∀(a b:V) (x:V3) (y:Int),(x,y)∈wlK W k->asG V3.enc (V.i .i64) (x,y)=(a,b)->a.cl n=true/\b.cl n=true:=by
 rintro a b x y _ h
 simp only[asG,Prod.mk.injEq]at h
 obtain⟨rfl,rfl⟩:=h
 exact⟨Xl x n,rfl⟩
def WeldC (P:Program) (f:FuncId):Prop:=∀m:Mesh,CallIs P f [m.enc] (Xx (Qb m))
def jth (t:T3) (j:Nat):Int:=if j=0 then t.a else if j=1 then t.b else t.c
theorem cor_take_succ (m:Mesh) (t:T3) {j:Nat} (h:j<3):(m.cor t).take (j+1)=(m.cor t).take j++[m.v (jth t j)]:=by
 have:j=0∨j=1∨j=2:=by omega
 rcases this with rfl | rfl | rfl<;>rfl
theorem J8 {m:Mesh} {i:Int} (h0:0<=i) (hi:i<m.verts.length):m.verts[i.toNat]?=some (m.v i):=by
 have hlt:i.toNat<m.verts.length:=by omega
 rw[List.getElem?_eq_getElem hlt,m.v_get hi hlt]
section
variable {P:Program} (hm:P.follows .mixedOrders=true)
include hm
set_option maxHeartbeats 4000000 in
theorem weld_used_ok {f fs fo:FuncId} (hf:Q9 P f (weld_used.c fs fo) weld_used.r weld_used.n) (hs:SortC P fs 3) (ho:CmpVC P fo) (hcal:Zq P fo=true):UsedC P f:=by
 intro m hz
 obtain⟨z1,z2,z3,z4⟩:=Mesh.check_zero.1 hz
 refine PureC.is (Q7 hm hf (Nat.le_of_ble_eq_true rfl) ?_) rfl
 unfold weld_used.c
 simp[go_sem,Mesh.enc,Mesh.cs,tsV]
 refine Qq [.t 4 3] (α:=Nat) (λk=>k<=m.tris.length)
  (λk=>⟨[(1,.p 0 1 0 0),(3,.mp 1),(4,.own 2 ((dd (m.usedL (m.tris.take k))).length+1) 0 (dd (m.usedL (m.tris.take k))).length),(12,tsV m.tris),(13,.i .i64 m.tris.length),(14,.i .i64 k)],
   [.arr 1 2 [m.cs],.mp ((dd (m.usedL (m.tris.take k))).map (kt V3.enc)),.arr ((dd (m.usedL (m.tris.take k))).length+1) 3 ((dd (m.usedL (m.tris.take k))).map V3.cs)]⟩)
  (λk=>m.tris.length-k) 0 (Nat.zero_le _) ?_ ?_
 ·simp[go_sem,Mesh.cs,vsV,tsV,Mesh.usedL,dd]
 ·intro k hk
  by_cases hkl:k=m.tris.length
  ·subst hkl
   rw[List.take_length]
   obtain⟨u1,u2,u3⟩:=dd_ok (m.usedL m.tris)
   rw[usedL_len]at u3
   obtain⟨ys,hperm,hup,hcall⟩:=hs V3.ints (λ_=>rfl) cmpV swoV fo hcal (λa b=>ho a b) (dd (m.usedL m.tris)) (by omega)
   have hys:ys=m.wverts:=by
    rw[ascG_of_perm V3.ltO hperm u1 (hup.imp (by intro a b h;rw[ltV]at h;simpa using h))]
    refine Xr V3.ltO (Ee V3.ltO _) (Ee V3.ltO _) λv=>?_
    rw[Uu,u2]
    exact(Uu (lt:=V3.lt)).symm
   have hl2:m.wverts.length=(dd (m.usedL m.tris)).length:=by rw[<- hys];exact hperm.length_eq
   have hy2:ys.map (λx=>x.ints.map (V.i .i64))=m.wverts.map V3.cs:=by rw[hys];rfl
   generalize dd (m.usedL m.tris)=U at *
   simp[go_sem,Mesh.cs,tsV]
   refine Jp (hcall _ 2 _ rfl) ?_
   rw[hy2]
   have ht:List.take U.length (m.wverts.map V3.cs)=m.wverts.map V3.cs:=List.take_of_length_le (by simp[hl2])
   simp[go_sem,weld_used.r,vsV,Y7,hl2,ht]
  ·have hlt:k<m.tris.length:=by omega
   have hp:m.tris[k]?=some m.tris[k]:=List.getElem?_eq_getElem hlt
   have htm:m.tris[k]∈m.tris:=List.getElem_mem _
   generalize m.tris[k]=t at hp htm
   obtain⟨_,hp'⟩:=List.getElem?_eq_some_iff.1 hp
   have htk:=tok hz htm
   have hsucc:=usedL_succ (m:=m) hp
   simp[go_sem,Mesh.cs,tsV,hlt,hp,hp',tcs]
   have hul:=usedL_len m (m.tris.take k)
   have hkl2:(m.tris.take k).length<=k:=by simp;omega
   generalize hA:m.usedL (m.tris.take k)=A at *
   refine Qe (α:=Nat) (λj=>j<=3)
    (λj=>⟨[(1,.p 0 1 0 0),(3,.mp 1),(4,.own 2 ((dd (A++(m.cor t).take j)).length+1) 0 (dd (A++(m.cor t).take j)).length),(12,tsV m.tris),(13,.i .i64 m.tris.length),(14,.i .i64 k),(24,t.enc),(25,.i .i64 j)],
     [.arr 1 2 [m.cs],.mp ((dd (A++(m.cor t).take j)).map (kt V3.enc)),.arr ((dd (A++(m.cor t).take j)).length+1) 3 ((dd (A++(m.cor t).take j)).map V3.cs)]⟩)
    (λj=>3-j) 0 (by omega) ?_ ?_
   ·simp[go_sem,Mesh.cs,vsV,tsV,T3.enc,tcs]
    exact λa _=>⟨Xl a 3,rfl⟩
   ·intro j hj
    by_cases hj3:j=3
    ·subst hj3
     have h3:(m.cor t).take 3=m.cor t:=rfl
     rw[h3,<- hsucc]
     simp (disch:=omega) [go_sem,Mesh.cs,tsV,vsV,Q0]
     exact⟨k+1,by omega,by omega,⟨rfl,rfl⟩,⟨rfl,λa _=>⟨Xl a 3,rfl⟩⟩,rfl,rfl⟩
    ·have hj3':j<3:=by omega
     have hdd:=dd_snoc (A++(m.cor t).take j) (m.v (jth t j))
     rw[List.append_assoc,<- cor_take_succ m t hj3']at hdd
     obtain⟨u1,u2,u3⟩:=dd_ok (A++(m.cor t).take j)
     have hdl:(A++(m.cor t).take j).length<=3*k+3:=by simp[Mesh.cor];omega
     generalize dd (A++(m.cor t).take j)=U at *
     have hg:=J8 (m:=m) (i:=jth t j) (by unfold jth;split<;>(try split)<;>omega) (by unfold jth;split<;>(try split)<;>omega)
     have hr:0<=jth t j/\jth t j<m.verts.length:=by unfold jth;split<;>(try split)<;>omega
     generalize hi:jth t j=i at *
     obtain⟨hi0,hi1⟩:=hr
     generalize hv:m.v i=v at *
     have hfe:Qm [1,1,1] (V.a [.i .i64 v.x,.i .i64 v.y,.i .i64 v.z]) (U.map (kt V3.enc))=_:=Eq key_V3 v U
     obtain⟨hgl,hg'⟩:=List.getElem?_eq_some_iff.1 hg
     have:j=0∨j=1∨j=2:=by omega
     by_cases hmem:v∈U
     ·rw[if_pos hmem]at hfe hdd
      rcases this with rfl | rfl | rfl
      ·have hi':t.a=i:=hi
       simp (disch:=omega) [go_sem,Mesh.cs,vsV,tsV,T3.enc,tcs,hfe,hi',hg,hg',hgl,hi0,vcs,Q0]
       have hdd:dd (A++List.take 1 (m.cor t))=U:=hdd
       exact⟨1,by omega,by omega,⟨by rw[hdd],rfl⟩,⟨by rw[hdd],λa _=>⟨Xl a 3,rfl⟩⟩,by rw[hdd],by rw[hdd]⟩
      ·have hi':t.b=i:=hi
       simp (disch:=omega) [go_sem,Mesh.cs,vsV,tsV,T3.enc,tcs,hfe,hi',hg,hg',hgl,hi0,vcs,Q0]
       have hdd:dd (A++List.take 2 (m.cor t))=U:=hdd
       exact⟨2,by omega,by omega,⟨by rw[hdd],rfl⟩,⟨by rw[hdd],λa _=>⟨Xl a 3,rfl⟩⟩,by rw[hdd],by rw[hdd]⟩
      ·have hi':t.c=i:=hi
       simp (disch:=omega) [go_sem,Mesh.cs,vsV,tsV,T3.enc,tcs,hfe,hi',hg,hg',hgl,hi0,vcs,Q0]
       have hdd:dd (A++List.take 3 (m.cor t))=U:=hdd
       exact⟨3,by omega,by omega,⟨by rw[hdd],rfl⟩,⟨by rw[hdd],λa _=>⟨Xl a 3,rfl⟩⟩,by rw[hdd],by rw[hdd]⟩
     ·rw[if_neg hmem]at hfe hdd
      rcases this with rfl | rfl | rfl
      ·have hi':t.a=i:=hi
       simp (disch:=omega) [go_sem,Mesh.cs,vsV,tsV,T3.enc,tcs,hfe,hi',hg,hg',hgl,hi0,vcs,Q0]
       have hdd:dd (A++List.take 1 (m.cor t))=U++[v]:=hdd
       exact⟨⟨by omega,by omega⟩,1,by omega,by omega,⟨by rw[hdd];simp,rfl⟩,⟨by rw[hdd,List.map_append];rfl,λa _=>⟨Xl a 3,rfl⟩⟩,by rw[hdd];simp,by rw[hdd,List.map_append];rfl⟩
      ·have hi':t.b=i:=hi
       simp (disch:=omega) [go_sem,Mesh.cs,vsV,tsV,T3.enc,tcs,hfe,hi',hg,hg',hgl,hi0,vcs,Q0]
       have hdd:dd (A++List.take 2 (m.cor t))=U++[v]:=hdd
       exact⟨⟨by omega,by omega⟩,2,by omega,by omega,⟨by rw[hdd];simp,rfl⟩,⟨by rw[hdd,List.map_append];rfl,λa _=>⟨Xl a 3,rfl⟩⟩,by rw[hdd];simp,by rw[hdd,List.map_append];rfl⟩
      ·have hi':t.c=i:=hi
       simp (disch:=omega) [go_sem,Mesh.cs,vsV,tsV,T3.enc,tcs,hfe,hi',hg,hg',hgl,hi0,vcs,Q0]
       have hdd:dd (A++List.take 3 (m.cor t))=U++[v]:=hdd
       exact⟨⟨by omega,by omega⟩,3,by omega,by omega,⟨by rw[hdd];simp,rfl⟩,⟨by rw[hdd,List.map_append];rfl,λa _=>⟨Xl a 3,rfl⟩⟩,by rw[hdd];simp,by rw[hdd,List.map_append];rfl⟩
omit hm in
theorem wl_get {m:Mesh} {v:V3} (h:v∈m.wverts):Zh v (wlK m.wverts m.wverts.length)=some ((Jt m.wverts v).toNat,Jt m.wverts v):=by
 have hr:=idxV_range h
 have hg:=idxV_get h
 have hn:((wlK m.wverts m.wverts.length).map Prod.fst).Nodup:=by
  rw[wlK_keys (Nat.le_refl _),List.take_length]
  exact Kt V3.ltO (Yi m)
 refine E4 hn ?_
 rw[wlK_get (by omega),hg,Int.toNat_of_nonneg hr.1];rfl
set_option maxRecDepth 20000 in
set_option maxHeartbeats 4000000 in
theorem weld_Weld_ok {f fc fu:FuncId} (hf:Q9 P f (weld_Weld.c fc fu) weld_Weld.r weld_Weld.n) (hc:Z8 P fc) (hu:UsedC P fu):WeldC P f:=by
 intro m
 by_cases hz:m.check=0
 case neg =>
  have he:Qb m=(Zc,0,m.check):=by simp[Qb,hz]
  rw[he]
  refine CallIs.res (r:=.t [.a [.nil,.nil],.i .i64 0,.i .i64 m.check]) ?_ (weldV_no 0 m.check)
  refine PureC.is (Q7 hm hf (Nat.le_of_ble_eq_true rfl) ?_) rfl
  unfold weld_Weld.c
  simp[go_sem,Mesh.enc,Mesh.cs,vsV,tsV]
  refine Q3 (hc m) ?_
  simp[go_sem,hz,weld_Weld.r]
 have he:Qb m=(m.weldM,(m.verts.length:Int)-m.wverts.length,0):=by simp[Qb,hz]
 rw[he]
 obtain⟨z1,z2,z3,z4⟩:=Mesh.check_zero.1 hz
 have hwl:=Ih hz
 refine PureC.is (Q7 hm hf (Nat.le_of_ble_eq_true rfl) ?_) rfl
 unfold weld_Weld.c
 simp[go_sem,Mesh.enc,Mesh.cs,vsV,tsV]
 refine Q3 (hc m) ?_
 simp[go_sem,hz]
 refine Q3 (hu m hz) ?_
 simp[go_sem,vsV]
 refine Qe (α:=Nat) (λk=>k<=m.wverts.length)
  (λk=>⟨[(1,.p 0 1 0 0),(2,.p 1 1 0 0),(6,.p 2 1 0 0),(7,.mp 3),(26,vsV m.wverts),(27,.i .i64 m.wverts.length),(28,.i .i64 k)],
   [.arr 1 2 [m.cs],.arr 1 2 [[.nil,.nil]],.arr 1 2 [[vsV m.wverts,.nil]],.mp ((wlK m.wverts k).map (asG V3.enc (V.i .i64)))]⟩)
  (λk=>m.wverts.length-k) 0 (Nat.zero_le _) ?_ ?_
 ·simp[go_sem,Mesh.cs,vsV,tsV]
  exact⟨rfl,wlK_cl _ _ _⟩
 ·intro k hk
  by_cases hkl:k=m.wverts.length
  ·subst hkl
   simp[go_sem,Mesh.cs,vsV,tsV]
   refine Qq [.c 2 0 1 3] (α:=Nat) (λk=>k<=m.tris.length)
    (λk=>⟨[(1,.p 0 1 0 0),(2,.p 1 1 0 0),(6,.p 2 1 0 0),(7,.mp 3),(38,tsV m.tris),(39,.i .i64 m.tris.length),(40,.i .i64 k)],
     [.arr 1 2 [m.cs],.arr 1 2 [[.nil,.nil]],.arr 1 2 [[vsV m.wverts,.own 4 (k+1) 0 k]],.mp ((wlK m.wverts m.wverts.length).map (asG V3.enc (V.i .i64))),.arr (k+1) 3 (((m.tris.take k).map (Wt m m.wverts)).map T3.cs)]⟩)
    (λk=>m.tris.length-k) 0 (Nat.zero_le _) ?_ ?_
   ·simp[go_sem,Mesh.cs,vsV,tsV]
    exact wlK_cl _ _ _
   ·intro k hk
    by_cases hkl:k=m.tris.length
    ·subst hkl
     simp (disch:=omega) [go_sem,Mesh.cs,vsV,tsV,Q0,weld_Weld.r]
     simp[Xx,Mesh.weldM,Mesh.enc,Mesh.cs,vsV,tsV]
    ·have hlt:k<m.tris.length:=by omega
     have hp:m.tris[k]?=some m.tris[k]:=List.getElem?_eq_getElem hlt
     have htm:m.tris[k]∈m.tris:=List.getElem_mem _
     generalize m.tris[k]=t at hp htm
     obtain⟨_,hp'⟩:=List.getElem?_eq_some_iff.1 hp
     obtain⟨i0,i1,j0,j1,l0,l1⟩:=tok hz htm
     obtain⟨c1,c2,c3⟩:=cor_mem htm
     have g1:=J8 i0 i1
     have g2:=J8 j0 j1
     have g3:=J8 l0 l1
     obtain⟨q1,r1⟩:=List.getElem?_eq_some_iff.1 g1
     obtain⟨q2,r2⟩:=List.getElem?_eq_some_iff.1 g2
     obtain⟨q3,r3⟩:=List.getElem?_eq_some_iff.1 g3
     have f1:Qm [1,1,1] (V.a [.i .i64 (m.v t.a).x,.i .i64 (m.v t.a).y,.i .i64 (m.v t.a).z]) ((wlK m.wverts m.wverts.length).map (asG V3.enc (V.i .i64)))=_:=Xn key_V3 (V.i .i64) (m.v t.a) _
     have f2:Qm [1,1,1] (V.a [.i .i64 (m.v t.b).x,.i .i64 (m.v t.b).y,.i .i64 (m.v t.b).z]) ((wlK m.wverts m.wverts.length).map (asG V3.enc (V.i .i64)))=_:=Xn key_V3 (V.i .i64) (m.v t.b) _
     have f3:Qm [1,1,1] (V.a [.i .i64 (m.v t.c).x,.i .i64 (m.v t.c).y,.i .i64 (m.v t.c).z]) ((wlK m.wverts m.wverts.length).map (asG V3.enc (V.i .i64)))=_:=Xn key_V3 (V.i .i64) (m.v t.c) _
     rw[wl_get c1]at f1
     rw[wl_get c2]at f2
     rw[wl_get c3]at f3
     simp only[Option.map_some]at f1 f2 f3
     have hMc:=wlK_cl m.wverts m.wverts.length 5
     have hwt:Wt m m.wverts t=⟨Jt m.wverts (m.v t.a),Jt m.wverts (m.v t.b),Jt m.wverts (m.v t.c)⟩:=rfl
     generalize m.v t.a=va at *
     generalize m.v t.b=vb at *
     generalize m.v t.c=vc at *
     have hsu:((m.tris.take (k+1)).map (Wt m m.wverts)).map T3.cs=((m.tris.take k).map (Wt m m.wverts)).map T3.cs++[(Wt m m.wverts t).cs]:=by rw[List.take_add_one,hp];simp
     have htk:List.take k (((m.tris.take k).map (Wt m m.wverts)).map T3.cs)=((m.tris.take k).map (Wt m m.wverts)).map T3.cs:=List.take_of_length_le (by simp;omega)
     have hkk:k<=(m.tris.take k).length:=by simp;omega
     simp (disch:=omega) [go_sem,Mesh.cs,vsV,tsV,hlt,hp,hp',tcs,vcs,i0,j0,l0,q1,q2,q3,g1,g2,g3,r1,r2,r3,f1,f2,f3,Q0]
     refine⟨⟨by omega,by omega⟩,k+1,by omega,by omega,rfl,rfl,hMc,⟨rfl,?_⟩,?_⟩
     ·rw[List.take_take,Nat.min_self,List.take_add_one,List.getElem?_map,hp]
      simp[hwt,tcs]
     ·intro el hel x hx
      obtain⟨s,_,rfl⟩:=List.mem_map.1 (List.mem_of_mem_take hel)
      exact of_eq_true (Qp _ 5) x hx
  ·have hlt:k<m.wverts.length:=by omega
   have hp:m.wverts[k]?=some m.wverts[k]:=List.getElem?_eq_getElem hlt
   generalize m.wverts[k]=v at hp
   obtain⟨_,hp'⟩:=List.getElem?_eq_some_iff.1 hp
   have hfe:Qm [1,1,1] (V.a [.i .i64 v.x,.i .i64 v.y,.i .i64 v.z]) _=_:=Xn key_V3 (V.i .i64) v (wlK m.wverts k)
   have hno:Zh v (wlK m.wverts k)=none:=by
    rw[fndG_none,wlK_keys (by omega)]
    intro hm'
    obtain⟨i,hi⟩:=List.getElem?_of_mem hm'
    rw[List.getElem?_take]at hi
    split at hi
    ·rename_i hik
     have hnd:=Kt V3.ltO (Yi m)
     have h1:=Uz hnd hi
     have h2:=Uz hnd hp
     omega
    ·simp at hi
   rw[hno,Option.map_none]at hfe
   simp (disch:=omega) [go_sem,Mesh.cs,vsV,tsV,hlt,hp,hp',vcs,hfe,Q0]
   have hsu:=wlK_succ m.wverts k
   rw[hp]at hsu
   exact⟨k+1,by omega,by omega,rfl,by rw[hsu,List.map_append];rfl,wlK_cl _ _ _⟩
end
end Go.Abs
