/- Part of the abstract machine on which the proof stands: its values, code and their soundness against the model. -/
import Derived.Test.YtoppidobgkgiiaaAbsL
import Derived.Test.YtoppidobgkgiiaaAbsV
import Derived.Deep.LoopGhost
set_option linter.unusedVariables false
set_option linter.unusedSimpArgs false
namespace Go.Abs
open Go.RowKit

structure Ins where
  d : Option Nat
  g : Option (Nat × Bool)
  i : I

inductive C where
  | skip
  | reg (l : List Ins)
  | drw (l : List Ins) (ps : List (List Nat))
  | seq (a b : C)
  | ite (c : A) (a b : C)
  | blk (id : Nat) (c : C)
  | loop (c : C)
  | exit (id : Nat)
  | ret

/-- How a piece of code ends. -/
inductive X where
  | n
  | e (id : Nat)
  | r

def putD (d : Option Nat) (v : V) (env : List (Nat × V)) : List (Nat × V) :=
  match d with
  | some t => put t v env
  | none => env

/-- A call, by what it does to values and to the objects at hand. -/
def ACall (P : Program) (f : FuncId) (vs : List V) (h : List O) (R : V → List O → Prop) : Prop :=
  ∀ (J : Nat → Prop) (m : List Ent) (w : World) (cargs : List Value), RS J h m w → Pw (RV J m w) vs cargs →
    Calls P f cargs.toArray w fun e w' => ∃ v r h' J' m', e = .returned v ∧ R r h' ∧ RV J' m' w' r v ∧ RS J' h' m' w' ∧ (∀ n, Ev n J m w J' m' w') ∧ Ml m m'

theorem ACall.mono {P : Program} {f : FuncId} {vs : List V} {h : List O} {R R' : V → List O → Prop} (ha : ACall P f vs h R) (hr : ∀ r h', R r h' → R' r h') : ACall P f vs h R' :=
  fun J m w cargs h1 h2 => (ha J m w cargs h1 h2).mono fun e w' ⟨v, r, h', J', m', a, b, c⟩ => ⟨v, r, h', J', m', a, hr _ _ b, c⟩

/-- A call that hands back this value, whatever objects are at hand. -/
def CallIs (P : Program) (f : FuncId) (vs : List V) (r : V) : Prop := ∀ h, ACall P f vs h (fun r' h' => r' = r ∧ h' = h)

def callable (P : Program) (f : FuncId) : Bool := match P.funcs[f]? with
  | some fn => fn.body.isSome && !(fn.name == "runtime.NumGoroutine")
  | none => false

/-- The slices of which nothing says whether they are nil. -/
def V.empt : V → Bool
  | .nil => true
  | .l _ [] => true
  | _ => false

/-- One instruction. -/
def A1 (P : Program) (x : Ins) (σ : St) (κ : St → Prop) : Prop :=
  match x.i with
  | .call f args => ACall P f (args.map (A.ev σ.env)) σ.h (fun r h' => κ ⟨putD x.d r σ.env, h'⟩)
  | .callv c args => match A.ev σ.env c with
    | .f f caps => callable P f = true ∧ ACall P f (args.map (A.ev σ.env) ++ caps) σ.h (fun r h' => κ ⟨putD x.d r σ.env, h'⟩)
    | _ => False
  | .isn neg y => match (A.ev σ.env y).empt with
    | true => κ ⟨putD x.d (.b true) σ.env, σ.h⟩ ∧ κ ⟨putD x.d (.b false) σ.env, σ.h⟩
    | false => match stepI (.isn neg y) (A.ev σ.env) σ.h with
      | some (r, h') => κ ⟨putD x.d r σ.env, h'⟩
      | none => False
  | .mnx y => Mnx (A.ev σ.env y) σ.h fun r h' => κ ⟨putD x.d r σ.env, h'⟩
  | i => match stepI i (A.ev σ.env) σ.h with
    | some (r, h') => κ ⟨putD x.d r σ.env, h'⟩
    | none => False

/-- It runs p where the value is the wanted one, else q: also where nothing came of the operation that should say so. -/
def Guard (v : V) (want : Bool) (p q : Prop) : Prop :=
  match v with
  | .b t => (t = want → p) ∧ (t = !want → q)
  | .t [] => q
  | _ => False

/-- A guard's value that keeps an operation from running. -/
def Skp (v : V) (want : Bool) : Prop := v = .b (!want) ∨ v = .t []

def AO (P : Program) : List Ins → St → (St → Prop) → Prop
  | [], σ, κ => κ σ
  | x :: l, σ, κ => match x.g with
    | none => A1 P x σ (fun σ' => AO P l σ' κ)
    | some (t, want) => Guard (get t σ.env) want (A1 P x σ (fun σ' => AO P l σ' κ)) (AO P l ⟨putD x.d (.t []) σ.env, σ.h⟩ κ)

/-- The objects that a value names. -/
def V.ids0 : V → List Nat
  | .own id _ _ _ => [id]
  | .p id _ _ _ => [id]
  | .mp id => [id]
  | _ => []

def V.ids1 : V → List Nat
  | .f _ caps => caps.flatMap V.ids0
  | v => v.ids0

def V.ids2 : V → List Nat
  | .a cs => cs.flatMap V.ids1
  | v => v.ids1

/-- The objects that an instruction looks at, and those that it turns. -/
def I.foot (i : I) (ev : A → V) : List Nat × List Nat :=
  match i with
  | .ld _ x | .fa _ x | .b2s x | .len _ x | .nck x | .isn _ x | .mrng x => ((ev x).ids0, [])
  | .ia _ x _ | .iaa _ _ x _ | .slc _ x _ _ | .slc3 _ x _ _ _ => ((ev x).ids0, [])
  | .lk _ _ _ m _ => ((ev m).ids0, [])
  | .st _ x _ => ((ev x).ids0, (ev x).ids0)
  | .copy _ x y => ((ev x).ids0 ++ (ev y).ids0, (ev x).ids0)
  | .app _ _ s x => ((ev s).ids0 ++ (ev x).ids0, (ev s).ids0)
  | .apz _ _ _ s _ => ((ev s).ids0, (ev s).ids0)
  | .sla _ _ x => ((ev x).ids0, (ev x).ids0)
  | .mup _ m _ _ | .ment _ _ m _ => ((ev m).ids0, (ev m).ids0)
  | .est m _ _ => ((ev m).ids0, (ev m).ids0)
  | _ => ([], [])

def Dis (a b : List Nat) : Bool := a.all fun i => !b.contains i

def okPair (f g : List Nat × List Nat) : Bool := Dis f.2 g.1 && Dis g.2 f.1

/-- The footprint does not meet those of the earlier ones that no edge orders. -/
def chk (js : List Nat) (lg : List (List Nat × List Nat)) (f : List Nat × List Nat) : Bool :=
  js.all fun j => match lg[j]? with
    | some g => okPair g f
    | none => true

/-- It makes objects. -/
def I.news : I → Bool
  | .alloc _ | .box _ | .s2b _ | .bso _ _ _ _ | .mks _ _ _ _ | .mkm _ | .app _ _ _ _ | .mrng _ => true
  | _ => false

def V.cl0 (n : Nat) : V → Bool
  | .own id _ _ _ => id < n
  | .p id _ _ _ => id < n
  | .mp id => id < n
  | _ => true

def V.cl1 (n : Nat) : V → Bool
  | .f _ caps => caps.all (V.cl0 n)
  | v => v.cl0 n

/-- All objects that a value names have a number below n. -/
def V.cl (n : Nat) : V → Bool
  | .a cs => cs.all (V.cl1 n)
  | .t _ => false
  | v => v.cl1 n

def O.cl (n : Nat) : O → Prop
  | .arr _ _ els => ∀ el ∈ els, ∀ x ∈ el, x.cl n = true
  | .mp es => ∀ e ∈ es, e.1.cl n = true ∧ e.2.cl n = true
  | .it mid _ _ => ∀ i, mid = some i → i < n
  | .dead => True

/-- A new object names old ones alone. -/
def NewOk (i : I) (h h' : List O) : Prop :=
  match i.news with
  | true => ∀ o ∈ h'.drop h.length, o.cl h.length
  | false => True

/-- These objects, as they are there. -/
def updW (h2 : List O) (W : List Nat) (h' : List O) : List O := (List.range h2.length).map fun id => if W.contains id then (h'[id]?).getD .dead else (h2[id]?).getD .dead

/-- A call that looks at objects T alone, turns W alone, wherever the other objects stand. -/
def LCall (P : Program) (n0 : Nat) (al : List Nat) (f : FuncId) (vs : List V) (h : List O) (r : V) (h' : List O) (T W : List Nat) : Prop :=
  h.length ≤ h'.length ∧ (∀ id ∈ T, id < h.length ∧ (id < n0 ∨ id ∈ al)) ∧ (∀ id ∈ W, id ∈ T) ∧ (∀ id, id < h.length → id ∉ W → h'[id]? = h[id]?) ∧
  ∀ h2, h.length ≤ h2.length → (∀ id ∈ T, h2[id]? = h[id]?) → ∃ r2 hk, ACall P f vs h2 (fun r' h2' => r' = r2 ∧ h2' = updW h2 W h' ++ hk) ∧
    ((hk = [] ∧ r2 = r ∧ h'.length = h.length) ∨ (W = [] ∧ r2.mv h2.length h.length = r ∧ hk.map (O.mv h2.length h.length) = h'.drop h.length))

def DCall (P : Program) (n0 : Nat) (js : List Nat) (lg : List (List Nat × List Nat)) (al : List Nat) (f : FuncId) (vs : List V) (h : List O) (k : List Nat × List Nat → V → List O → Prop) : Prop :=
  ∃ T W r h', chk js lg (T, W) = true ∧ LCall P n0 al f vs h r h' T W ∧ k (T, W) r h'

/-- What is stepped, or nothing, in a region that draws its order. -/
def GdP (g : Option (Nat × Bool)) (σ : St) (F : (V → List O → Prop) → Prop) (h : List O) (k : V → List O → Prop) : Prop :=
  match g with
  | none => F k
  | some (t, want) => Guard (get t σ.env) want (F k) (k (.t []) h)

def GdC (g : Option (Nat × Bool)) (σ : St) (F : (List Nat × List Nat → V → List O → Prop) → Prop) (h : List O) (k : List Nat × List Nat → V → List O → Prop) : Prop :=
  match g with
  | none => F k
  | some (t, want) => Guard (get t σ.env) want (F k) (k ([], []) (.t []) h)

def Opt (o : Option (V × List O)) (k : V → List O → Prop) : Prop :=
  match o with | some (r, h) => k r h | none => False

/-- A call of a function value. -/
def DCallv (P : Program) (n0 : Nat) (js : List Nat) (lg : List (List Nat × List Nat)) (c : V) (vs : List V) (h : List O) (k : List Nat × List Nat → V → List O → Prop) : Prop :=
  match c with
  | .f f caps => callable P f = true ∧ DCall P n0 js lg (c.ids2 ++ vs.flatMap V.ids2) f (vs ++ caps) h k
  | _ => False

/-- A region that draws its order. -/
def AD (P : Program) (n0 : Nat) : List Ins → List (List Nat) → List (List Nat × List Nat) → St → (St → Prop) → Prop
  | [], _, _, σ, κ => κ σ
  | x :: l, ps, lg, σ, κ => match x.i with
    | .call f args => GdC x.g σ (DCall P n0 (ps.headD []) lg ((args.map (A.ev σ.env)).flatMap V.ids2) f (args.map (A.ev σ.env)) σ.h) σ.h
        (fun fp r h' => AD P n0 l ps.tail (lg ++ [fp]) ⟨putD x.d r σ.env, h'⟩ κ)
    | .callv c args => GdC x.g σ (DCallv P n0 (ps.headD []) lg (A.ev σ.env c) (args.map (A.ev σ.env)) σ.h) σ.h
        (fun fp r h' => AD P n0 l ps.tail (lg ++ [fp]) ⟨putD x.d r σ.env, h'⟩ κ)
    | .mnx _ => False
    | .men _ => False
    | i => chk (ps.headD []) lg (i.foot (A.ev σ.env)) = true ∧ GdP x.g σ (Opt (stepI i (A.ev σ.env) σ.h)) σ.h
        (fun r h' => NewOk i σ.h h' ∧ AD P n0 l ps.tail (lg ++ [i.foot (A.ev σ.env)]) ⟨putD x.d r σ.env, h'⟩ κ)

def WeakH (k : Nat) : List O → List O → Prop
  | _, [] => True
  | [], _ :: _ => False
  | o :: os, p :: ps => (p = .dead ∨ (o = p ∧ p.cl k)) ∧ WeakH k os ps

/-- Less is known in the second state. -/
def Weak (n : Nat) (σ τ : St) : Prop :=
  n ≤ τ.h.length ∧ τ.h.length ≤ σ.h.length ∧ (∀ p ∈ τ.env, p.2 = .any ∨ (get p.1 σ.env = p.2 ∧ p.2.cl τ.h.length = true)) ∧ WeakH τ.h.length σ.h τ.h

/-- A slice that is nil is seen as an object of the call's own that has no cells yet: in a temporary, or in a cell of an object. -/
inductive Gho where
  | t (t sz : Nat)
  | c (id i j sz : Nat)

def ghost1 : Gho → St → Option St
  | .t t sz, σ => match get t σ.env with
    | .nil => some ⟨put t (.own σ.h.length 1 0 0) σ.env, σ.h ++ [.arr 1 sz []]⟩
    | _ => none
  | .c id i j sz, σ => match σ.h[id]? with
    | some (.arr g s els) => match els[i]? with
      | some el => match el[j]? with
        | some .nil => some ⟨σ.env, σ.h.set id (.arr g s (els.set i (el.set j (.own σ.h.length 1 0 0)))) ++ [.arr 1 sz []]⟩
        | _ => none
      | none => none
    | _ => none

def ghosts : List Gho → St → Option St
  | [], σ => some σ
  | g :: gs, σ => (ghost1 g σ).bind (ghosts gs)

def Branch (v : V) (p q : Prop) : Prop :=
  match v with
  | .b t => (t = true → p) ∧ (t = false → q)
  | _ => False

def AS (P : Program) (n : Nat) : C → St → (X → St → Prop) → Prop
  | .skip, σ, κ => κ .n σ
  | .reg l, σ, κ => AO P l σ (κ .n)
  | .drw l ps, σ, κ => AD P σ.h.length l ps [] σ (κ .n)
  | .seq a b, σ, κ => AS P n a σ (fun x τ => match x with | .n => AS P n b τ κ | .e id => κ (.e id) τ | .r => κ .r τ)
  | .ite c a b, σ, κ => Branch (A.ev σ.env c) (AS P n a σ κ) (AS P n b σ κ)
  | .blk id c, σ, κ => AS P n c σ (fun x τ => match x with | .e id' => if id' = id then κ .n τ else κ (.e id') τ | .n => κ .n τ | .r => κ .r τ)
  | .loop c, σ, κ => ∃ (α : Type) (φ : α → Prop) (S : α → St) (μ : α → Nat), (∃ x, φ x ∧ ∃ gs σ', ghosts gs σ = some σ' ∧ Weak n σ' (S x)) ∧
      ∀ x, φ x → AS P n c (S x) (fun y τ => match y with | .n => ∃ x', φ x' ∧ μ x' < μ x ∧ Weak n τ (S x') | .e id => κ (.e id) τ | .r => κ .r τ)
  | .exit id, σ, κ => κ (.e id) σ
  | .ret, σ, κ => κ .r σ

/-- How an instruction stands to the objects that are there: 0 not at all, 1 it reads, 2 it turns some. -/
def I.cls : I → Nat
  | .mv _ | .pick _ _ _ | .fld _ _ _ | .ix _ _ _ _ _ | .ixs _ _ | .bin _ _ _ | .eqb _ _ _ | .eqa _ _ _ _ | .un _ _ | .cvi _ _ | .mx _ | .mn _ | .build _ _ | .bsi _ _ _ _ | .slcs _ _ _ | .mki _ _ _ _ | .ext _ _ | .mkf _ _ => 0
  | .alloc _ | .box _ | .s2b _ | .bso _ _ _ _ | .mks _ _ _ _ | .mkm _ => 0
  | .ld _ _ | .fa _ _ | .ia _ _ _ | .iaa _ _ _ _ | .b2s _ | .len _ _ | .slc _ _ _ _ | .nck _ | .lk _ _ _ _ _ | .slc3 _ _ _ _ _ | .isn _ _ | .mrng _ | .men _ => 1
  | _ => 2

def A.tmps : A → List Nat
  | .t n => [n]
  | .c _ => []

/-- The operands of an instruction. -/
def I.opnds : I → List A
  | .mv x | .ld _ x | .box x | .fa _ x | .fld _ _ x | .un _ x | .cvi _ x | .s2b x | .b2s x | .len _ x | .ext x _ | .nck x => [x]
  | .pick c a b => [c, a, b]
  | .st _ x y | .ia _ x y | .iaa _ _ x y | .ix _ _ _ x y | .ixs x y | .bin _ x y | .eqb _ x y | .eqa _ _ x y | .app _ _ x y | .copy _ x y => [x, y]
  | .alloc _ => []
  | .mkm x => x.toList
  | .apz _ _ _ s n => [s, n]
  | .sla _ _ x => [x]
  | .mx xs | .mn xs | .mkf _ xs | .call _ xs => xs
  | .build _ ps => ps.map fun p => p.2.2
  | .bsi _ _ _ ps | .bso _ _ _ ps => ps.map fun p => p.2
  | .mks _ _ _ n => [n]
  | .mki _ _ _ n => [n]
  | .slc _ x lo hi | .slcs x lo hi => x :: (lo.toList ++ hi.toList)
  | .lk _ _ _ m k => [m, k]
  | .mup _ m k v => [m, k, v]
  | .ment _ _ m k => [m, k]
  | .est m s v => [m, s, v]
  | .callv c xs => c :: xs
  | .slc3 _ x lo hi z => x :: z :: (lo.toList ++ hi.toList)
  | .isn _ x | .mrng x | .mnx x | .men x => [x]

/-- A constant names no object. -/
def A.cok : A → Bool
  | .t _ => true
  | .c v => v.ids2.isEmpty

/-- The temporaries that an instruction looks at. -/
def I.uses (i : I) : List Nat := i.opnds.flatMap A.tmps

def Ins.uses (x : Ins) : List Nat := (match x.g with | some (t, _) => [t] | none => []) ++ x.i.uses

end Go.Abs
