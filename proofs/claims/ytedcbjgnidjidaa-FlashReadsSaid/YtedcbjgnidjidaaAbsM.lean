/- Part of the abstract machine on which the proof stands: its values, code and their soundness against the model. -/
import Derived.Test.YtedcbjgnidjidaaAbsL
import Derived.Deep.LoopGhost
set_option linter.unusedVariables false
set_option linter.unusedSimpArgs false
namespace Go.Abs
open Go.RowKit

structure Ins where
  d : Option Nat
  g : Option (Nat × Bool)
  i : I

inductive C where
  | skip
  | reg (l : List Ins)
  | drw (l : List Ins)
  | seq (a b : C)
  | ite (c : A) (a b : C)
  | blk (id : Nat) (c : C)
  | loop (c : C)
  | exit (id : Nat)
  | ret

/-- How a piece of code ends. -/
inductive X where
  | n
  | e (id : Nat)
  | r

def putD (d : Option Nat) (v : V) (env : List (Nat × V)) : List (Nat × V) :=
  match d with
  | some t => put t v env
  | none => env

/-- A call, by what it does to values and to the objects at hand. -/
def ACall (P : Program) (f : FuncId) (vs : List V) (h : List O) (R : V → List O → Prop) : Prop :=
  ∀ (J : Nat → Prop) (m : List Ent) (w : World) (cargs : List Value), RS J h m w → Pw (RV J m w) vs cargs →
    Calls P f cargs.toArray w fun e w' => ∃ v r h' J' m', e = .returned v ∧ R r h' ∧ RV J' m' w' r v ∧ RS J' h' m' w' ∧ (∀ n, Ev n J m w J' m' w') ∧ Ml m m'

theorem ACall.mono {P : Program} {f : FuncId} {vs : List V} {h : List O} {R R' : V → List O → Prop} (ha : ACall P f vs h R) (hr : ∀ r h', R r h' → R' r h') : ACall P f vs h R' :=
  fun J m w cargs h1 h2 => (ha J m w cargs h1 h2).mono fun e w' ⟨v, r, h', J', m', a, b, c⟩ => ⟨v, r, h', J', m', a, hr _ _ b, c⟩

/-- A call that hands back this value, whatever objects are at hand. -/
def CallIs (P : Program) (f : FuncId) (vs : List V) (r : V) : Prop := ∀ h, ACall P f vs h (fun r' h' => r' = r ∧ h' = h)

def callable (P : Program) (f : FuncId) : Bool := match P.funcs[f]? with
  | some fn => fn.body.isSome && !(fn.name == "runtime.NumGoroutine")
  | none => false

/-- One instruction. -/
def A1 (P : Program) (x : Ins) (σ : St) (κ : St → Prop) : Prop :=
  match x.i with
  | .call f args => ACall P f (args.map (A.ev σ.env)) σ.h (fun r h' => κ ⟨putD x.d r σ.env, h'⟩)
  | .callv c args => match A.ev σ.env c with
    | .f f caps => callable P f = true ∧ ACall P f (args.map (A.ev σ.env) ++ caps) σ.h (fun r h' => κ ⟨putD x.d r σ.env, h'⟩)
    | _ => False
  | i => match stepI i (A.ev σ.env) σ.h with
    | some (r, h') => κ ⟨putD x.d r σ.env, h'⟩
    | none => False

def Guard (v : V) (want : Bool) (p q : Prop) : Prop :=
  match v with
  | .b t => (t = want → p) ∧ (t = !want → q)
  | _ => False

def AO (P : Program) : List Ins → St → (St → Prop) → Prop
  | [], σ, κ => κ σ
  | x :: l, σ, κ => match x.g with
    | none => A1 P x σ (fun σ' => AO P l σ' κ)
    | some (t, want) => Guard (get t σ.env) want (A1 P x σ (fun σ' => AO P l σ' κ)) (AO P l ⟨putD x.d .any σ.env, σ.h⟩ κ)

/-- One instruction of a region that draws its order. -/
def D1 (P : Program) (x : Ins) (σ : St) (κ : St → Prop) : Prop :=
  match x.i with
  | .call f args => ∃ r, CallIs P f (args.map (A.ev σ.env)) r ∧ κ ⟨putD x.d r σ.env, σ.h⟩
  | .callv _ _ => False
  | i => match stepI i (A.ev σ.env) σ.h with
    | some (r, h') => κ ⟨putD x.d r σ.env, h'⟩
    | none => False

def AD (P : Program) : List Ins → St → (St → Prop) → Prop
  | [], σ, κ => κ σ
  | x :: l, σ, κ => match x.g with
    | none => D1 P x σ (fun σ' => AD P l σ' κ)
    | some (t, want) => Guard (get t σ.env) want (D1 P x σ (fun σ' => AD P l σ' κ)) (AD P l ⟨putD x.d .any σ.env, σ.h⟩ κ)

def V.cl0 (n : Nat) : V → Bool
  | .own id _ _ _ => id < n
  | .p id _ _ _ => id < n
  | .mp id => id < n
  | _ => true

def V.cl1 (n : Nat) : V → Bool
  | .f _ caps => caps.all (V.cl0 n)
  | v => v.cl0 n

/-- All objects that a value names have a number below n. -/
def V.cl (n : Nat) : V → Bool
  | .a cs => cs.all (V.cl1 n)
  | .t _ => false
  | v => v.cl1 n

def O.cl (n : Nat) : O → Prop
  | .arr _ _ els => ∀ el ∈ els, ∀ x ∈ el, x.cl n = true
  | .mp es => ∀ e ∈ es, e.1.cl n = true ∧ e.2.cl n = true
  | .dead => True

def WeakH (k : Nat) : List O → List O → Prop
  | _, [] => True
  | [], _ :: _ => False
  | o :: os, p :: ps => (p = .dead ∨ (o = p ∧ p.cl k)) ∧ WeakH k os ps

/-- Less is known in the second state. -/
def Weak (n : Nat) (σ τ : St) : Prop :=
  n ≤ τ.h.length ∧ τ.h.length ≤ σ.h.length ∧ (∀ p ∈ τ.env, p.2 = .any ∨ (get p.1 σ.env = p.2 ∧ p.2.cl τ.h.length = true)) ∧ WeakH τ.h.length σ.h τ.h

def Branch (v : V) (p q : Prop) : Prop :=
  match v with
  | .b t => (t = true → p) ∧ (t = false → q)
  | _ => False

def AS (P : Program) (n : Nat) : C → St → (X → St → Prop) → Prop
  | .skip, σ, κ => κ .n σ
  | .reg l, σ, κ => AO P l σ (κ .n)
  | .drw l, σ, κ => AD P l σ (κ .n)
  | .seq a b, σ, κ => AS P n a σ (fun x τ => match x with | .n => AS P n b τ κ | .e id => κ (.e id) τ | .r => κ .r τ)
  | .ite c a b, σ, κ => Branch (A.ev σ.env c) (AS P n a σ κ) (AS P n b σ κ)
  | .blk id c, σ, κ => AS P n c σ (fun x τ => match x with | .e id' => if id' = id then κ .n τ else κ (.e id') τ | .n => κ .n τ | .r => κ .r τ)
  | .loop c, σ, κ => ∃ (α : Type) (φ : α → Prop) (S : α → St) (μ : α → Nat), (∃ x, φ x ∧ Weak n σ (S x)) ∧
      ∀ x, φ x → AS P n c (S x) (fun y τ => match y with | .n => ∃ x', φ x' ∧ μ x' < μ x ∧ Weak n τ (S x') | .e id => κ (.e id) τ | .r => κ .r τ)
  | .exit id, σ, κ => κ (.e id) σ
  | .ret, σ, κ => κ .r σ

/-- How an instruction stands to the objects: 0 not at all, 1 it reads, 2 it makes or turns some. -/
def I.cls : I → Nat
  | .mv _ | .pick _ _ _ | .fld _ _ _ | .ix _ _ _ _ _ | .ixs _ _ | .bin _ _ _ | .eqb _ _ _ | .eqa _ _ _ _ | .un _ _ | .cvi _ _ | .mx _ | .mn _ | .build _ _ | .bsi _ _ _ _ | .slcs _ _ _ | .mki _ _ _ _ | .ext _ _ | .mkf _ _ | .call _ _ => 0
  | .ld _ _ | .fa _ _ | .ia _ _ _ | .iaa _ _ _ _ | .b2s _ | .len _ _ | .slc _ _ _ _ | .nck _ | .lk _ _ _ _ _ => 1
  | _ => 2

def A.tmps : A → List Nat
  | .t n => [n]
  | .c _ => []

/-- The temporaries that an instruction looks at. -/
def I.uses : I → List Nat
  | .mv x | .ld _ x | .box x | .fa _ x | .fld _ _ x | .un _ x | .cvi _ x | .s2b x | .b2s x | .len _ x | .ext x _ | .nck x => x.tmps
  | .pick c a b => c.tmps ++ a.tmps ++ b.tmps
  | .st _ x y | .ia _ x y | .iaa _ _ x y | .ix _ _ _ x y | .ixs x y | .bin _ x y | .eqb _ x y | .eqa _ _ x y | .app _ _ x y | .copy _ x y => x.tmps ++ y.tmps
  | .alloc _ | .mkm => []
  | .mx xs | .mn xs | .mkf _ xs | .call _ xs => xs.flatMap A.tmps
  | .build _ ps => ps.flatMap fun p => p.2.2.tmps
  | .bsi _ _ _ ps | .bso _ _ _ ps => ps.flatMap fun p => p.2.tmps
  | .mks _ _ _ n => n.tmps
  | .mki _ _ _ n => n.tmps
  | .slc _ x lo hi | .slcs x lo hi => x.tmps ++ (lo.map A.tmps).getD [] ++ (hi.map A.tmps).getD []
  | .lk _ _ _ m k => m.tmps ++ k.tmps
  | .mup _ m k v => m.tmps ++ k.tmps ++ v.tmps
  | .ment _ _ m k => m.tmps ++ k.tmps
  | .est m s v => m.tmps ++ s.tmps ++ v.tmps
  | .callv c xs => c.tmps ++ xs.flatMap A.tmps

def Ins.uses (x : Ins) : List Nat := (match x.g with | some (t, _) => [t] | none => []) ++ x.i.uses

end Go.Abs
