/- Part of the abstract machine on which the proof stands: its values, code and their soundness against the model. -/
import Derived.Test.YtoppidobgkgiiaaAbsA
set_option linter.unusedVariables false
namespace Go.Abs
open Go.RowKit

/-- Operands. -/
inductive A where
  | t (n : Nat)
  | c (v : V)

def A.ev (env : List (Nat × V)) : A → V
  | .t n => get n env
  | .c v => v

/-- Instructions, with all that the types say worked in. -/
inductive I where
  | mv (x : A)
  | pick (c a b : A)
  | ld (n : Option Nat) (x : A)
  | st (n : Nat) (x y : A)
  | alloc (zero : List V)
  | box (x : A)
  | fa (off : Nat) (x : A)
  | fld (off : Nat) (n : Option Nat) (x : A)
  | ia (es : Nat) (x i : A)
  | iaa (len es : Nat) (x i : A)
  | ix (len es : Nat) (n : Option Nat) (x i : A)
  | ixs (x i : A)
  | bin (op : BinOp) (x y : A)
  | eqb (neg : Bool) (x y : A)
  | eqa (ks : List Nat) (neg : Bool) (x y : A)
  | un (op : UnOp) (x : A)
  | cvi (k : IntKind) (x : A)
  | s2b (x : A)
  | b2s (x : A)
  | len (k : Nat) (x : A)
  | mx (xs : List A)
  | mn (xs : List A)
  | build (zero : List V) (parts : List (Nat × Nat × A))
  | bsi (sz len : Nat) (zero : List V) (parts : List (Nat × A))
  | bso (sz len : Nat) (zero : List V) (parts : List (Nat × A))
  | mks (sz bytes : Nat) (zero : List V) (n : A)
  | mki (sz bytes : Nat) (zero : List V) (n : A)
  | app (sz bytes : Nat) (s x : A)
  | copy (sz : Nat) (x y : A)
  | slc (sz : Nat) (x : A) (lo hi : Option A)
  | slcs (x : A) (lo hi : Option A)
  | ext (x : A) (i : Nat)
  | nck (x : A)
  | mkf (f : FuncId) (caps : List A)
  | mkm (x : Option A)
  | apz (sz bytes : Nat) (zero : List V) (s n : A)
  | sla (sz n : Nat) (x : A)
  | lk (ks : List Nat) (zero : V) (ok : Bool) (m k : A)
  | mup (ks : List Nat) (m k v : A)
  | ment (ks : List Nat) (zero : V) (m k : A)
  | est (m s v : A)
  | slc3 (sz : Nat) (x : A) (lo hi : Option A) (mx : A)
  | isn (neg : Bool) (x : A)
  | mrng (x : A)
  | mnx (x : A)
  | men (x : A)
  | call (f : FuncId) (args : List A)
  | callv (x : A) (args : List A)

/-- A scalar's equality, by its kind: 0 a bool, 1 a number, 2 a string. -/
def sceq (k : Nat) : V → V → Option Bool
  | .b x, .b y => if k = 0 then some (x == y) else none
  | .i k1 x, .i k2 y => if k = 1 ∧ k1 = k2 then some (x == y) else none
  | .s x, .s y => if k = 2 then some (x == y) else none
  | _, _ => none

def veqL : List Nat → List V → List V → Option Bool
  | [], [], [] => some true
  | k :: ks, x :: xs, y :: ys => match sceq k x y, veqL ks xs ys with
    | some a, some b => some (a && b)
    | _, _ => none
  | _, _, _ => none

def arith (op : BinOp) (k : IntKind) (x y : Int) : Option V :=
  match op with
  | .add => some (.i k (k.wrap (x + y)))
  | .sub => some (.i k (k.wrap (x - y)))
  | .mul => some (.i k (k.wrap (x * y)))
  | .quo => if y = 0 then none else some (.i k (k.wrap (x.tdiv y)))
  | .rem => if y = 0 then none else some (.i k (x.tmod y))
  | .and => some (.i k (k.wrap ((BitVec.ofInt k.bits x &&& BitVec.ofInt k.bits y).toNat : Int)))
  | .or => some (.i k (k.wrap ((BitVec.ofInt k.bits x ||| BitVec.ofInt k.bits y).toNat : Int)))
  | .xor => some (.i k (k.wrap ((BitVec.ofInt k.bits x ^^^ BitVec.ofInt k.bits y).toNat : Int)))
  | .eql => some (.b (x == y))
  | .neq => some (.b (x != y))
  | .lss => some (.b (x < y))
  | .leq => some (.b (x ≤ y))
  | .gtr => some (.b (x > y))
  | .geq => some (.b (x ≥ y))
  | _ => none

def shiftV (op : BinOp) (k : IntKind) (x y : Int) : Option V :=
  if y < 0 then none else
  match op with
  | .shl => some (.i k (k.wrap (x * 2 ^ (min y.toNat k.bits))))
  | .shr => some (.i k (x.fdiv (2 ^ (min y.toNat k.bits))))
  | _ => none

def strV (op : BinOp) (x y : List UInt8) : Option V :=
  match op with
  | .add => if x.length + y.length ≤ 9223372036854775807 then some (.s (x ++ y)) else none
  | .eql => some (.b (x == y))
  | .neq => some (.b (!(x == y)))
  | .lss => some (.b (Op.bytesLess x y))
  | .leq => some (.b (Op.bytesLess x y || x == y))
  | .gtr => some (.b (!(Op.bytesLess x y || x == y)))
  | .geq => some (.b (!(Op.bytesLess x y)))
  | _ => none

def binV (op : BinOp) : V → V → Option V
  | .i k x, .i k' y => if op = .shl ∨ op = .shr then shiftV op k x y else if k = k' then arith op k x y else none
  | .s x, .s y => strV op x y
  | _, _ => none

def unV (op : UnOp) : V → Option V
  | .b x => match op with | .not => some (.b (!x)) | _ => none
  | .i k x => match op with | .neg => some (.i k (k.wrap (0 - x))) | _ => none
  | _ => none

/-- The cells from an address to its object's (or element's) end. -/
def cellsAt (h : List O) : V → Option (List V)
  | .ip cs => some cs
  | .p id g e j => match h[id]? with
    | some (.arr g' _ els) => if g = g' then (els[e]?).bind fun cs => if j ≤ cs.length then some (cs.drop j) else none else none
    | _ => none
  | _ => none

def pickN (n : Option Nat) (cs : List V) : Option V :=
  match n with
  | none => cs.head?
  | some k => if k ≤ cs.length then some (.a (cs.take k)) else none

def V.cells : V → List V
  | .a cs => cs
  | v => [v]

def V.isD : V → Bool
  | .b _ | .i _ _ | .s _ | .nil | .l _ _ => true
  | _ => false

def V.isC : V → Bool
  | .a _ | .t _ => false
  | _ => true

def V.isCap : V → Bool
  | .any | .a _ | .t _ | .f _ _ => false
  | _ => true

def V.okA : V → Bool
  | .any | .t _ => false
  | _ => true

/-- The elements that a slice holds. -/
def elsOf (sz : Nat) (h : List O) : V → Option (List (List V))
  | .nil => some []
  | .l sz' els => if sz' = sz then some els else none
  | .own id g off len => match h[id]? with
    | some (.arr g' sz' els) => if g = g' ∧ sz' = sz ∧ off + len ≤ els.length then some ((els.drop off).take len) else none
    | _ => none
  | _ => none

def byteEl (b : UInt8) : List V := [.i .u8 b.toNat]

def bytesOf : List (List V) → Option (List UInt8)
  | [] => some []
  | [.i .u8 n] :: r => (bytesOf r).map (UInt8.ofNat n.toNat :: ·)
  | _ => none

def splice (cs : List V) (j : Nat) (ys : List V) : List V := cs.take j ++ ys ++ cs.drop (j + ys.length)

def idx (x : V) : Option Int := match x with | .i _ n => some n | _ => none

def fillL (zero : List V) : List (Nat × Nat × V) → Option (List V)
  | [] => some zero
  | (off, sz, v) :: r => if v.cells.length = sz ∧ off + sz ≤ zero.length ∧ v.okA then fillL (splice zero off v.cells) r else none

def fillE (sz : Nat) (els : List (List V)) : List (Nat × V) → Option (List (List V))
  | [] => some els
  | (i, v) :: r => if v.cells.length = sz ∧ i < els.length ∧ v.okA then fillE sz (els.set i v.cells) r else none

def minGo (mx : Bool) (k : IntKind) (x : Int) : List V → Option V
  | [] => some (.i k x)
  | .i k' y :: r => if k = k' then minGo mx k (if mx then (if y > x then y else x) else (if y < x then y else x)) r else none
  | _ => none

def minmax (mx : Bool) : List V → Option V
  | .i k x :: r => minGo mx k x r
  | _ => none

def bnd (x : Option V) (d : Nat) : Option Nat :=
  match x with
  | none => some d
  | some (.i _ n) => if 0 ≤ n then some n.toNat else none
  | _ => none

def V.isT : V → Bool
  | .t _ => true
  | _ => false

/-- A key's value is of the form that its type's values have: a struct or an array has not just one cell. -/
def kshape (ks : List Nat) : V → Bool
  | .a _ => !(ks.length == 1)
  | .any | .t _ | .f _ _ => false
  | _ => ks.length == 1

def findE (ks : List Nat) (k : V) : List (V × V) → Option (Option (Nat × V))
  | [] => if (kshape ks k && k.cells.length == ks.length) = true then some none else none
  | (k', v) :: r => if (kshape ks k && kshape ks k') = true then match veqL ks k.cells k'.cells with
    | some true => some (some (0, v))
    | some false => (findE ks k r).map (Option.map fun (i, v) => (i + 1, v))
    | none => none else none

def entsOf (h : List O) : V → Option (List (V × V))
  | .mnil => some []
  | .mp id => match h[id]? with
    | some (.mp es) => some es
    | _ => none
  | _ => none

/-- The cells of an array, element by element. -/
def chunk (sz : Nat) : Nat → List V → List (List V)
  | 0, _ => []
  | n + 1, cs => cs.take sz :: chunk sz n (cs.drop sz)

def stepI (i : I) (ev : A → V) (h : List O) : Option (V × List O) :=
  match i with
  | .mv x => some (ev x, h)
  | .pick c a b => match ev c with
    | .b t => some (if t then ev a else ev b, h)
    | _ => none
  | .ld n x => ((cellsAt h (ev x)).bind (pickN n)).map (·, h)
  | .st n x y => match ev x with
    | .p id g e j => match h[id]? with
      | some (.arr g' sz els) => match els[e]? with
        | some cs => if g = g' ∧ (ev y).cells.length = n ∧ j + n ≤ cs.length ∧ (ev y).okA
            then some (.any, h.set id (.arr g' sz (els.set e (splice cs j (ev y).cells)))) else none
        | none => none
      | _ => none
    | _ => none
  | .alloc zero => some (.p h.length 1 0 0, h ++ [.arr 1 zero.length [zero]])
  | .box x => match ev x with
    | .any => none
    | .t _ => none
    | v => some (.p h.length 1 0 0, h ++ [.arr 1 v.cells.length [v.cells]])
  | .fa off x => match ev x with
    | .p id g e j => match h[id]? with
      | some (.arr g' _ _) => if g = g' then some (.p id g e (j + off), h) else none
      | _ => none
    | .ip cs => some (.ip (cs.drop off), h)
    | _ => none
  | .fld off n x => match ev x with
    | .a cs => if off ≤ cs.length then (pickN n (cs.drop off)).map (·, h) else none
    | _ => none
  | .ia es x i => match idx (ev i), ev x with
    | some n, .l sz els => if sz = es ∧ 0 ≤ n then (els[n.toNat]?).map fun el => (.ip el, h) else none
    | some n, .own id g off len => match h[id]? with
      | some (.arr g' sz els) => if g = g' ∧ sz = es ∧ 0 ≤ n ∧ n.toNat < len then some (.p id g (off + n.toNat) 0, h) else none
      | _ => none
    | _, _ => none
  | .iaa len es x i => match idx (ev i), ev x with
    | some n, .p id g e j => match h[id]? with
      | some (.arr g' _ _) => if g = g' ∧ 0 ≤ n ∧ n.toNat < len then some (.p id g e (j + n.toNat * es), h) else none
      | _ => none
    | some n, .ip cs => if 0 ≤ n ∧ n.toNat < len then some (.ip (cs.drop (n.toNat * es)), h) else none
    | _, _ => none
  | .ix len es n x i => match idx (ev i), ev x with
    | some k, .a cs => if 0 ≤ k ∧ k.toNat < len ∧ k.toNat * es ≤ cs.length then (pickN n (cs.drop (k.toNat * es))).map (·, h) else none
    | _, _ => none
  | .ixs x i => match idx (ev i), ev x with
    | some n, .s l => if 0 ≤ n then (l[n.toNat]?).map fun b => (.i .u8 b.toNat, h) else none
    | _, _ => none
  | .bin op x y => (binV op (ev x) (ev y)).map (·, h)
  | .eqb neg x y => match ev x, ev y with
    | .b p, .b q => some (.b (if neg then !(p == q) else p == q), h)
    | _, _ => none
  | .eqa ks neg x y => match ev x, ev y with
    | .a p, .a q => (veqL ks p q).map fun r => (.b (if neg then !r else r), h)
    | _, _ => none
  | .un op x => (unV op (ev x)).map (·, h)
  | .cvi k x => match ev x with
    | .i _ n => some (.i k (k.wrap n), h)
    | _ => none
  | .s2b x => match ev x with
    | .s l => if l.length ≤ 9223372036854775807 then some (.own h.length 1 0 l.length, h ++ [.arr 1 1 (l.map byteEl)]) else none
    | _ => none
  | .b2s x => ((elsOf 1 h (ev x)).bind bytesOf).map fun l => (.s l, h)
  | .len k x => match ev x with
    | .s l => if k = 1 then some (.i .i64 l.length, h) else none
    | .l _ els => if k = 0 then some (.i .i64 els.length, h) else none
    | .own id g off len => if k = 0 then match h[id]? with
      | some (.arr g' _ _) => if g = g' then some (.i .i64 len, h) else none
      | _ => none else none
    | .nil => if k = 0 then some (.i .i64 0, h) else none
    | .mp id => if k = 2 then match h[id]? with
      | some (.mp es) => some (.i .i64 es.length, h)
      | _ => none else none
    | .mnil => if k = 2 then some (.i .i64 0, h) else none
    | _ => none
  | .mx xs => (minmax true (xs.map ev)).map (·, h)
  | .mn xs => (minmax false (xs.map ev)).map (·, h)
  | .build zero parts => (fillL zero (parts.map fun (o, s, x) => (o, s, ev x))).map fun cs => (.a cs, h)
  | .bsi sz len zero parts => (fillE sz (List.replicate len zero) (parts.map fun (i, x) => (i, ev x))).bind fun els =>
      if els.all (·.all V.isD) then some (.l sz els, h) else none
  | .bso sz len zero parts => (fillE sz (List.replicate len zero) (parts.map fun (i, x) => (i, ev x))).map fun els =>
      if len = 0 then (.nil, h) else (.own h.length 1 0 len, h ++ [.arr 1 sz els])
  | .mks sz bytes zero n => match ev n with
    | .i .i64 k => if 0 ≤ k ∧ k * bytes ≤ 140737488355328 ∧ k ≤ 9223372036854775807 then some (.own h.length 1 0 k.toNat, h ++ [.arr 1 sz (List.replicate k.toNat zero)]) else none
    | _ => none
  | .mki sz bytes zero n => match ev n with
    | .i .i64 k => if 0 ≤ k ∧ k * bytes ≤ 140737488355328 ∧ k ≤ 9223372036854775807 ∧ zero.all V.isD then some (.l sz (List.replicate k.toNat zero), h) else none
    | _ => none
  | .app sz bytes s x => match elsOf sz h (ev x) with
    | some news => match ev s with
      | .nil => if news.length * bytes ≤ 140737488355328 ∧ news.length ≤ 9223372036854775807 then some (.own h.length 1 0 news.length, h ++ [.arr 1 sz news]) else none
      | .own id g off len => match h[id]? with
        | some (.arr g' sz' els) => if g = g' ∧ sz' = sz ∧ off + len ≤ els.length ∧ (len + news.length) * bytes ≤ 140737488355328 ∧ len + news.length ≤ 9223372036854775807
            then some (.own id (g + 1) 0 (len + news.length), h.set id (.arr (g + 1) sz ((els.drop off).take len ++ news))) else none
        | _ => none
      | _ => none
    | none => none
  | .copy sz x y => match ev x, (match ev y with | .s l => if sz = 1 then some (l.map byteEl) else none | v => elsOf sz h v) with
    | .own id g off len, some src => match h[id]? with
      | some (.arr g' sz' els) => if g = g' ∧ sz' = sz ∧ off + len ≤ els.length
          then some (.i .i64 (min src.length len : Nat), h.set id (.arr g' sz (els.take off ++ src.take len ++ els.drop (off + min src.length len)))) else none
      | _ => none
    | _, _ => none
  | .slc sz x lo hi => match ev x with
    | .l sz' els => match bnd (lo.map ev) 0, bnd (hi.map ev) els.length with
      | some a, some b => if sz' = sz ∧ a ≤ b ∧ b ≤ els.length then some (.l sz ((els.take b).drop a), h) else none
      | _, _ => none
    | .own id g off len => match bnd (lo.map ev) 0, bnd (hi.map ev) len, h[id]? with
      | some a, some b, some (.arr g' sz' els) => if g = g' ∧ sz' = sz ∧ a ≤ b ∧ b ≤ len then some (.own id g (off + a) (b - a), h) else none
      | _, _, _ => none
    | .nil => match bnd (lo.map ev) 0, bnd (hi.map ev) 0 with
      | some 0, some 0 => some (.nil, h)
      | _, _ => none
    | _ => none
  | .slcs x lo hi => match ev x with
    | .s l => match bnd (lo.map ev) 0, bnd (hi.map ev) l.length with
      | some a, some b => if a ≤ b ∧ b ≤ l.length then some (.s ((l.take b).drop a), h) else none
      | _, _ => none
    | _ => none
  | .ext x i => match ev x with
    | .t vs => (vs[i]?).map (·, h)
    | _ => none
  | .nck x => match ev x with
    | .p id g e j => match h[id]? with
      | some (.arr g' _ _) => if g = g' then some (.p id g e j, h) else none
      | _ => none
    | .ip cs => some (.ip cs, h)
    | .f f cs => some (.f f cs, h)
    | _ => none
  | .mkf f caps => if (caps.map ev).all V.isCap then some (.f f (caps.map ev), h) else none
  | .mkm x => match x.map ev with
    | none => some (.mp h.length, h ++ [.mp []])
    | some (.i _ _) => some (.mp h.length, h ++ [.mp []])
    | _ => none
  | .sla sz n x => match ev x with
    | .p id g 0 0 => match h[id]? with
      | some (.arr g' sz' [cells]) => if g = g' ∧ sz' = n * sz ∧ 0 < n ∧ cells.all V.isD = true then some (.l sz (chunk sz n cells), h.set id .dead) else none
      | _ => none
    | _ => none
  | .apz sz bytes zero s n => match ev s, ev n with
    | .own id g off len, .i _ k => match h[id]? with
      | some (.arr g' sz' els) => if g = g' ∧ sz' = sz ∧ off + len ≤ els.length ∧ 0 ≤ k ∧ (len + k.toNat) * bytes ≤ 140737488355328 ∧ len + k.toNat ≤ 9223372036854775807
          then some (.own id (g + 1) 0 (len + k.toNat), h.set id (.arr (g + 1) sz ((els.drop off).take len ++ List.replicate k.toNat zero))) else none
      | _ => none
    | _, _ => none
  | .lk ks zero ok m k => match entsOf h (ev m) with
    | some es => match findE ks (ev k) es with
      | some (some (_, v)) => some (if ok then .t [v, .b true] else v, h)
      | some none => some (if ok then .t [zero, .b false] else zero, h)
      | none => none
    | none => none
  | .mup ks m k v => match ev m with
    | .mp id => match h[id]? with
      | some (.mp es) => if (ev v).isT = false then match findE ks (ev k) es with
        | some (some (i, _)) => some (.any, h.set id (.mp (es.set i (ev k, ev v))))
        | some none => some (.any, h.set id (.mp (es ++ [(ev k, ev v)])))
        | none => none else none
      | _ => none
    | _ => none
  | .ment ks zero m k => match ev m with
    | .mp id => match h[id]? with
      | some (.mp es) => match findE ks (ev k) es with
        | some (some (i, v)) => some (.t [v, .i .i64 i], h.set id (.mp (es.set i (ev k, v))))
        | some none => some (.t [zero, .i .i64 es.length], h.set id (.mp (es ++ [(ev k, zero)])))
        | none => none
      | _ => none
    | _ => none
  | .est m s v => match ev m, ev s with
    | .mp id, .i _ n => match h[id]? with
      | some (.mp es) => if 0 ≤ n then match es[n.toNat]? with
          | some (k, _) => if (ev v).isT = false then some (.any, h.set id (.mp (es.set n.toNat (k, ev v)))) else none
          | none => none else none
      | _ => none
    | _, _ => none
  | .slc3 sz x lo hi mx => match ev x, ev mx with
    | .own id g off len, .i _ c => match bnd (lo.map ev) 0, bnd (hi.map ev) len, h[id]? with
      | some a, some b, some (.arr g' sz' els) => if g = g' ∧ sz' = sz ∧ a ≤ b ∧ b ≤ len ∧ c = len then some (.own id g (off + a) (b - a), h) else none
      | _, _, _ => none
    | .nil, .i _ c => match bnd (lo.map ev) 0, bnd (hi.map ev) 0 with
      | some 0, some 0 => if c = 0 then some (.nil, h) else none
      | _, _ => none
    | _, _ => none
  | .isn neg x => match ev x with
    | .l _ (_ :: _) => some (.b neg, h)
    | .own id g off len => match h[id]? with
      | some (.arr g' _ _) => if g = g' ∧ 0 < len then some (.b neg, h) else none
      | _ => none
    | _ => none
  | .mrng x => match ev x with
    | .mp id => match h[id]? with
      | some (.mp es) => some (.p h.length 1 0 0, h ++ [.it (some id) es.length []])
      | _ => none
    | .mnil => some (.p h.length 1 0 0, h ++ [.it none 0 []])
    | _ => none
  | .mnx _ => none
  | .men x => match ev x with
    | .p id g 0 0 => match h[id]? with
      | some (.it (some mid) since seen) => match h[mid]? with
        | some (.mp es) => if g = 1 ∧ es.length = since then (seen.getLast?.bind fun i => es[i]?).map fun e => (.t [e.1, e.2], h) else none
        | _ => none
      | _ => none
    | _ => none
  | .call _ _ => none
  | .callv _ _ => none

end Go.Abs
