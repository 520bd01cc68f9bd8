/- An abstract machine for the translated code: slices as lists, a small heap of its own objects, no tape. Definitions alone. -/
import Derived.Orders
set_option linter.all false
namespace Go.Am

/-- Data that nobody changes any more. -/
inductive D where
  | int (k : IntKind) (n : Int)
  | bool (b : Bool)
  | str (s : ByteArray)
  | nilI | nilP | nilM | nilF
  | iface (t : TypeId) (x : D)
  | list (xs : List D)
  | agg (cs : List D)
  | fn (f : FuncId)
  deriving Inhabited

/-- What a slot holds. -/
inductive V where
  | d (x : D)
  | nilS
  | arr (id n : Nat)
  | ptr (id off : Nat)
  | eptr (id n i off : Nat)
  | ro (cs : List D)
  | mp (id : Nat)
  | clo (f : FuncId) (caps : List V)
  | agg (cs : List V)
  | tup (vs : List V)
  | dead
  deriving Inhabited

inductive Obj where
  | box (cs : List V)
  | arr (sz : Nat) (xs : List D) (wm : Nat)
  | siter (s : ByteArray) (pos : Nat)
  deriving Inhabited

inductive Out where
  | normal
  | exit (id : Nat)
  | ret
  deriving Inhabited

def D.cells : D → List D
  | .agg cs => cs
  | x => [x]

def V.cells : V → List V
  | .agg cs => cs
  | .d (.agg cs) => cs.map .d
  | v => [v]

/-- May it stand in a cell (or in cells) of a box? -/
def V.cellOk : V → Bool
  | .d (.agg _) => false
  | .agg _ => false
  | .tup _ => false
  | .dead => false
  | _ => true

/-- A value that is neither made of others nor a closure. -/
def V.plain : V → Bool
  | .clo _ _ => false
  | .agg _ => false
  | .tup _ => false
  | .dead => false
  | _ => true

def V.storable (v : V) : Bool := v.cells.all V.cellOk

/-- A constant of one cell, as data. -/
def constD? : Value → Option D
  | .int k n => some (.int k n)
  | .bool b => some (.bool b)
  | .string s => some (.str s)
  | .pointer none => some .nilP
  | .map none => some .nilM
  | .nilFunc => some .nilF
  | .nilIface => some .nilI
  | .slice none 0 0 => some (.list [])
  | _ => none

def constCell : Value → V
  | .int k n => .d (.int k n)
  | .bool b => .d (.bool b)
  | .string s => .d (.str s)
  | .pointer none => .d .nilP
  | .map none => .d .nilM
  | .nilFunc => .d .nilF
  | .nilIface => .d .nilI
  | .slice none 0 0 => .nilS
  | .tuple vs => if vs.isEmpty then .tup [] else .dead
  | _ => .dead

def V.asD? : V → Option D
  | .d x => some x
  | _ => none

def mkAgg (cs : List V) : V :=
  match cs.mapM V.asD? with
  | some ds => .d (.agg ds)
  | none => .agg cs

def constV : Value → V
  | .agg cs => if (cs.toList.map constCell).all V.cellOk then mkAgg (cs.toList.map constCell) else .dead
  | v => constCell v

/-- Is a value of this type made of cells (a struct, an array)? -/
def agg? (P : Program) (t : TypeId) : Option Bool :=
  match P.underlying t with
  | some (.struct _) | some (.array _ _) => some true
  | some _ => some false
  | none => none

def sizeOf? (P : Program) (t : TypeId) : Option Nat := (P.info? t).map (·.size)

def zero? (P : Program) (t : TypeId) : Option Value := (P.info? t).bind (·.zero)

/-- The cells of an element of a slice of this type. -/
def elemSize (P : Program) (t : TypeId) : Nat :=
  match P.underlying t with
  | some (.slice e) => (sizeOf? P e).getD 0
  | _ => 0

/-- A single cell's value as data; the array that it was stands still from there on. -/
def pure1 (h : List Obj) : V → Option (D × List Obj)
  | .d x => some (x, h)
  | .nilS => some (.list [], h)
  | .arr id n =>
    match h[id]? with
    | some (.arr sz xs _) => if n = xs.length then some (.list xs, h.set id (.arr sz xs xs.length)) else none
    | _ => none
  | _ => none

def pureList (h : List Obj) : List V → Option (List D × List Obj)
  | [] => some ([], h)
  | v :: vs =>
    match pure1 h v with
    | some (x, h1) =>
      match pureList h1 vs with
      | some (xs, h2) => some (x :: xs, h2)
      | none => none
    | none => none

def pureV (h : List Obj) : V → Option (D × List Obj)
  | .agg cs => (pureList h cs).map fun (xs, h) => (.agg xs, h)
  | v => pure1 h v

def pureVs (h : List Obj) : List V → Option (List D × List Obj)
  | [] => some ([], h)
  | v :: vs =>
    match pureV h v with
    | some (x, h1) =>
      match pureVs h1 vs with
      | some (xs, h2) => some (x :: xs, h2)
      | none => none
    | none => none

/-- The elements of a slice that is only read. -/
def elems? (h : List Obj) : V → Option (List D)
  | .d (.list xs) => some xs
  | .nilS => some []
  | .arr id n =>
    match h[id]? with
    | some (.arr _ xs _) => if n = xs.length then some xs else none
    | _ => none
  | _ => none

def byteD (b : UInt8) : D := .int .u8 b.toNat

/-! ### operators -/

def intBin (op : BinOp) (k : IntKind) (x y : Int) : Option D :=
  match op with
  | .add => some (.int k (k.wrap (x + y)))
  | .sub => some (.int k (k.wrap (x - y)))
  | .mul => some (.int k (k.wrap (x * y)))
  | .quo => if y = 0 then none else some (.int k (k.wrap (x.tdiv y)))
  | .rem => if y = 0 then none else some (.int k (x.tmod y))
  | .and => some (.int k (k.wrap (BitVec.ofInt k.bits x &&& BitVec.ofInt k.bits y).toNat))
  | .or => some (.int k (k.wrap (BitVec.ofInt k.bits x ||| BitVec.ofInt k.bits y).toNat))
  | .xor => some (.int k (k.wrap (BitVec.ofInt k.bits x ^^^ BitVec.ofInt k.bits y).toNat))
  | .andNot => some (.int k (k.wrap (BitVec.ofInt k.bits x &&& ~~~ BitVec.ofInt k.bits y).toNat))
  | .eql => some (.bool (x == y))
  | .neq => some (.bool (x != y))
  | .lss => some (.bool (x < y))
  | .leq => some (.bool (x ≤ y))
  | .gtr => some (.bool (x > y))
  | .geq => some (.bool (x ≥ y))
  | _ => none

def shiftBin (op : BinOp) (k : IntKind) (x y : Int) : Option D :=
  if y < 0 then none else
  match op with
  | .shl => some (.int k (k.wrap (x * 2 ^ (min y.toNat k.bits))))
  | .shr => some (.int k (x.fdiv (2 ^ (min y.toNat k.bits))))
  | _ => none

def strBin (op : BinOp) (x y : ByteArray) : Option D :=
  match op with
  | .add => if x.size + y.size < 2147483648 then some (.str (x ++ y)) else none
  | .eql => some (.bool (x.toList == y.toList))
  | .neq => some (.bool !(x.toList == y.toList))
  | .lss => some (.bool (Op.bytesLess x.toList y.toList))
  | .leq => some (.bool (Op.bytesLess x.toList y.toList || x.toList == y.toList))
  | .gtr => some (.bool !(Op.bytesLess x.toList y.toList || x.toList == y.toList))
  | .geq => some (.bool !(Op.bytesLess x.toList y.toList))
  | _ => none

def binD (P : Program) (op : BinOp) (t : TypeId) (x y : V) : Option D :=
  match x, y with
  | .d (.int k a), .d (.int k' b) =>
    match op with
    | .shl | .shr => shiftBin op k a b
    | _ => if k = k' then intBin op k a b else none
  | .d (.str a), .d (.str b) => strBin op a b
  | .d (.bool a), .d (.bool b) =>
    match P.underlying t with
    | some .bool =>
      match op with
      | .eql => some (.bool (a == b))
      | .neq => some (.bool !(a == b))
      | _ => none
    | _ => none
  | _, _ => none

def unD (op : UnOp) (x : V) : Option D :=
  match op, x with
  | .neg, .d (.int k n) => some (.int k (k.wrap (0 - n)))
  | .xor, .d (.int k n) => some (.int k (k.wrap (BitVec.ofInt k.bits (if k.signed then -1 else k.max) ^^^ BitVec.ofInt k.bits n).toNat))
  | .not, .d (.bool b) => some (.bool !b)
  | _, _ => none

def byteOf? : D → Option UInt8
  | .int .u8 n => some (UInt8.ofNat n.toNat)
  | _ => none

/-- Conversions that make no memory. -/
def readConvV (P : Program) (h : List Obj) (src dst : TypeId) (x : V) : Option V :=
  match P.underlying src, P.underlying dst, x with
  | some _, some (.int k), .d (.int _ n) => some (.d (.int k (k.wrap n)))
  | some .string, some .string, .d (.str s) => some (.d (.str s))
  | some (.slice e), some .string, x =>
    match P.underlying e, elems? h x with
    | some (.int .u8), some xs => (xs.mapM byteOf?).map fun bs => .d (.str ⟨bs.toArray⟩)
    | _, _ => none
  | _, _, _ => none

def convV (P : Program) (h : List Obj) (src dst : TypeId) (x : V) : Option (V × List Obj) :=
  match P.underlying src, P.underlying dst, x with
  | some .string, some (.slice e), .d (.str s) =>
    match P.underlying e, sizeOf? P e with
    | some (.int .u8), some 1 => if s.size < 2147483648 then some (.arr h.length s.size, h ++ [.arr 1 (s.data.toList.map byteD) 0]) else none
    | _, _ => none
  | _, _, x => (readConvV P h src dst x).map fun v => (v, h)

def allSize (n : Nat) : List D → Bool
  | [] => true
  | x :: xs => x.cells.length == n && allSize n xs

def cut (xs : List D) (l h : Nat) : List D := (xs.take h).drop l

def natOf? : V → Option Nat
  | .d (.int _ n) => if 0 ≤ n then some n.toNat else none
  | _ => none

/-- s[lo:hi] over a list of len n: 0 ≤ lo ≤ hi ≤ n. -/
def bound? (d : Nat) : Option V → Option Nat
  | some v => natOf? v
  | none => some d

def bounds? (n : Nat) (lo hi : Option V) : Option (Nat × Nat) :=
  match bound? n hi, bound? 0 lo with
  | some h, some l => if l ≤ h ∧ h ≤ n then some (l, h) else none
  | _, _ => none

def sliceV (P : Program) (h : List Obj) (t : TypeId) (x : V) (lo hi mx : Option V) : Option V :=
  match P.underlying t, x, mx with
  | some .string, .d (.str s), none =>
    match bounds? s.size lo hi with
    | some (l, u) => some (.d (.str (s.extract l u)))
    | none => none
  | some (.slice e), .d (.list xs), none =>
    match bounds? xs.length lo hi, sizeOf? P e with
    | some (l, u), some sz => if l == 0 || allSize sz xs then some (.d (.list (cut xs l u))) else none
    | _, _ => none
  | some (.slice e), .nilS, none =>
    match bounds? 0 lo hi, sizeOf? P e with
    | some _, some _ => some .nilS
    | _, _ => none
  | some (.slice e), .arr id n, none =>
    match h[id]?, sizeOf? P e with
    | some (.arr sz xs wm), some sz' =>
      if n = xs.length ∧ wm = n ∧ sz = sz' then
        match bounds? n lo hi with
        | some (l, u) => some (.d (.list (cut xs l u)))
        | none => none
      else none
    | _, _ => none
  | _, _, _ => none

def fieldOff? (P : Program) (t : TypeId) (f : Nat) : Option (Nat × TypeId) :=
  match P.underlying t with
  | some (.struct fs) =>
    match fs[f]? with
    | some x =>
      match sizeOf? P x.type with
      | some (_ + 1) => some (x.offset, x.type)
      | _ => none
    | none => none
  | _ => none

def loadFrom (P : Program) (t : TypeId) (cs : List V) (off : Nat) : Option V :=
  match agg? P t with
  | some true =>
    match sizeOf? P t with
    | some n => if off + n ≤ cs.length then some (mkAgg ((cs.drop off).take n)) else none
    | none => none
  | some false => cs[off]?
  | none => none

def loadFromD (P : Program) (t : TypeId) (cs : List D) (off : Nat) : Option V :=
  match agg? P t with
  | some true =>
    match sizeOf? P t with
    | some n => if off + n ≤ cs.length then some (.d (.agg ((cs.drop off).take n))) else none
    | none => none
  | some false => (cs[off]?).map .d
  | none => none

def loadV (P : Program) (h : List Obj) (t : TypeId) (a : V) : Option V :=
  match a with
  | .ptr id off =>
    match h[id]? with
    | some (.box cs) => loadFrom P t cs off
    | _ => none
  | .eptr id n i off =>
    match h[id]? with
    | some (.arr _ xs _) =>
      if n = xs.length then
        match xs[i]? with
        | some x => loadFromD P t x.cells off
        | none => none
      else none
    | _ => none
  | .ro cs => loadFromD P t cs 0
  | _ => none

/-- cells cs with vs from off on. -/
def putCells {α : Type} (cs : List α) (off : Nat) (vs : List α) : List α := cs.take off ++ vs ++ cs.drop (off + vs.length)

def storeV (P : Program) (h : List Obj) (t : TypeId) (a v : V) : Option (List Obj) :=
  match a with
  | .ptr id off =>
    match h[id]? with
    | some (.box cs) =>
      match sizeOf? P t with
      | some n => if v.cells.length = n ∧ off + n ≤ cs.length ∧ v.storable then some (h.set id (.box (putCells cs off v.cells))) else none
      | none => none
    | _ => none
  | .eptr id n i off =>
    match pureV h v, sizeOf? P t with
    | some (y, h1), some m =>
      match h1[id]? with
      | some (.arr sz xs wm) =>
        match xs[i]? with
        | some x =>
          if n = xs.length ∧ wm ≤ i ∧ y.cells.length = m ∧ off + m ≤ sz then
            if m = sz then some (h1.set id (.arr sz (xs.set i y) wm))
            else some (h1.set id (.arr sz (xs.set i (.agg (putCells x.cells off y.cells))) wm))
          else none
        | none => none
      | _ => none
    | _, _ => none
  | _ => none

def indexAddrV (P : Program) (h : List Obj) (t : TypeId) (x i : V) : Option V :=
  match P.underlying t, i with
  | some (.slice e), .d (.int _ n) =>
    if 0 ≤ n then
      match x with
      | .d (.list xs) =>
        match xs[n.toNat]?, sizeOf? P e with
        | some x, some sz => if x.cells.length = sz then some (.ro x.cells) else none
        | _, _ => none
      | .arr id m =>
        match h[id]?, sizeOf? P e with
        | some (.arr sz xs _), some sz' => if m = xs.length ∧ n.toNat < m ∧ sz = sz' then some (.eptr id m n.toNat 0) else none
        | _, _ => none
      | _ => none
    else none
  | some (.array len e), .d (.int _ n) =>
    if 0 ≤ n ∧ n < len then
      match x, sizeOf? P e with
      | .ptr id off, some sz => some (.ptr id (off + n.toNat * sz))
      | .ro cs, some sz => some (.ro (cs.drop (n.toNat * sz)))
      | _, _ => none
    else none
  | _, _ => none

def fieldAddrV (P : Program) (t : TypeId) (x : V) (f : Nat) : Option V :=
  match fieldOff? P t f with
  | some (o, _) =>
    match x with
    | .ptr id off => some (.ptr id (off + o))
    | .eptr id n i off => some (.eptr id n i (off + o))
    | .ro cs => some (.ro (cs.drop o))
    | _ => none
  | none => none

def fieldV (P : Program) (t : TypeId) (x : V) (f : Nat) : Option V :=
  match fieldOff? P t f with
  | some (o, ft) =>
    match x with
    | .d (.agg cs) => loadFromD P ft cs o
    | .agg cs => loadFrom P ft cs o
    | _ => none
  | none => none

def indexV (P : Program) (t : TypeId) (x i : V) : Option V :=
  match P.underlying t, x, i with
  | some .string, .d (.str s), .d (.int _ n) =>
    if 0 ≤ n then (s[n.toNat]?).map fun b => .d (byteD b) else none
  | some (.array len e), x, .d (.int _ n) =>
    if 0 ≤ n ∧ n < len then
      match x, sizeOf? P e with
      | .d (.agg cs), some sz => loadFromD P e cs (n.toNat * sz)
      | .agg cs, some sz => loadFrom P e cs (n.toNat * sz)
      | _, _ => none
    else none
  | _, _, _ => none

/-- A struct's literal: its parts over the zero value's cells. -/
def fillV (place : Nat → Option (Nat × Nat)) (cs : List V) : List (Nat × V) → Option (List V)
  | [] => some cs
  | (i, v) :: rest =>
    match place i with
    | some (off, size) => if v.cells.length = size ∧ off + size ≤ cs.length ∧ v.storable then fillV place (putCells cs off v.cells) rest else none
    | none => none

def buildV (P : Program) (t : TypeId) (parts : List (Nat × V)) : Option V :=
  match zero? P t, P.underlying t with
  | some z, some (.struct fs) =>
    if (z.cells.toList.map constCell).all V.cellOk && fs.toList.all (fun f => (sizeOf? P f.type).isSome) then (fillV (fun i => (fs[i]?).bind fun f => (sizeOf? P f.type).map fun s => (f.offset, s)) (z.cells.toList.map constCell) parts).map mkAgg else none
  | some z, some (.array _ e) =>
    match sizeOf? P e with
    | some s => if (z.cells.toList.map constCell).all V.cellOk then (fillV (fun i => some (i * s, s)) (z.cells.toList.map constCell) parts).map mkAgg else none
    | none => none
  | _, _ => none

def zeroD? (P : Program) (t : TypeId) : Option D :=
  match zero? P t with
  | some (.agg cs) => (cs.toList.mapM constD?).map .agg
  | some z => constD? z
  | none => none

def inOrder : List (Nat × V) → Nat → Bool
  | [], _ => true
  | (i, _) :: r, k => i == k && inOrder r (k + 1)

def buildSliceV (P : Program) (h : List Obj) (t : TypeId) (len : Nat) (parts : List (Nat × V)) : Option (V × List Obj) :=
  match P.underlying t with
  | some (.slice e) =>
    match sizeOf? P e, zero? P e with
    | some sz, some _ =>
      if 0 < sz ∧ parts.length = len ∧ len * sz ≤ 65536 ∧ inOrder parts 0 then
        match pureVs h (parts.map (·.2)) with
        | some (xs, h1) => if allSize sz xs then some (.arr h1.length len, h1 ++ [.arr sz xs 0]) else none
        | none => none
      else none
    | _, _ => none
  | _ => none

def maxElems : Nat := 2147483648

def makeSliceV (P : Program) (h : List Obj) (t : TypeId) (l c : V) : Option (V × List Obj) :=
  match P.underlying t, l, c with
  | some (.slice e), .d (.int _ n), .d (.int _ m) =>
    match P.info? e, zeroD? P e with
    | some i, some z =>
      if 0 ≤ n ∧ n ≤ m ∧ m < 2147483648 ∧ i.bytes ≤ 65536 ∧ 0 < i.size ∧ z.cells.length = i.size then
        some (.arr h.length n.toNat, h ++ [.arr i.size (List.replicate n.toNat z) 0])
      else none
    | _, _ => none
  | _, _, _ => none

def lenV (P : Program) (h : List Obj) (t : TypeId) (x : V) : Option Nat :=
  match P.underlying t, x with
  | some .string, .d (.str s) => some s.size
  | some (.slice _), .d (.list xs) => some xs.length
  | some (.slice _), .nilS => some 0
  | some (.slice _), .arr id n =>
    match h[id]? with
    | some (.arr _ xs _) => if n = xs.length then some n else none
    | _ => none
  | some (.array n _), _ => some n
  | _, _ => none

/-- What is appended. -/
def source? (P : Program) (h : List Obj) (t : TypeId) (x : V) : Option (List D) :=
  match P.underlying t, x with
  | some .string, .d (.str s) => some (s.data.toList.map byteD)
  | some (.slice _), x => elems? h x
  | _, _ => none

def appendV (P : Program) (h : List Obj) (ts tx : TypeId) (s x : V) : Option (V × List Obj) :=
  match P.underlying ts with
  | some (.slice e) =>
    match P.info? e, source? P h tx x with
    | some i, some ys =>
      if i.zero.map (·.cells.size) = some i.size ∧ 0 < i.size ∧ i.bytes ≤ 65536 then
        match s with
        | .nilS => if ys.length < 2147483648 ∧ allSize i.size ys then some (.arr h.length ys.length, h ++ [.arr i.size ys 0]) else none
        | .arr id n =>
          match h[id]? with
          | some (.arr sz xs wm) =>
            if n = xs.length ∧ sz = i.size ∧ n + ys.length < 2147483648 ∧ allSize i.size ys then
              some (.arr id (n + ys.length), h.set id (.arr sz (xs ++ ys) wm))
            else none
          | _ => none
        | _ => none
      else none
    | _, _ => none
  | _ => none

def min2 : V → V → Option V
  | .d (.int k x), .d (.int k' y) => if k = k' then some (.d (.int k (if y < x then y else x))) else none
  | _, _ => none

def max2 : V → V → Option V
  | .d (.int k x), .d (.int k' y) => if k = k' then some (.d (.int k (if y > x then y else x))) else none
  | _, _ => none

def foldV (f : V → V → Option V) (x : V) : List V → Option V
  | [] => some x
  | y :: r => match f x y with | some z => foldV f z r | none => none

def builtinV (P : Program) (h : List Obj) (b : Builtin) (ts : List TypeId) (args : List V) : Option (V × List Obj) :=
  match b, ts, args with
  | .len, t :: _, x :: _ => (lenV P h t x).map fun (n : Nat) => (.d (.int .i64 (n : Int)), h)
  | .append, ts :: tx :: _, s :: x :: _ => appendV P h ts tx s x
  | .min, _, x :: rest => (foldV min2 x rest).map fun v => (v, h)
  | .max, _, x :: rest => (foldV max2 x rest).map fun v => (v, h)
  | _, _, _ => none

def assertV (P : Program) (x : V) (asserted : TypeId) (commaOk : Bool) : Option V :=
  match P.underlying asserted, x with
  | some (.interface _), _ => none
  | some _, .d .nilI => if commaOk then (zeroD? P asserted).map fun z => .tup [.d z, .d (.bool false)] else none
  | some _, .d (.iface t v) =>
    if t = asserted then some (if commaOk then .tup [.d v, .d (.bool true)] else .d v)
    else if commaOk then (zeroD? P asserted).map fun z => .tup [.d z, .d (.bool false)] else none
  | _, _ => none

/-! ### ids: renaming, reaching -/

def V.ren0 (f : Nat → Option Nat) : V → Option V
  | .arr id n => (f id).map fun i => .arr i n
  | .ptr id o => (f id).map fun j => .ptr j o
  | .eptr id n i o => (f id).map fun j => .eptr j n i o
  | .mp id => (f id).map fun i => .mp i
  | .d x => some (.d x)
  | .nilS => some .nilS
  | .ro cs => some (.ro cs)
  | .dead => some .dead
  | _ => none

def V.ren1 (f : Nat → Option Nat) : V → Option V
  | .clo g caps => (caps.mapM (V.ren0 f)).map (.clo g)
  | v => V.ren0 f v

/-- of a value that is no tuple -/
def V.ren2 (f : Nat → Option Nat) : V → Option V
  | .agg cs => (cs.mapM (V.ren1 f)).map .agg
  | v => V.ren1 f v

def V.ren (f : Nat → Option Nat) : V → Option V
  | .tup vs => (vs.mapM (V.ren2 f)).map .tup
  | v => V.ren2 f v

def Obj.ren (f : Nat → Option Nat) : Obj → Option Obj
  | .box cs => (cs.mapM (V.ren1 f)).map .box
  | o => some o

def V.ids0 : V → List Nat
  | .arr id _ => [id]
  | .ptr id _ => [id]
  | .eptr id _ _ _ => [id]
  | .mp id => [id]
  | _ => []

def V.ids1 : V → List Nat
  | .clo _ caps => caps.flatMap V.ids0
  | v => V.ids0 v

def V.ids2 : V → List Nat
  | .agg cs => cs.flatMap V.ids1
  | v => V.ids1 v

def V.ids : V → List Nat
  | .tup vs => vs.flatMap V.ids2
  | v => V.ids2 v

def Obj.ids : Obj → List Nat
  | .box cs => cs.flatMap V.ids1
  | _ => []

def addIds (acc : List Nat) : List Nat → List Nat
  | [] => acc
  | i :: r => addIds (if acc.contains i then acc else acc ++ [i]) r

def idsAt (h : List Obj) (i : Nat) : List Nat :=
  match h[i]? with
  | some o => o.ids
  | none => []

/-- From the ids in acc on, number pos and those behind it not yet looked into. -/
def close (h : List Obj) : Nat → Nat → List Nat → List Nat
  | 0, _, acc => acc
  | fuel + 1, pos, acc =>
    match acc[pos]? with
    | none => acc
    | some i => close h fuel (pos + 1) (addIds acc (idsAt h i))

def reach (h : List Obj) (acc : List Nat) : List Nat := close h (h.length + 1) 0 acc

abbrev Slots := List (Nat × V)

def sget : Slots → Nat → V
  | [], _ => .dead
  | (i, v) :: r, t => if i = t then v else sget r t

/-- The kept slots, in the order of keep; a nil slice among them becomes an own list of its own (of elements of sz cells) where sz is given. -/
def keepSlots (s : Slots) (h : List Obj) : List (Nat × Nat) → Slots × List Obj
  | [] => ([], h)
  | (t, sz) :: r =>
    match sget s t, sz with
    | .nilS, sz + 1 => let (s1, h1) := keepSlots s (h ++ [.arr (sz + 1) [] 0]) r; ((t, .arr h.length 0) :: s1, h1)
    | v, _ => let (s1, h1) := keepSlots s h r; ((t, v) :: s1, h1)

/-- Where a number stands in a list. -/
def place : List Nat → Nat → Option Nat
  | [], _ => none
  | x :: xs, i => if x = i then some 0 else (place xs i).map (· + 1)

def takeObjs (h : List Obj) (f : Nat → Option Nat) (ids : List Nat) : Option (List Obj) :=
  ids.mapM fun i => (h[i]?).bind (Obj.ren f)

def renSlots (f : Nat → Option Nat) (s : Slots) : Option Slots := s.mapM fun p => (V.ren f p.2).map fun v => (p.1, v)

/-- At a loop's head: slots that are not kept are forgotten, objects that nobody reaches are dropped; the first k stay where they are. -/
def norm (k : Nat) (keep : List (Nat × Nat)) (s : Slots) (h : List Obj) : Option (Slots × List Obj) :=
  let p := keepSlots s h keep
  let ids := reach p.2 (addIds (List.range k) (p.1.flatMap fun q => q.2.ids))
  let f := place ids
  match renSlots f p.1, takeObjs p.2 f ids with
  | some s2, some h2 => some (s2, h2)
  | _, _ => none

/-! ### calls -/

/-- An argument: data; or a pointer, a map, a function with what it captured. -/
def argV (h : List Obj) : V → Option (V × List Obj)
  | .ptr a b => some (.ptr a b, h)
  | .mp a => some (.mp a, h)
  | .clo f caps => some (.clo f caps, h)
  | .ro cs => some (.ro cs, h)
  | v => (pureV h v).map fun (x, h) => (.d x, h)

def argVs (h : List Obj) : List V → Option (List V × List Obj)
  | [] => some ([], h)
  | v :: vs =>
    match argV h v with
    | some (x, h1) =>
      match argVs h1 vs with
      | some (xs, h2) => some (x :: xs, h2)
      | none => none
    | none => none

def setAll {α : Type} (l : List α) : List Nat → List α → List α
  | i :: is, o :: os => setAll (l.set i o) is os
  | _, _ => l

/-- A callee's number of an object, as the caller's. -/
def back (ids : List Nat) (n : Nat) (j : Nat) : Option Nat :=
  match ids[j]? with
  | some i => some i
  | none => some (n + (j - ids.length))

def one : List V → V
  | [v] => v
  | vs => .tup vs

def callWith (run : FuncId → List V → List Obj → Option (List V × List Obj)) (f : FuncId) (args : List V) (h : List Obj) : Option (V × List Obj) :=
  match argVs h args with
  | none => none
  | some (as, h1) =>
    let ids := reach h1 (addIds [] (as.flatMap V.ids))
    let r := place ids
    match as.mapM (V.ren r), takeObjs h1 r ids with
    | some as2, some hin =>
      match run f as2 hin with
      | some (rets, hout) =>
        let g := back ids h1.length
        match rets.mapM (V.ren g), hout.mapM (Obj.ren g) with
        | some rets2, some hout2 =>
          some (one rets2, setAll h1 ids hout2 ++ hout2.drop ids.length)
        | _, _ => none
      | none => none
    | _, _ => none

/-! ### the end of a call -/

/-- A nil slice among the results is an own list of no elements. -/
def solid (P : Program) (h : List Obj) : List V → List TypeId → List V × List Obj
  | [], _ => ([], h)
  | v :: vs, ts =>
    match v with
    | .nilS => let p := solid P (h ++ [.arr (elemSize P (ts.headD 0)) [] 0]) vs ts.tail; (.arr h.length 0 :: p.1, p.2)
    | v => let p := solid P h vs ts.tail; (v :: p.1, p.2)

/-- Objects that nobody reaches are dropped; the first k stay where they are. -/
def finish (P : Program) (k : Nat) (ts : List TypeId) (vs : List V) (h : List Obj) : Option (List V × List Obj) :=
  let p := solid P h vs ts
  let kept := reach p.2 (addIds (List.range k) (p.1.flatMap V.ids))
  let f := place kept
  match p.1.mapM (V.ren2 f), takeObjs p.2 f kept with
  | some ws, some h2 => some (ws, h2)
  | _, _ => none

/-! ### operations, code -/

/-- bind, of which simp opens the second part only when the first one has come to an end -/
def obind {α β : Type} (x : Option α) (f : α → Option β) : Option β :=
  match x with
  | some a => f a
  | none => none

abbrev Run := FuncId → List V → List Obj → Option (List V × List Obj)

abbrev Hints := FuncId → Nat → List Nat

abbrev Keeps := FuncId → Nat → Option (List (Nat × Nat))

def isD : V → Bool
  | .d _ => true
  | _ => false

section
variable (P : Program) (G : Nat → Option (List D))

def ev (s : Slots) : Operand → V
  | .tmp t => sget s t
  | .const v => constV v
  | .global g => match G g with | some cs => .ro cs | none => .dead
  | .func f => .d (.fn f)

def calleeV (s : Slots) (h : List Obj) (run : Run) (f : V) (args : List V) : Option (V × List Obj) :=
  match f with
  | .d (.fn g) => callWith run g args h
  | .clo g caps => callWith run g (args ++ caps) h
  | _ => none

def nilCheckV (h : List Obj) : V → Option (V × List Obj)
  | .ptr id o => some (.ptr id o, h)
  | .eptr id n i o => some (.eptr id n i o, h)
  | .ro cs => some (.ro cs, h)
  | _ => none

def extractV (i : Nat) : V → Option V
  | .tup vs => vs[i]?
  | _ => none

def pickV (c a b : V) : Option V :=
  match c with
  | .d (.bool t) => some (if t then a else b)
  | _ => none

def ifaceV (h : List Obj) (t : TypeId) (x : V) : Option (V × List Obj) :=
  match P.underlying t with
  | some (.interface _) => none
  | some _ => (pureV h x).map fun (v, h) => (.d (.iface t v), h)
  | none => none

def allocV (h : List Obj) (t : TypeId) : Option (V × List Obj) :=
  match zero? P t with
  | some z => if (z.cells.toList.map constCell).all V.cellOk then some (.ptr h.length 0, h ++ [.box (z.cells.toList.map constCell)]) else none
  | none => none

def withH (h : List Obj) (x : Option V) : Option (V × List Obj) := x.map fun v => (v, h)

def opV (run : Run) (s : Slots) (h : List Obj) (o : Oper) : Option (V × List Obj) :=
  match o.op with
  | .move x => some (ev G s x, h)
  | .assign x => some (ev G s x, h)
  | .pick c a b => withH h (pickV (ev G s c) (ev G s a) (ev G s b))
  | .alloc t => allocV P h t
  | .box _ x => if (ev G s x).storable then some (.ptr h.length 0, h ++ [.box (ev G s x).cells]) else none
  | .build t parts => withH h (buildV P t (parts.toList.map fun p => (p.1, ev G s p.2)))
  | .buildSlice t len parts => buildSliceV P h t len (parts.toList.map fun p => (p.1, ev G s p.2))
  | .load t a => withH h (loadV P h t (ev G s a))
  | .store t a x => (storeV P h t (ev G s a) (ev G s x)).map fun h => (.tup [], h)
  | .nilCheck x => nilCheckV h (ev G s x)
  | .binOp op t x y _ => withH h ((binD P op t (ev G s x) (ev G s y)).map .d)
  | .unOp op _ x => withH h ((unD op (ev G s x)).map .d)
  | .convert src dst x => convV P h src dst (ev G s x)
  | .makeInterface t x => ifaceV P h t (ev G s x)
  | .makeFunc (.func f) first captured => if first.isEmpty && (captured.toList.map (ev G s)).all V.plain then some (.clo f (captured.toList.map (ev G s)), h) else none
  | .makeSlice t l c => makeSliceV P h t (ev G s l) (ev G s c)
  | .slice t x lo hi mx => withH h (sliceV P h t (ev G s x) (lo.map (ev G s)) (hi.map (ev G s)) (mx.map (ev G s)))
  | .fieldAddr t x f => withH h (fieldAddrV P t (ev G s x) f)
  | .field t x f => withH h (fieldV P t (ev G s x) f)
  | .indexAddr t x i => withH h (indexAddrV P h t (ev G s x) (ev G s i))
  | .index t x i => withH h (indexV P t (ev G s x) (ev G s i))
  | .typeAssert x _ asserted ok => withH h (assertV P (ev G s x) asserted ok)
  | .extract x i => withH h (extractV i (ev G s x))
  | .call c =>
    match c.callee with
    | .builtin b => builtinV P h b c.argTypes.toList (c.args.toList.map (ev G s))
    | .invoke _ _ => none
    | .value f => calleeV s h run (ev G s f) (c.args.toList.map (ev G s))
  | _ => none

def putV (s : Slots) (dst : Option Tmp) (v : V) : Slots :=
  match dst with
  | some d => (d, v) :: s
  | none => s

/-- Is an operation under a guard wanted? none: that can't be told. -/
def wantedV (ops : List Oper) (s : Slots) : Option (Nat × Bool) → Option Bool
  | none => some true
  | some (j, want) =>
    match (ops[j]?).bind (·.dst) with
    | none => some false
    | some d =>
      match sget s d with
      | .d (.bool b) => some (b == want)
      | .tup [] => some false
      | _ => none

/-- An operation that only reads, carried out with a look at the objects hv only. -/
def blindV (hv : List Obj) (s : Slots) (o : Oper) : Option V :=
  match o.op with
  | .load t a => loadV P hv t (ev G s a)
  | .slice t x lo hi mx => sliceV P hv t (ev G s x) (lo.map (ev G s)) (hi.map (ev G s)) (mx.map (ev G s))
  | .indexAddr t x i => indexAddrV P hv t (ev G s x) (ev G s i)
  | .convert src dst x => readConvV P hv src dst (ev G s x)
  | .call c =>
    match c.callee, c.argTypes.toList, c.args.toList.map (ev G s) with
    | .builtin .len, t :: _, x :: _ => (lenV P hv t x).map fun (n : Nat) => .d (.int .i64 (n : Int))
    | _, _, _ => none
  | _ => none

def argPure : V → Bool
  | .ptr _ _ | .mp _ | .clo _ _ => false
  | _ => true

/-- An operation that leaves every box as it is. -/
def mild (s : Slots) (o : Oper) : Bool :=
  match o.op with
  | .call c =>
    match c.callee with
    | .value f => (match ev G s f with | .d (.fn _) => true | _ => false) && (c.args.toList.map (ev G s)).all argPure
    | _ => true
  | .store _ _ _ => false
  | _ => true

/-- The boxes alone. -/
def view : List Obj → List Obj
  | [] => []
  | .box cs :: h => .box cs :: view h
  | _ :: h => .siter ⟨#[]⟩ 0 :: view h

def opsV (run : Run) (all : List Oper) (hint : List Nat) (hv : List Obj) : Nat → List Oper → Slots → List Obj → Option (Slots × List Obj)
  | _, [], s, h => some (s, h)
  | i, o :: rest, s, h =>
    obind (wantedV all s o.guard) fun w =>
    if w then
      obind (if hint.contains i then withH h (blindV P G hv s o) else if hint.isEmpty || mild G s o then opV P G run s h o else none) fun p =>
      opsV run all hint hv (i + 1) rest (putV s o.dst p.1) p.2
    else opsV run all hint hv (i + 1) rest (putV s o.dst (.tup [])) h

/-- Own lists that the slots hold stand still from here on. -/
def freezeAll (h : List Obj) : Slots → List Obj
  | [] => h
  | (_, v) :: s =>
    match pure1 h v with
    | some (_, h1) => freezeAll h1 s
    | none => freezeAll h s

/-- What comes of a piece of code. -/
abbrev Res := Option (Out × Slots × List Obj)

def onNormal (x : Res) (f : Slots → List Obj → Res) : Res :=
  match x with
  | some (.normal, s, h) => f s h
  | r => r

def iter (body : Slots → List Obj → Res) : Nat → Slots → List Obj → Res
  | 0, _, _ => none
  | n + 1, s, h => onNormal (body s h) (iter body n)

def branch (c : V) (x y : Res) : Res :=
  match c with
  | .d (.bool t) => if t then x else y
  | _ => none

def leave (id : Nat) : Res → Res
  | some (.exit i, s, h) => if i = id then some (.normal, s, h) else some (.exit i, s, h)
  | r => r

def hasSlice (ops : List Oper) : Bool := ops.any fun o => match o.op with | .slice .. => true | _ => false
def hasStore (ops : List Oper) : Bool := ops.any fun o => match o.op with | .store .. => true | _ => false

def regionV (run : Run) (hint : List Nat) (ops : List Oper) (draw : Bool) (s : Slots) (h : List Obj) : Res :=
  obind (some (if hasSlice ops && !hasStore ops then freezeAll h s else h)) fun h => obind (opsV P G run ops (if draw then hint else []) (view h) 0 ops s h) fun p => some (.normal, p.1, p.2)

variable (K : Keeps) (S : Hints)

def codeV (run : Run) (loopI : (Slots → List Obj → Res) → Slots → List Obj → Res) (F : FuncId) (k : Nat) : Nat → Code → Slots → List Obj → Res
  | _, .skip, s, h => some (.normal, s, h)
  | _, .region id ops draw, s, h => regionV P G run (S F id) ops.toList draw s h
  | b, .seq x y, s, h => onNormal (codeV run loopI F k b x s h) fun s1 h1 => codeV run loopI F k b y s1 h1
  | b, .cond c x y, s, h => branch (ev G s c) (codeV run loopI F k b x s h) (codeV run loopI F k b y s h)
  | _, .block id c, s, h => leave id (codeV run loopI F k id c s h)
  | b, .loop c, s, h =>
    match K F b with
    | some keep => loopI (fun s h => obind (norm k keep s h) fun p => codeV run loopI F k b c p.1 p.2) s h
    | none => loopI (fun s h => codeV run loopI F k b c s h) s h
  | _, .exit id, s, h => some (.exit id, s, h)
  | _, .ret, s, h => some (.ret, s, h)
  | _, _, _, _ => none

def resV (s : Slots) (h : List Obj) : List ResultVar → Option (List V)
  | [] => some []
  | .tmp t :: r => (resV s h r).map fun vs => sget s t :: vs
  | .cell a t :: r =>
    match loadV P h t (sget s a), resV s h r with
    | some v, some vs => some (v :: vs)
    | _, _ => none

def startSlots : Nat → List V → Slots
  | _, [] => []
  | i, v :: vs => (i, v) :: startSlots (i + 1) vs

def endV (fn : Func) (k : Nat) (r : Res) : Option (List V × List Obj) :=
  match r with
  | some (.normal, s, h) | some (.ret, s, h) => obind (resV P s h fn.results.toList) fun vs => finish P k fn.resultTypes.toList vs h
  | _ => none

end

/-! ### what is asked of a function's text, once -/

inductive Class where
  | still | reads | loud
  deriving DecidableEq

def classOf (P : Program) (o : Oper) : Class := match o.op with
  | .move _ | .assign _ | .pick .. | .nilCheck _ | .binOp .. | .unOp .. | .fieldAddr .. | .extract .. | .field .. | .index .. | .typeAssert .. | .build .. => .still
  | .load .. | .indexAddr .. | .slice .. => .reads
  | .convert _ dst _ => match P.underlying dst with | some (.int _) => .still | some .string => .reads | _ => .loud
  | .call c => match c.callee with | .builtin .len => .reads | .builtin .min => .still | .builtin .max => .still | _ => .loud
  | _ => .loud

/-- The operations that must have come up ahead of each one. -/
def ancestors : List Oper → List (List Nat) → List (List Nat)
  | [], acc => acc
  | o :: r, acc => ancestors r (acc ++ [o.after.toList.foldl (fun s e => if Region.binds .any e then addIds (addIds s [e.on]) (acc.getD e.on []) else s) []])

def fitsPair (P : Program) (hint : List Nat) (ops : List Oper) (i j : Nat) : Bool :=
  match ops[i]?, ops[j]? with
  | some x, some y =>
    x.apart ops.toArray y &&
    (match classOf P x, classOf P y with
     | .still, _ => true
     | _, .still => true
     | .reads, .reads => true
     | .reads, .loud => hint.contains i
     | .loud, .reads => hint.contains j
     | .loud, .loud => false)
  | _, _ => false

/-- May the operations of a region that draws its order be taken as they stand: do any two commute, of which neither must wait for the other? -/
def drawOk (P : Program) (hint : List Nat) (ops : List Oper) : Bool :=
  let anc := ancestors ops []
  (List.range ops.length).all fun j =>
    (anc.getD j []).all (· < j) && (List.range j).all fun i => (anc.getD j []).contains i || fitsPair P hint ops i j

def codeOk (P : Program) (hint : Nat → List Nat) (nt : Nat) : Code → Bool
  | .region id ops draw => ops.toList.all (fun o => match o.dst with | some d => d < nt | none => true) && (!draw || drawOk P (hint id) ops.toList)
  | .seq x y => codeOk P hint nt x && codeOk P hint nt y
  | .cond _ x y => codeOk P hint nt x && codeOk P hint nt y
  | .block _ c => codeOk P hint nt c
  | .loop c => codeOk P hint nt c
  | _ => true

section
variable (P : Program) (G : Nat → Option (List D)) (K : Keeps) (S : Hints)

/-- One call: the body with whatever runs its callees and its loops. -/
def bodyV (run : Run) (loopI : (Slots → List Obj → Res) → Slots → List Obj → Res) (f : FuncId) (args : List V) (h : List Obj) : Option (List V × List Obj) :=
  match P.funcs[f]? with
  | none => none
  | some fn =>
    match fn.body with
    | none => none
    | some c =>
      if codeOk P (S f) fn.ntmps c && args.length ≤ fn.ntmps && !(fn.name == "runtime.NumGoroutine") then
        endV P fn h.length (codeV P G K S run loopI f h.length 0 c (startSlots 0 args) h)
      else none

def runV : Nat → Run
  | 0 => fun _ _ _ => none
  | n + 1 => fun f args h => bodyV P G K S (runV n) (fun body => iter body n) f args h
end

end Go.Am
