/- The abstract layer, part 2: the evaluator. -/
import Derived.Test.YticccdaomgildaaGreatDoorAbs1
namespace Go.Abs
open Go
noncomputable section

/-! ### Constants -/
def toAV0 : Value → AV
  | .bool b => .bool b
  | .int k n => .int k n
  | .string s => .str (bytesOf s)
  | .pointer none => .nilptr
  | .slice none 0 0 => .nilsl
  | .map none => .nilmap
  | .nilFunc => .nilfunc
  | .nilIface => .nilif
  | _ => .junk
def toAV : Value → AV
  | .agg cs => .agg (cs.toList.map toAV0)
  | v => toAV0 v

def opnd (t : Env) : Operand → AV
  | .tmp i => (t.get i).getD .junk
  | .const v => toAV v
  | .global _ => .junk
  | .func f => .func (.func f) [] []

/-- One cell, and we know it. -/
def oneA : AV → Bool
  | .junk | .agg _ | .tup _ => false
  | _ => true

/-- The cells of a value (none: we do not know how many). -/
def cellsA : AV → Option (List AV)
  | .junk => none
  | .agg l => some l
  | v => some [v]

def tsize (P : Program) (t : TypeId) : Option Nat := (P.info? t).map (·.size)
def tzero (P : Program) (t : TypeId) : Option Value := (P.info? t).bind (·.zero)
def aggT : TypeDesc → Bool
  | .struct _ | .array _ _ => true
  | _ => false

/-- A part of a row of cells, as a value. -/
def partA (P : Program) (t : TypeId) (cs : List AV) (off : Nat) : Option AV := do
  let d ← P.underlying t
  if aggT d then do
    let n ← tsize P t
    if off + n ≤ cs.length then some (.agg ((cs.drop off).take n)) else none
  else cs[off]?

/-- Cells written into a row from a place on. -/
def putCells (cs : List AV) (off : Nat) (vs : List AV) : List AV := cs.take off ++ vs ++ cs.drop (off + vs.length)

def fillA (place : Nat → Option (Nat × Nat)) (cells : List AV) : List (Nat × AV) → Option (List AV)
  | [] => some cells
  | (i, v) :: rest => do
    let (off, size) ← place i
    let vs ← cellsA v
    if vs.length = size && off + size ≤ cells.length then fillA place (putCells cells off vs) rest else none

/-! ### Operators -/
def lessA : List Nat → List Nat → Bool
  | _, [] => false
  | [], _ :: _ => true
  | a :: x, b :: y => Nat.blt a b || (Nat.beq a b && lessA x y)
def eqL : List Nat → List Nat → Bool
  | [], [] => true
  | a :: x, b :: y => Nat.beq a b && eqL x y
  | _, _ => false

def intA (op : BinOp) (k : IntKind) (x y : Int) : Option AV :=
  match op with
  | .add => some (.int k (k.wrap (x + y)))
  | .sub => some (.int k (k.wrap (x - y)))
  | .mul => some (.int k (k.wrap (x * y)))
  | .quo => if y = 0 then none else some (.int k (k.wrap (x.tdiv y)))
  | .rem => if y = 0 then none else some (.int k (x.tmod y))
  | .and => some (.int k (k.wrap (BitVec.ofInt k.bits x &&& BitVec.ofInt k.bits y).toNat))
  | .or => some (.int k (k.wrap (BitVec.ofInt k.bits x ||| BitVec.ofInt k.bits y).toNat))
  | .xor => some (.int k (k.wrap (BitVec.ofInt k.bits x ^^^ BitVec.ofInt k.bits y).toNat))
  | .andNot => some (.int k (k.wrap (BitVec.ofInt k.bits x &&& ~~~ BitVec.ofInt k.bits y).toNat))
  | .eql => some (.bool (x == y))
  | .neq => some (.bool (x != y))
  | .lss => some (.bool (x < y))
  | .leq => some (.bool (x ≤ y))
  | .gtr => some (.bool (x > y))
  | .geq => some (.bool (x ≥ y))
  | _ => none

def shiftA (op : BinOp) (k : IntKind) (x y : Int) : Option AV :=
  if y < 0 then none else
  match op with
  | .shl => some (.int k (k.wrap (x * 2 ^ (min y.toNat k.bits))))
  | .shr => some (.int k (x.fdiv (2 ^ (min y.toNat k.bits))))
  | _ => none

def strA (op : BinOp) (x y : List Nat) : Option AV :=
  match op with
  | .add => if ((x.length + y.length : Nat) : Int) > IntKind.i64.max then none else some (.str (x ++ y))
  | .eql => some (.bool (eqL x y))
  | .neq => some (.bool !(eqL x y))
  | .lss => some (.bool (lessA x y))
  | .leq => some (.bool (lessA x y || eqL x y))
  | .gtr => some (.bool !(lessA x y || eqL x y))
  | .geq => some (.bool !(lessA x y))
  | _ => none

/-- A block that only its own pointers lead to, and whose end nobody marks. -/
def plainBlock (h : AH) (id : Nat) : Bool :=
  match h.get id with
  | some (.cells _ true false) => true
  | _ => false

def eqFs (P : Program) (eq : TypeId → AV → AV → Option Bool) (xs ys : List AV) : List Field → Option Bool
  | [] => some true
  | f :: r =>
    if f.name = "_" then eqFs P eq xs ys r else do
      let a ← partA P f.type xs f.offset
      let b ← partA P f.type ys f.offset
      let e ← eq f.type a b
      if e then eqFs P eq xs ys r else some false
def eqEs (P : Program) (eq : TypeId → AV → AV → Option Bool) (t : TypeId) (sz : Nat) (xs ys : List AV) : Nat → Nat → Option Bool
  | 0, _ => some true
  | n + 1, i => do
      let a ← partA P t xs (i * sz)
      let b ← partA P t ys (i * sz)
      let e ← eq t a b
      if e then eqEs P eq t sz xs ys n (i + 1) else some false
def eqA (P : Program) (h : AH) : Nat → TypeId → AV → AV → Option Bool
  | 0, _, _, _ => none
  | d + 1, t, x, y =>
    match P.underlying t, x, y with
    | some .bool, .bool a, .bool b => some (a == b)
    | some (.int _), .int k a, .int k' b => if k = k' then some (a == b) else none
    | some .string, .str a, .str b => some (eqL a b)
    | some (.pointer _), .nilptr, .nilptr => some true
    | some (.pointer _), .nilptr, .ptr _ _ => some false
    | some (.pointer _), .ptr _ _, .nilptr => some false
    | some (.pointer e), .ptr i a, .ptr j b =>
      if (P.info? e).isNone || tsize P e == some 0 then none
      else if i = j then some (Nat.beq a b)
      else if plainBlock h i && plainBlock h j then some false else none
    | some (.slice _), .nilsl, .nilsl => some true
    | some (.slice _), .nilsl, .sl _ _ _ _ _ => some false
    | some (.slice _), .sl _ _ _ _ _, .nilsl => some false
    | some (.map _ _), .nilmap, .nilmap => some true
    | some (.map _ _), .nilmap, .map _ => some false
    | some (.map _ _), .map _, .nilmap => some false
    | some (.func _ _ _), .nilfunc, .nilfunc => some true
    | some (.func _ _ _), .nilfunc, .func _ _ _ => some false
    | some (.func _ _ _), .func _ _ _, .nilfunc => some false
    | some (.struct fs), .agg xs, .agg ys => if P.stoodInHeld t then none else eqFs P (eqA P h d) xs ys fs.toList
    | some (.array n e), .agg xs, .agg ys => do
      let sz ← tsize P e
      eqEs P (eqA P h d) e sz xs ys n 0
    | _, _, _ => none

def isNilif : AV → Bool
  | .nilif => true
  | _ => false

/-- Whether the guard at '==' has nothing to say. -/
def eqOk (P : Program) (t : TypeId) : AV → AV → Bool
  | .nilif, .nilif => false
  | .junk, _ | _, .junk => false
  | .agg _, .agg _ => !(P.eqGuardType P.depth t)
  | _, _ => true

def binA (P : Program) (h : AH) (op : BinOp) (t : TypeId) (x y : AV) : Option AV :=
  match op, x, y with
  | .shl, .int k a, .int _ b => shiftA .shl k a b
  | .shr, .int k a, .int _ b => shiftA .shr k a b
  | op, .int k a, .int k' b => if k = k' then intA op k a b else none
  | op, .str a, .str b => strA op a b
  | .eql, x, y => if eqOk P t x y then (eqA P h 12 t x y).map fun e => .bool e else none
  | .neq, x, y => if eqOk P t x y then (eqA P h 12 t x y).map fun e => .bool !e else none
  | _, _, _ => none

def unA (op : UnOp) (x : AV) : Option AV :=
  match op, x with
  | .neg, .int k n => some (.int k (k.wrap (0 - n)))
  | .xor, .int k n => some (.int k (k.wrap (BitVec.ofInt k.bits (if k.signed then -1 else k.max) ^^^ BitVec.ofInt k.bits n).toNat))
  | .not, .bool b => some (.bool !b)
  | _, _ => none

/-! ### Reading slices -/
def bytesA : List AV → Option (List Nat)
  | [] => some []
  | .int .u8 n :: r => match n with
    | .ofNat m => if m < 256 then (bytesA r).map (m :: ·) else none
    | _ => none
  | _ :: _ => none

def cellsAt (h : AH) (id off n : Nat) : Option (List AV) :=
  match h.get id with
  | some (.cells cs _ _) => if off + n ≤ cs.length then some ((cs.drop off).take n) else none
  | _ => none

/-- The first n elements' cells of a slice or a string. -/
def firstA (h : AH) (size n : Nat) : AV → Option (List AV)
  | .nilsl => if n = 0 then some [] else none
  | .sl id off len sz _ => if sz = size && n ≤ len then cellsAt h id off (n * size) else none
  | .str s => if size = 1 then some ((s.take n).map fun (b : Nat) => AV.int .u8 b) else none
  | _ => none
def lenA : AV → Option Nat
  | .nilsl => some 0
  | .sl _ _ len _ _ => some len
  | .str s => some s.length
  | _ => none

def ownBlock (h : AH) (id : Nat) : Bool :=
  match h.get id with
  | some (.cells _ true _) => true
  | _ => false
def textBlock (h : AH) (id : Nat) : Bool :=
  match h.get id with
  | some (.cells _ _ t) => t
  | _ => false

/-! ### Maps -/
def scalarA : AV → Bool
  | .bool _ | .int _ _ | .str _ => true
  | _ => false
/-- A value without addresses, all known. -/
def simpleA : AV → Bool
  | .agg l => l.all scalarA
  | a => scalarA a
def sameScalar : AV → AV → Bool
  | .bool a, .bool b => a == b
  | .int j a, .int k b => j == k && a == b
  | .str a, .str b => eqL a b
  | _, _ => false
def sameList : List AV → List AV → Bool
  | [], [] => true
  | a :: l, b :: m => sameScalar a b && sameList l m
  | _, _ => false
def diffScalar : AV → AV → Bool
  | .bool a, .bool b => !(a == b)
  | .int j a, .int k b => !(j == k && a == b)
  | .str a, .str b => !eqL a b
  | _, _ => false
def diffList : List AV → List AV → Bool
  | a :: l, b :: m => diffScalar a b || diffList l m
  | _, _ => false
/-- Surely two values. -/
def diffSimple : AV → AV → Bool
  | .agg l, .agg m => diffList l m
  | a, b => diffScalar a b
def diffAll (k : AV) : List (AV × AV) → Bool
  | [] => true
  | e :: l => diffSimple e.1 k && diffAll k l
def sameSimple : AV → AV → Bool
  | .agg l, .agg m => sameList l m
  | a, b => sameScalar a b

def checkFs (P : Program) (ck : TypeId → AV → Bool) (cs : List AV) : List Field → Bool
  | [] => true
  | f :: r => if f.name = "_" then checkFs P ck cs r else
    match partA P f.type cs f.offset with
    | some a => ck f.type a && checkFs P ck cs r
    | none => false
def checkEs (P : Program) (ck : TypeId → AV → Bool) (t : TypeId) (sz : Nat) (cs : List AV) : Nat → Nat → Bool
  | 0, _ => true
  | n + 1, i =>
    match partA P t cs (i * sz) with
    | some a => ck t a && checkEs P ck t sz cs n (i + 1)
    | none => false
/-- A key that can be one. -/
def checkA (P : Program) : Nat → TypeId → AV → Bool
  | 0, _, _ => false
  | d + 1, t, x =>
    match P.underlying t, x with
    | some (.array n e), .agg cs => match tsize P e with
      | some sz => checkEs P (checkA P d) e sz cs n 0
      | none => false
    | some (.struct fs), .agg cs => checkFs P (checkA P d) cs fs.toList
    | some .bool, .bool _ => true
    | some (.int _), .int _ _ => true
    | some .string, .str _ => true
    | _, _ => false

def findA (P : Program) (h : AH) (t : TypeId) (k : AV) : List (AV × AV) → Nat → Option (Option (Nat × AV × AV))
  | [], _ => some none
  | (k', v) :: r, i => do
    let e ← eqA P h 12 t k k'
    if e then some (some (i, k', v)) else findA P h t k r (i + 1)

/-! ### Operations -/
inductive ORes where
  | val (v : AV) (h : AH)
  | skip (h : AH)
  | call (f : FuncId) (args : List AV)
  | yield (id : Nat) (args : List AV)

def val? (h : AH) : Option AV → Option ORes
  | some v => some (.val v h)
  | none => none

def newCells (h : AH) (cs : List AV) (text : Bool) (mk : Nat → AV) : Option ORes :=
  some (.val (mk h.nx) (h.new (.cells cs true text)))

def evLoad (P : Program) (h : AH) (t : TypeId) (x : AV) : Option AV :=
  match x with
  | .ptr id off =>
    match h.get id, P.underlying t with
    | some (.cells cs _ _), some d =>
      if aggT d then
        match tsize P t with
        | some n => if off + n ≤ cs.length then some (.agg ((cs.drop off).take n)) else none
        | none => none
      else cs[off]?
    | _, _ => none
  | _ => none

def evStore (P : Program) (h : AH) (t : TypeId) (x v : AV) : Option AH :=
  match x, cellsA v with
  | .ptr id off, some vs =>
    match h.get id with
    | some (.cells cs true text) =>
      if tsize P t == some vs.length && off + vs.length ≤ cs.length && vs.all oneA then some (h.put id (.cells (putCells cs off vs) true text)) else none
    | _ => none
  | _, _ => none

/-- i in [0, n): as a natural number. -/
def below (i : Int) (n : Nat) : Option Nat :=
  match i with
  | .ofNat m => if m < n then some m else none
  | _ => none
/-- i in [0, n]. -/
def upTo (i : Int) (n : Nat) : Option Nat :=
  match i with
  | .ofNat m => if m ≤ n then some m else none
  | _ => none

def boundA (n : Nat) : AV → Option Nat
  | .int _ i => upTo i n
  | _ => none

/-- The bounds of a slice expression: low, high, what is left of the capacity (none: not known). cap: the capacity if it is known. -/
def boundsA (len : Nat) (cap : Option Nat) (low high max : Option AV) : Option (Nat × Nat × Option Nat) := do
  let top := cap.getD len
  let m ← match max with
    | some v => (boundA top v).map some
    | none => some cap
  let hi ← match high, max with
    | some v, some _ => boundA (m.getD 0) v
    | some v, none => boundA top v
    | none, none => some len
    | none, some _ => none
  let lo ← match low with
    | some v => boundA hi v
    | none => some 0
  some (lo, hi, m.map (· - lo))

/-- A stretch of cells lies within its block. -/
def fitsA (h : AH) (id off n : Nat) : Bool :=
  match h.get id with
  | some (.cells cs _ _) => off + n ≤ cs.length
  | _ => false

def evSlice (P : Program) (h : AH) (t : TypeId) (x : AV) (low high max : Option AV) : Option AV := do
  match P.underlying t, x with
  | some .string, .str s =>
    if max.isSome then none else do
      let (l, hi, _) ← boundsA s.length (some s.length) low high none
      some (.str ((s.drop l).take (hi - l)))
  | some (.slice e), .nilsl => do
      let (l, hi, _) ← boundsA 0 (some 0) low high max
      if l = 0 && hi = 0 && (tsize P e).isSome then some .nilsl else none
  | some (.slice e), .sl id off len sz cap => do
      let n ← tsize P e
      if n = sz then do
        let (l, hi, c) ← boundsA len cap low high max
        some (.sl id (off + l * sz) (hi - l) sz c)
      else none
  | some (.array n e), .ptr id off => do
      let sz ← tsize P e
      let (l, hi, c) ← boundsA n (some n) low high max
      if fitsA h id off (n * sz) then some (.sl id (off + l * sz) (hi - l) sz c) else none
  | _, _ => none

def evIndexAddr (P : Program) (t : TypeId) (x i : AV) : Option AV := do
  match P.underlying t, x, i with
  | some (.array n e), .ptr id off, .int _ i => do
      let sz ← tsize P e
      let k ← below i n
      some (.ptr id (off + k * sz))
  | some (.slice e), .sl id off len sz _, .int _ i => do
      let n ← tsize P e
      let k ← below i len
      if n = sz then some (.ptr id (off + k * sz)) else none
  | _, _, _ => none

def evIndex (P : Program) (t : TypeId) (x i : AV) : Option AV := do
  match P.underlying t, x, i with
  | some (.array n e), .agg cs, .int _ i => do
      let sz ← tsize P e
      let k ← below i n
      partA P e cs (k * sz)
  | some .string, .str s, .int _ i => do
      let k ← below i s.length
      let b ← s[k]?
      some (.int .u8 b)
  | _, _, _ => none

def fieldsA (P : Program) (fs : List Field) : Option (List (Nat × Nat)) :=
  fs.mapM fun f => (tsize P f.type).map fun n => (f.offset, n)

def evBuild (P : Program) (t : TypeId) (parts : List (Nat × AV)) : Option AV := do
  let z ← tzero P t
  let zc ← cellsA (toAV z)
  match P.underlying t with
  | some (.struct fs) => do
      let places ← fieldsA P fs.toList
      let cells ← fillA (places[·]?) zc parts
      some (.agg cells)
  | some (.array _ e) => do
      let sz ← tsize P e
      let cells ← fillA (fun i => some (i * sz, sz)) zc parts
      some (.agg cells)
  | _ => none

def repCells (zc : List AV) : Nat → List AV
  | 0 => []
  | n + 1 => zc ++ repCells zc n

/-- What makes a block: the block, and the value that leads to it. -/
def bsA (P : Program) (t : TypeId) (len : Nat) (parts : List (Nat × AV)) : Option (AO × (Nat → AV)) := do
  match P.underlying t with
  | some (.slice e) => do
      let sz ← tsize P e
      if len * sz > 2 ^ 24 then none else do
        let z ← tzero P e
        let zc ← cellsA (toAV z)
        if zc.length = sz then do
          let cells ← fillA (fun i => some (i * sz, sz)) (repCells zc len) parts
          some (.cells cells true (len * sz == 0), fun id => .sl id 0 len sz (some len))
        else none
  | _ => none

def msA (P : Program) (t : TypeId) (l c : AV) : Option (AO × (Nat → AV)) := do
  match P.underlying t, l, c with
  | some (.slice e), .int _ (.ofNat l), .int _ (.ofNat c) => do
      let i ← P.info? e
      let z ← i.zero
      let zc ← cellsA (toAV z)
      if l ≤ c && i.bytes * c ≤ 2 ^ 40 && c ≤ 2 ^ 40 && zc.length = i.size then
        some (.cells (repCells zc c) true (c * i.size == 0), fun id => .sl id 0 l i.size (some c))
      else none
  | _, _, _ => none

def allocA (P : Program) (E : Operand → AV) : Op → Option (AO × (Nat → AV))
  | .alloc e => do
      let z ← tzero P e
      let cs ← cellsA (toAV z)
      some (.cells cs true cs.isEmpty, fun id => .ptr id 0)
  | .box _ x => do
      let cs ← cellsA (E x)
      some (.cells cs true cs.isEmpty, fun id => .ptr id 0)
  | .buildSlice t len parts => bsA P t len (parts.toList.map fun (i, x) => (i, E x))
  | .makeSlice t l c => msA P t (E l) (E c)
  | .makeMap t r => match P.underlying t, r.map E with
    | _, none => some (.map [] [] 0, .map)
    | some (.map _ _), some (.int _ _) => some (.map [] [] 0, .map)
    | _, _ => none
  | _ => none

def allocated (h : AH) : Option (AO × (Nat → AV)) → Option ORes
  | some (ob, mk) => some (.val (mk h.nx) (h.new ob))
  | none => none

/-- What is appended: how many elements, and their cells. -/
def appendedA (P : Program) (h : AH) (i : TypeInfo) (zc : List AV) (xt : TypeId) (x : AV) : Option (Nat × List AV) := do
  let dx ← P.underlying xt
  match dx, x with
  | .int _, .int _ (.ofNat n) => if n ≤ 2 ^ 40 && n * i.bytes ≤ 2 ^ 40 then some (n, repCells zc n) else none
  | .int _, _ => none
  | _, _ => do
    let n ← lenA x
    let new ← firstA h i.size n x
    some (n, new)

def evAppend (P : Program) (h : AH) (argTypes : Array TypeId) (s x : AV) : Option ORes := do
  let st ← argTypes[0]?
  let xt ← argTypes[1]?
  match P.underlying st with
  | some (.slice e) => do
      let i ← P.info? e
      let z ← i.zero
      let zc ← cellsA (toAV z)
      if zc.length != i.size || i.size = 0 then none else do
      let (n, new) ← appendedA P h i zc xt x
      let len ← lenA s
      let old ← firstA h i.size len s
      if n = 0 then (match s with | .str _ => none | _ => some (.val s h)) else
      if !(new.all oneA) then none else
      if (2 * (len + n) + 1000) * i.bytes > 2 ^ 40 || len + n > 2 ^ 40 then none else
      match s with
      | .nilsl => newCells h new false fun id => .sl id 0 n i.size none
      | .sl id off _ _ (some c) =>
        if c < len + n then newCells h (old ++ new) false fun id => .sl id 0 (len + n) i.size none
        else if ownBlock h id then newCells (h.del id) (old ++ new) (textBlock h id || !(Nat.beq off 0)) fun id => .sl id 0 (len + n) i.size none else none
      | .sl id off _ _ none =>
        if ownBlock h id then newCells (h.del id) (old ++ new) (textBlock h id || !(Nat.beq off 0)) fun id => .sl id 0 (len + n) i.size none else none
      | _ => none
  | _ => none

def evCopy (P : Program) (h : AH) (argTypes : Array TypeId) (d s : AV) : Option ORes := do
  let dt ← argTypes[0]?
  match P.underlying dt with
  | some (.slice e) => do
      let sz ← tsize P e
      let n ← lenA s
      let m ← lenA d
      let k := Nat.min n m
      let new ← firstA h sz k s
      match d with
      | .nilsl => some (.val (.int .i64 k) h)
      | .sl id off _ dsz _ =>
        match h.get id with
        | some (.cells cs true text) =>
          if dsz = sz && off + new.length ≤ cs.length && new.all oneA then some (.val (.int .i64 k) (h.put id (.cells (putCells cs off new) true text))) else none
        | _ => none
      | _ => none
  | _ => none

def evLen (P : Program) (h : AH) (argTypes : Array TypeId) (x : AV) : Option AV := do
  let t ← argTypes[0]?
  match P.underlying t, x with
  | some .string, .str s => some (.int .i64 s.length)
  | some (.array n _), _ => some (.int .i64 n)
  | some (.slice _), .nilsl => some (.int .i64 0)
  | some (.slice _), .sl _ _ n _ _ => some (.int .i64 n)
  | some (.map _ _), .nilmap => some (.int .i64 0)
  | some (.map _ _), .map id => match h.get id with
    | some (.map es _ _) => some (.int .i64 es.length)
    | _ => none
  | some (.pointer a), _ => match P.underlying a with
    | some (.array n _) => some (.int .i64 n)
    | _ => none
  | _, _ => none

def evCap (P : Program) (argTypes : Array TypeId) (x : AV) : Option AV := do
  let t ← argTypes[0]?
  match P.underlying t, x with
  | some (.slice _), .nilsl => some (.int .i64 0)
  | some (.slice _), .sl _ _ _ _ (some c) => some (.int .i64 c)
  | _, _ => none

def max2A : AV → AV → Option AV
  | .int k x, .int _ y => some (.int k (if y > x then y else x))
  | _, _ => none
def min2A : AV → AV → Option AV
  | .int k x, .int _ y => some (.int k (if y < x then y else x))
  | _, _ => none
def foldA (f : AV → AV → Option AV) : AV → List AV → Option AV
  | x, [] => some x
  | x, y :: r => (f x y).bind fun z => foldA f z r
def maxA : List AV → Option AV
  | x :: y :: r => foldA max2A x (y :: r)
  | _ => none
def minA : List AV → Option AV
  | x :: y :: r => foldA min2A x (y :: r)
  | _ => none

def eraseNth : List (AV × AV) → Nat → List (AV × AV)
  | [], _ => []
  | _ :: l, 0 => l
  | x :: l, n + 1 => x :: eraseNth l n
def setNth (x : AV × AV) : List (AV × AV) → Nat → List (AV × AV)
  | [], _ => []
  | _ :: l, 0 => x :: l
  | y :: l, n + 1 => y :: setNth x l n

def evClear (P : Program) (h : AH) (argTypes : Array TypeId) (x : AV) : Option ORes := do
  let t ← argTypes[0]?
  match P.underlying t, x with
  | some _, .nilmap => some (.val (.tup []) h)
  | some _, .nilsl => some (.val (.tup []) h)
  | some _, .map id => match h.get id with
    | some (.map _ _ ck) => some (.val (.tup []) (h.put id (.map [] [] ck)))
    | _ => none
  | some (.slice e), .sl id off n sz _ => do
    if n = 0 then some (.val (.tup []) h) else do
    let z ← tzero P e
    let zc ← cellsA (toAV z)
    match h.get id with
    | some (.cells cs true text) =>
      if zc.length = sz && zc.all oneA && off + n * sz ≤ cs.length then some (.val (.tup []) (h.put id (.cells (putCells cs off (repCells zc n)) true text))) else none
    | _ => none
  | _, _ => none

def evDelete (P : Program) (h : AH) (argTypes : Array TypeId) (m k : AV) : Option ORes := do
  let t ← argTypes[0]?
  match P.underlying t with
  | some (.map kt _) =>
    if !(checkA P 12 kt k) then none else
    match m with
    | .nilmap => some (.val (.tup []) h)
    | .map id => match h.get id with
      | some (.map es bs ck) => do
          let r ← findA P h kt k es 0
          match r with
          | some (i, _, _) => some (.val (.tup []) (h.put id (.map (eraseNth es i) (bs.eraseIdx i) ck)))
          | none => some (.val (.tup []) h)
      | _ => none
    | _ => none
  | _ => none

def lookRes (P : Program) (et : TypeId) : Option (Nat × AV × AV) → Option (AV × Bool)
  | some (_, _, v) => some (v, true)
  | none => (tzero P et).map fun z => (toAV z, false)

def evLookup (P : Program) (h : AH) (t : TypeId) (m k : AV) (ok : Bool) : Option AV := do
  match P.underlying t with
  | some (.map kt et) =>
    if !(checkA P 12 kt k) then none else do
    let es ← match m with
      | .nilmap => some []
      | .map id => match h.get id with
        | some (.map es _ _) => some es
        | _ => none
      | _ => none
    let r ← findA P h kt k es 0
    let (v, b) ← lookRes P et r
    some (if ok then .tup [v, .bool b] else v)
  | _ => none

def evMapUpdate (P : Program) (h : AH) (t : TypeId) (m k v : AV) : Option ORes := do
  match P.underlying t, m with
  | some (.map kt _), .map id => match h.get id with
    | some (.map es bs ck) =>
      if !(checkA P 12 kt k) || !(simpleA k) then none else do
      let r ← findA P h kt k es 0
      match r with
      | some (i, k', _) => if simpleA k' && sameSimple k' k then some (.skip (h.put id (.map (setNth (k, v) es i) bs ck))) else none
      | none => if diffAll k es then some (.skip (h.put id (.map (es ++ [(k, v)]) (bs ++ [ck]) (ck + 1)))) else none
    | _ => none
  | _, _ => none

/-- A method of a type that is not promoted: its function, if the receiver is handed over as it is. -/
def methodA (P : Program) (t : TypeId) (name : String) : Option FuncId := do
  let i ← P.info? t
  let m ← i.methods.find? (·.name == name)
  if !m.path.isEmpty then none else
  match m.func with
  | some (f, pr) => do
      let d ← P.underlying t
      match d, pr with
      | .pointer _, true => some f
      | .pointer _, false => none
      | _, true => none
      | _, false => some f
  | none => none

def bodied (P : Program) (f : FuncId) : Bool :=
  match P.funcs[f]? with
  | some fn => fn.body.isSome && !(fn.name == "runtime.NumGoroutine")
  | none => false

def evInvoke (P : Program) (fn : Fn) (args captured : List AV) : Option ORes :=
  match fn with
  | .func f => some (.call f (args ++ captured))
  | .methodOf t name => do
      let x ← args.head?
      match x with
      | .junk => none
      | _ => do
        let d ← P.underlying t
        match d with
        | .interface _ => none
        | _ => do
          let f ← methodA P t name
          some (.call f (x :: args.tail))
  | .method name => do
      let x ← args.head?
      match x with
      | .iface t v => do
          let f ← methodA P t name
          some (.call f (v :: args.tail))
      | _ => none
  | _ => none

def evCall (P : Program) (h : AH) (E : Operand → AV) (c : Call) : Option ORes :=
  let args := c.args.toList.map E
  match c.callee with
  | .builtin b =>
    match b, args with
    | .append, [s, x] => evAppend P h c.argTypes s x
    | .copy, [d, s] => evCopy P h c.argTypes d s
    | .len, [x] => val? h (evLen P h c.argTypes x)
    | .cap, [x] => val? h (evCap P c.argTypes x)
    | .clear, [x] => evClear P h c.argTypes x
    | .delete, [m, k] => evDelete P h c.argTypes m k
    | .max, l => val? h (maxA l)
    | .min, l => val? h (minA l)
    | _, _ => none
  | .invoke r name => evInvoke P (.method name) (E r :: args) []
  | .value f =>
    match E f with
    | .func fn first captured => evInvoke P fn (first ++ args) captured
    | .yld id => some (.yield id args)
    | _ => none

def evConvert (P : Program) (h : AH) (src dst : TypeId) (x : AV) : Option ORes :=
  match P.underlying src, P.underlying dst, x with
  | some _, some (.int k), .int _ n => val? h (some (.int k (k.wrap n)))
  | some _, some .string, .str _ => val? h (some x)
  | some _, some (.slice e), .str s =>
    match P.underlying e with
    | some (.int .u8) => newCells h (s.map fun (b : Nat) => AV.int .u8 b) true fun id => .sl id 0 s.length 1 none
    | _ => none
  | some (.slice _), some (.slice e), .sl id off len sz c =>
    match P.underlying e, h.get id with
    | some (.int .u8), some (.cells cs true _) => if src = dst && 0 < len then some (.val (.sl id off len sz c) (h.put id (.cells cs true true))) else none
    | _, _ => none
  | some (.slice e), some .string, x =>
    match P.underlying e with
    | some (.int .u8) => do
      let n ← lenA x
      match x with
      | .str _ => none
      | _ => do
        let cs ← firstA h 1 n x
        let bs ← bytesA cs
        some (.val (.str bs) h)
    | _ => none
  | _, _, _ => none

/-- The next sign of a text that is ranged over. -/
def evNext (h : AH) (it : AV) : Option ORes :=
  match it with
  | .ptr id 0 => match h.get id with
    | some (.sit s pos) => match s[pos]? with
      | none => some (.val (.tup [.bool false]) h)
      | some c => if c < 128 then some (.val (.tup [.bool true, .int .i64 (pos : Nat), .int .i32 (c : Nat)]) (h.put id (.sit s (pos + 1)))) else none
    | _ => none
  | _ => none
def evRange (P : Program) (h : AH) (t : TypeId) (x : AV) : Option ORes :=
  match P.underlying t, x with
  | some .string, .str s => some (.val (.ptr h.nx 0) (h.new (.sit s 0)))
  | some (.map _ _), .nilmap => some (.val (.ptr h.nx 0) (h.new (.mit none 0 [] 0)))
  | some (.map _ _), .map m => match h.get m with
    | some (.map _ _ ck) => some (.val (.ptr h.nx 0) (h.new (.mit (some m) ck [] ck)))
    | _ => none
  | _, _ => none
/-- What a walk over a map did not meet yet. -/
def leftA : List (AV × AV) → List Nat → List Nat → List ((AV × AV) × Nat)
  | e :: es, b :: bs, seen => cond (seen.contains b) (leftA es bs seen) ((e, b) :: leftA es bs seen)
  | _, _, _ => []
def bornAt : List (AV × AV) → List Nat → Nat → Option AV
  | (k, v) :: es, c :: bs, b => if c = b then some (.tup [k, v]) else bornAt es bs b
  | _, _, _ => none
/-- The entry at which a walk over a map is. -/
def evEntry (h : AH) (it : AV) : Option AV :=
  match it with
  | .ptr id 0 => match h.get id with
    | some (.mit (some m) _ seen last) => match seen.getLast?, h.get m with
      | some b, some (.map es bs ck) => if ck = last then bornAt es bs b else none
      | _, _ => none
    | _ => none
  | _ => none
/-- The next entry of a map that is walked over, where there is no choice. -/
def evNextMap (h : AH) (it : AV) : Option ORes :=
  match it with
  | .ptr id 0 => match h.get id with
    | some (.mit none _ _ _) => some (.val (.tup [.bool false]) h)
    | some (.mit (some m) since seen last) => match h.get m with
      | some (.map es bs ck) =>
        if (!seen.isEmpty && !bs.isEmpty && bs.all fun b => decide (b ≥ last)) = true then none else
        match leftA es bs seen with
        | [] => some (.val (.tup [.bool false]) h)
        | [((k, v), b)] => if b < since then some (.val (.tup [.bool true, k, v]) (h.put id (.mit (some m) since (seen ++ [b]) ck))) else none
        | _ => none
      | _ => none
    | _ => none
  | _ => none

def evOper (P : Program) (E : Operand → AV) (o : Oper) (h : AH) : Option ORes :=
  match o.op with
  | .move x | .assign x => some (.val (E x) h)
  | .pick c a b => match E c with
    | .bool t => some (.val (if t then E a else E b) h)
    | _ => none
  | .alloc e => allocated h (allocA P E (.alloc e))
  | .box e x => allocated h (allocA P E (.box e x))
  | .build t parts => val? h (evBuild P t (parts.toList.map fun (i, x) => (i, E x)))
  | .buildSlice t len parts => allocated h (allocA P E (.buildSlice t len parts))
  | .load t a => val? h (evLoad P h t (E a))
  | .store t a x => (evStore P h t (E a) (E x)).map .skip
  | .nilCheck x => match E x with
    | .ptr i o => some (.val (.ptr i o) h)
    | .func fn f c => match fn with
      | .method _ => none
      | _ => some (.val (.func fn f c) h)
    | .map i => some (.val (.map i) h)
    | _ => none
  | .binOp op t x y _ => val? h (binA P h op t (E x) (E y))
  | .unOp op _ x => val? h (unA op (E x))
  | .convert src dst x => evConvert P h src dst (E x)
  | .makeInterface t x => match P.underlying t with
    | some (.interface _) => none
    | some _ => some (.val (.iface t (E x)) h)
    | none => none
  | .makeFunc fn first captured => if plainFn fn then some (.val (.func fn (first.toList.map E) (captured.toList.map E)) h) else none
  | .makeMap t r => allocated h (allocA P E (.makeMap t r))
  | .makeSlice t l c => allocated h (allocA P E (.makeSlice t l c))
  | .slice t x lo hi mx => val? h (evSlice P h t (E x) (lo.map E) (hi.map E) (mx.map E))
  | .fieldAddr t x f => match P.underlying t, E x with
    | some (.struct fs), .ptr id off => match fs[f]? with
      | some fd => match tsize P fd.type with
        | some (_ + 1) => some (.val (.ptr id (off + fd.offset)) h)
        | _ => none
      | none => none
    | _, _ => none
  | .field t x f => match P.underlying t, E x with
    | some (.struct fs), .agg cs => match fs[f]? with
      | some fd => val? h (partA P fd.type cs fd.offset)
      | none => none
    | _, _ => none
  | .indexAddr t x i => val? h (evIndexAddr P t (E x) (E i))
  | .index t x i => val? h (evIndex P t (E x) (E i))
  | .lookup t x i ok => val? h (evLookup P h t (E x) (E i) ok)
  | .mapUpdate t m k x => evMapUpdate P h t (E m) (E k) (E x)
  | .insert t m k x => evMapUpdate P h t (E m) (E k) (E x)
  | .typeAssert x _ asserted ok => match P.underlying asserted, E x with
    | some (.interface _), _ => none
    | some _, .iface t v => if t = asserted then some (.val (if ok then .tup [v, .bool true] else v) h) else none
    | _, _ => none
  | .extract x i => match E x with
    | .tup l => val? h l[i]?
    | _ => none
  | .call c => evCall P h E c
  | .range t x => evRange P h t (E x)
  | .next it b => if b then evNext h (E it) else evNextMap h (E it)
  | .entry it => val? h (evEntry h (E it))
  | .sliceToArrayPointer dst x => match P.underlying dst, E x with
    | some (.array n _), .sl id off len _ _ => if 0 < n ∧ n ≤ len then some (.val (.ptr id off) h) else none
    | _, _ => none
  | _ => none

/-! ### Code -/
inductive Ex where
  | normal
  | exit (id : Nat)
  | ret

structure St where
  t : Env
  h : AH
  d : List Nat     -- marks among the deferred calls

structure Rec where
  call : FuncId → List AV → AH → Option (AV × AH)
  round : Nat → List AV → AH → Option (AV × AH)
  loop : Option Nat → FuncId → Nat → Code → St → Option (Ex × St)

def putA (n : Nat) (t : Env) (dst : Option Tmp) (v : AV) : Option Env :=
  match dst with
  | none => some t
  | some d => if d < n then some (t.set d (some v)) else none

/-- Whether an operation is wanted (none: we do not know). -/
def wantedA (ops : Array Oper) (t : Env) (o : Oper) : Option Bool :=
  match o.guard with
  | none => some true
  | some (j, w) => match (ops[j]?).bind (·.dst) with
    | none => some false
    | some d => match t.get d with
      | some (.bool b) => some (b == w)
      | some .junk => none
      | none => none
      | _ => some false

def evOp1 (P : Program) (R : Rec) (n : Nat) (ops : Array Oper) (o : Oper) (t : Env) (h : AH) : Option (Env × AH) :=
  match wantedA ops t o with
  | some true => match evOper P (opnd t) o h with
    | some (.val v h') => (putA n t o.dst v).map (·, h')
    | some (.skip h') => (putA n t o.dst (.tup [])).map (·, h')
    | some (.call f args) => match R.call f args h with
      | some (v, h') => (putA n t o.dst v).map (·, h')
      | none => none
    | some (.yield id args) => match R.round id args h with
      | some (v, h') => (putA n t o.dst v).map (·, h')
      | none => none
    | none => none
  | some false => (putA n t o.dst (.tup [])).map (·, h)
  | none => none

def evOps (P : Program) (R : Rec) (n : Nat) (ops : Array Oper) : List Oper → Env → AH → Option (Env × AH)
  | [], t, h => some (t, h)
  | o :: r, t, h => match evOp1 P R n ops o t h with
    | some (t', h') => evOps P R n ops r t' h'
    | none => none

/-! ### A region that draws its order -/
/-- 0: of the temporaries alone. 1: of the heap too, which stays. 2: a new block. 3: the rest. -/
def clsOf (P : Program) : Op → Nat
  | .move _ | .assign _ | .pick .. | .build .. | .nilCheck _ | .unOp .. | .makeInterface .. | .makeFunc .. | .fieldAddr .. | .field .. | .indexAddr .. | .index .. | .extract .. | .typeAssert .. => 0
  | .load .. | .lookup .. => 1
  | .binOp _ t _ _ _ => match P.underlying t with
    | some (.int _) => 0
    | _ => 1
  | .slice t _ _ _ _ => match P.underlying t with
    | some (.slice _) => 0
    | some .string => 0
    | _ => 1
  | .convert _ dst _ => match P.underlying dst with
    | some (.int _) => 1
    | some .string => 1
    | _ => 3
  | .call c => match c.callee with
    | .builtin .len => 1
    | .builtin .cap => 1
    | .builtin .max => 1
    | .builtin .min => 1
    | _ => 3
  | .alloc _ | .box .. | .buildSlice .. | .makeMap .. | .makeSlice .. => 2
  | _ => 3

def mbit (m i : Nat) : Bool := Nat.beq (Nat.shiftRight m i % 2) 1

/-- Who stands before an operation, by way of the edges. -/
def edgeMask (ms : List Nat) (i : Nat) : List Edge → Nat → Option Nat
  | [], m => some m
  | e :: r, m => if Region.binds .any e then (if e.on < i then edgeMask ms i r (Nat.lor m (Nat.lor (2 ^ e.on) (ms.getD e.on 0))) else none) else edgeMask ms i r m

def statAt (P : Program) (ops : Array Oper) (o : Oper) (m : Nat) : Nat → List Oper → Bool
  | _, [] => true
  | j, p :: r => (mbit m j || (p.apart ops o && !(Nat.beq (clsOf P o.op) 3 && Nat.ble 2 (clsOf P p.op)))) && statAt P ops o m (j + 1) r

def pairsAt (P : Program) (o : Oper) (m i : Nat) : Nat → List Oper → List (Nat × Nat)
  | _, [] => []
  | j, p :: r => if !(mbit m j) && ((Nat.beq (clsOf P o.op) 1 && Nat.beq (clsOf P p.op) 3) || (Nat.beq (clsOf P o.op) 3 && Nat.beq (clsOf P p.op) 1)) then (j, i) :: pairsAt P o m i (j + 1) r else pairsAt P o m i (j + 1) r

def statGo (P : Program) (ops : Array Oper) : List Oper → Nat → List Oper → List Nat → List (Nat × Nat) → Option (List (Nat × Nat))
  | [], _, _, _, acc => some acc
  | o :: r, i, prev, ms, acc => match edgeMask ms i o.after.toList 0 with
    | none => none
    | some m => if statAt P ops o m 0 prev then statGo P ops r (i + 1) (prev ++ [o]) (ms ++ [m]) (acc ++ pairsAt P o m i 0 prev) else none

def restr (t : Env) : List Tmp → Env → Env
  | [], e => e
  | d :: l, e => restr t l (match t.get d with
    | some v => e.set d (some v)
    | none => e)

def sameL (f : AV → AV → Bool) : List AV → List AV → Bool
  | [], [] => true
  | a :: l, b :: m => f a b && sameL f l m
  | _, _ => false

def sameAV : Nat → AV → AV → Bool
  | 0, _, _ => false
  | _ + 1, .bool a, .bool b => a == b
  | _ + 1, .int k a, .int k' b => decide (k = k') && decide (a = b)
  | _ + 1, .str a, .str b => decide (a = b)
  | _ + 1, .nilptr, .nilptr => true
  | _ + 1, .ptr i a, .ptr j b => Nat.beq i j && Nat.beq a b
  | _ + 1, .nilsl, .nilsl => true
  | _ + 1, .sl i a l s c, .sl j b l' s' c' => Nat.beq i j && (Nat.beq a b && (Nat.beq l l' && (Nat.beq s s' && decide (c = c'))))
  | _ + 1, .nilmap, .nilmap => true
  | _ + 1, .map i, .map j => Nat.beq i j
  | _ + 1, .nilfunc, .nilfunc => true
  | f + 1, .iface t v, .iface t' v' => decide (t = t') && sameAV f v v'
  | _ + 1, .nilif, .nilif => true
  | f + 1, .agg l, .agg m => sameL (sameAV f) l m
  | f + 1, .tup l, .tup m => sameL (sameAV f) l m
  | _, _, _ => false

structure DS where
  t : Env
  h : AH
  pend : List (Nat × AO)

def absorb : List (Nat × AO) → AH → AH
  | [], h => h
  | (id, o) :: r, h => absorb r (h.put id o)

def backA (t : Env) (dst : Option Tmp) (t' : Env) : Env :=
  match dst with
  | none => t
  | some d => t.set d (t'.get d)

def drawStep (P : Program) (R : Rec) (n : Nat) (ops : Array Oper) (base i : Nat) (o : Oper) (s : DS) : Option DS :=
  match clsOf P o.op with
  | 2 => match wantedA ops (restr s.t (o.looksAt ops) .nil) o with
    | some true => match allocA P (opnd (restr s.t (o.looksAt ops) .nil)) o.op with
      | some (ob, mk) => match putA n s.t o.dst (mk (base + i)) with
        | some t' => some { t := t', h := s.h, pend := s.pend ++ [(base + i, ob)] }
        | none => none
      | none => none
    | some false => match putA n s.t o.dst (.tup []) with
      | some t' => some { t := t', h := s.h, pend := s.pend }
      | none => none
    | none => none
  | 3 => match evOp1 P R n ops o (restr s.t (o.looksAt ops) .nil) (absorb s.pend s.h) with
    | some (t', h') => some { t := backA s.t o.dst t', h := h', pend := [] }
    | none => none
  | _ => match evOp1 P R n ops o (restr s.t (o.looksAt ops) .nil) s.h with
    | some (t', _) => some { t := backA s.t o.dst t', h := s.h, pend := s.pend }
    | none => none

def drawGo (P : Program) (R : Rec) (n : Nat) (ops : Array Oper) (base : Nat) : List Oper → Nat → DS → Option (List DS)
  | [], _, s => some [s]
  | o :: r, i, s => match drawStep P R n ops base i o s with
    | some s' => match drawGo P R n ops base r (i + 1) s' with
      | some l => some (s :: l)
      | none => none
    | none => none

/-- The operation yields at another state of the heap what it yields at its place. -/
def sameAt (P : Program) (R : Rec) (n : Nat) (ops : Array Oper) (i : Nat) (t t' : Env) (h : AH) : Bool :=
  match ops[i]? with
  | some o => match evOp1 P R n ops o (restr t (o.looksAt ops) .nil) h with
    | some (t2, _) => match o.dst with
      | none => true
      | some d => match t2.get d, t'.get d with
        | some a, some b => sameAV 20 a b
        | _, _ => false
    | none => false
  | none => false

def sameAll (P : Program) (R : Rec) (n : Nat) (ops : Array Oper) (ss : List DS) : List (Nat × Nat) → Bool
  | [] => true
  | (j, i) :: r => (match ops[i]?, ss[i]?, ss[i + 1]?, ss[j]?, ss[j + 1]? with
    | some o, some si, some si', some sj, some sj' => if Nat.beq (clsOf P o.op) 1 then sameAt P R n ops i si.t si'.t sj.h else sameAt P R n ops j sj.t sj'.t si'.h
    | _, _, _, _, _ => false) && sameAll P R n ops ss r

def evDraw (P : Program) (R : Rec) (n : Nat) (ops : Array Oper) (t : Env) (h : AH) : Option (Env × AH) :=
  if P.follows .mixedOrders then
    match statGo P ops ops.toList 0 [] [] [] with
    | none => none
    | some prs => match drawGo P R n ops h.nx ops.toList 0 { t, h := { h with nx := h.nx + ops.size }, pend := [] } with
      | none => none
      | some ss => if sameAll P R n ops ss prs then
          match ss[ops.size]? with
          | some s => some (s.t, absorb s.pend s.h)
          | none => none
        else none
  else none

def setArgs : List Tmp → List AV → Nat → Env → Option Env
  | [], [], _, t => some t
  | p :: ps, a :: as, n, t => if p < n then setArgs ps as n (t.set p (some a)) else none
  | _, _, _, _ => none

/-- Where the record of a loop over a function goes: the block for the deferred calls of its rounds. -/
def loopHead : Option Nat → St → Option (Nat × AH × List Nat)
  | none, s => some (s.h.nx, s.h.new (.defs true), s.h.nx :: s.d)
  | some l, s => match s.h.get l with
    | some (.loop _ _ _ _ _ _ _ _ d) => some (d, s.h, s.d)
    | _ => none

/-- When the function that was ranged over has returned. -/
def loopTail (t : Env) (ds : List Nat) (l : Nat) (h3 : AH) : Option (Ex × St) :=
  match h3.get l with
  | some (.loop .busy _ _ _ _ _ _ _ _) => none
  | some (.loop _ pend fn' t' n' ps' a' b' d') =>
    let s' : St := { t, h := h3.put l (.loop .exhausted pend fn' t' n' ps' a' b' d'), d := ds }
    match pend with
    | none => some (.normal, s')
    | some .ret => some (.ret, s')
    | some (.exit id) => some (.exit id, s')
    | some _ => none
  | _ => none

def evCode (P : Program) (R : Rec) (r : Option Nat) (fn : FuncId) (n : Nat) : Code → St → Option (Ex × St)
  | .skip, s => some (.normal, s)
  | .label _, s => some (.normal, s)
  | .scope c, s => evCode P R r fn n c s
  | .region _ ops false, s => match evOps P R n ops ops.toList s.t s.h with
    | some (t, h) => some (.normal, { s with t, h })
    | none => none
  | .region _ ops true, s => match evDraw P R n ops s.t s.h with
    | some (t, h) => some (.normal, { s with t, h })
    | none => none
  | .seq a b, s => match evCode P R r fn n a s with
    | some (.normal, s') => evCode P R r fn n b s'
    | x => x
  | .cond c a b, s => match opnd s.t c with
    | .bool t => cond t (evCode P R r fn n a s) (evCode P R r fn n b s)
    | _ => none
  | .block id c, s => match evCode P R r fn n c s with
    | some (.exit j, s') => some (cond (Nat.beq j id) .normal (.exit j), s')
    | x => x
  | .loop c, s => R.loop r fn n c s
  | .exit id, s => some (.exit id, s)
  | .ret, s => some (.ret, s)
  | .rangeFunc g ps assign body, s =>
    match loopHead r s with
    | some (d, h1, ds) =>
      match opnd s.t g with
      | .func (.func f) first captured =>
        if bodied P f then
          match R.call f (first ++ [.yld h1.nx] ++ captured) (h1.new (.loop .ready none fn s.t n ps assign body d)) with
          | some (_, h3) => loopTail s.t ds h1.nx h3
          | none => none
        else none
      | _ => none
    | none => none
  | _, _ => none

/-- The marks are taken: no call was deferred in a round. -/
def takeMarks : List Nat → AH → Option AH
  | [], h => some h
  | d :: l, h => match h.get d with
    | some (.defs true) => takeMarks l (h.put d (.defs false))
    | _ => none

def argsEnv : List AV → Nat → Env → Env
  | [], _, t => t
  | a :: l, i, t => argsEnv l (i + 1) (t.set i (some a))

def resultA (P : Program) (h : AH) (t : Env) : ResultVar → Option AV
  | .tmp i => some ((t.get i).getD .junk)
  | .cell a ty => evLoad P h ty ((t.get a).getD .junk)

def resultsA (P : Program) (h : AH) (t : Env) (rs : List ResultVar) : Option AV :=
  match rs.mapM (resultA P h t) with
  | some [v] => some v
  | some l => some (.tup l)
  | none => none

def nTmps (fn : Func) (args : List AV) : Nat := args.length + (fn.ntmps - args.length)

/-- What is known of functions beforehand. -/
abbrev Sums := FuncId → List AV → AH → Option (AV × AH)

def evFn (P : Program) (S : Sums) (R : Rec) (f : FuncId) (args : List AV) (h : AH) : Option (AV × AH) :=
  match S f args h with
  | some r => some r
  | none =>
    if !(bodied P f) then none else
    match P.funcs[f]? with
    | some fn => match fn.body with
      | some c => match evCode P R none f (nTmps fn args) c { t := argsEnv args 0 .nil, h, d := [] } with
        | some (.exit _, _) => none
        | some (_, s) => match takeMarks s.d s.h with
          | some h' => (resultsA P h' s.t fn.results.toList).map (·, h')
          | none => none
        | none => none
      | none => none
    | none => none

def evRound (P : Program) (R : Rec) (l : Nat) (args : List AV) (h : AH) : Option (AV × AH) :=
  match h.get l with
  | some (.loop _ _ fn t n ps assign body _) => match setArgs ps.toList args n t with
    | some t' => match evCode P R (some l) fn n assign { t := t', h, d := [] } with
      | some (.normal, s1) => match s1.h.get l with
        | some (.loop .ready pend fn1 t1 n1 ps1 a1 b1 d1) =>
          match evCode P R (some l) fn n body { s1 with h := s1.h.put l (.loop .busy pend fn1 t1 n1 ps1 a1 b1 d1) } with
          | some (ex, s2) => match s2.h.get l with
            | some (.loop _ _ fn2 t2 n2 ps2 a2 b2 d2) => match ex with
              | .normal => some (.bool true, s2.h.put l (.loop .ready none fn2 t2 n2 ps2 a2 b2 d2))
              | .ret => some (.bool false, s2.h.put l (.loop .done (some .ret) fn2 t2 n2 ps2 a2 b2 d2))
              | .exit id => some (.bool false, s2.h.put l (.loop .done (some (.exit id)) fn2 t2 n2 ps2 a2 b2 d2))
            | _ => none
          | none => none
        | _ => none
      | _ => none
    | none => none
  | _ => none

def evN (P : Program) (S : Sums) : Nat → Rec
  | 0 => { call := fun _ _ _ => none, round := fun _ _ _ => none, loop := fun _ _ _ _ _ => none }
  | k + 1 => let R := evN P S k
    { call := evFn P S R
      round := evRound P R
      loop := fun r fn n c s => match evCode P R r fn n c s with
        | some (.normal, s') => R.loop r fn n c s'
        | x => x }

end
end Go.Abs
