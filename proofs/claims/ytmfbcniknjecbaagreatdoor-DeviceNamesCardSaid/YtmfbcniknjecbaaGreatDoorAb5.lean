/- The abstract layer, parts 30 to 32. Conditions: none. -/
import Derived.Test.YtmfbcniknjecbaaGreatDoorAb4
import Derived.ChangeReads
import Derived.DataReads
import Derived.ChangeArms
import Derived.OpenShut

section
namespace Go.Abs
open Go
set_option linter.unusedVariables false
noncomputable section

abbrev Res := Option (Ex × St)

def optE {α : Type} (o : Option α) (k : α → Res) : Res := @Option.rec α (fun _ => Res) none k o
def boolE (b : Bool) (x y : Res) : Res := @Bool.rec (fun _ => Res) y x b
def oB (x : Option (AV × AH)) (K : AV → AH → Res) : Res := @Option.rec (AV × AH) (fun _ => Res) none (fun p => @Prod.rec AV AH (fun _ => Res) K p) x
structure GetS where run : Env → AV
def opndS : Operand → GetS
  | .tmp i => ⟨fun t => @Option.rec AV (fun _ => AV) .junk (fun v => v) ((getT AV i).run t)⟩
  | .const v => ⟨fun _ => toAV v⟩
  | .global _ => ⟨fun _ => .junk⟩
  | .func f => ⟨fun _ => .func (.func f) [] []⟩

structure GetL where run : Env → List AV
def opndsS (l : List Operand) : GetL := @List.rec Operand (fun _ => GetL) ⟨fun _ => []⟩ (fun x _ ih => ⟨fun t => (opndS x).run t :: ih.run t⟩) l

/-! ### Looking into a value -/
def boolV (x : AV) (k : Bool → Res) : Res :=
  @AV.rec (fun _ => Res) (fun _ => Unit) none (fun b => k b) (fun _ _ => none) (fun _ => none) none (fun _ _ => none) none (fun _ _ _ _ _ => none) none (fun _ => none) (fun _ _ _ _ _ => none) (fun _ => none) none (fun _ _ _ => none) none (fun _ _ => none) (fun _ _ => none) () (fun _ _ _ _ => ()) x
def intV (x : AV) (z : Res) (k : IntKind → Int → Res) : Res :=
  @AV.rec (fun _ => Res) (fun _ => Unit) z (fun _ => z) (fun q n => k q n) (fun _ => z) z (fun _ _ => z) z (fun _ _ _ _ _ => z) z (fun _ => z) (fun _ _ _ _ _ => z) (fun _ => z) z (fun _ _ _ => z) z (fun _ _ => z) (fun _ _ => z) () (fun _ _ _ _ => ()) x
def ptrV (x : AV) (z : Res) (k : Nat → Nat → Res) : Res :=
  @AV.rec (fun _ => Res) (fun _ => Unit) z (fun _ => z) (fun _ _ => z) (fun _ => z) z (fun i o => k i o) z (fun _ _ _ _ _ => z) z (fun _ => z) (fun _ _ _ _ _ => z) (fun _ => z) z (fun _ _ _ => z) z (fun _ _ => z) (fun _ _ => z) () (fun _ _ _ _ => ()) x
def slV (x : AV) (z : Res) (k : Nat → Nat → Nat → Nat → Res) : Res :=
  @AV.rec (fun _ => Res) (fun _ => Unit) z (fun _ => z) (fun _ _ => z) (fun _ => z) z (fun _ _ => z) z (fun i o l s _ => k i o l s) z (fun _ => z) (fun _ _ _ _ _ => z) (fun _ => z) z (fun _ _ _ => z) z (fun _ _ => z) (fun _ _ => z) () (fun _ _ _ _ => ()) x
def aggV (x : AV) (z : Res) (k : List AV → Res) : Res :=
  @AV.rec (fun _ => Res) (fun _ => Unit) z (fun _ => z) (fun _ _ => z) (fun _ => z) z (fun _ _ => z) z (fun _ _ _ _ _ => z) z (fun _ => z) (fun _ _ _ _ _ => z) (fun _ => z) z (fun _ _ _ => z) z (fun l _ => k l) (fun _ _ => z) () (fun _ _ _ _ => ()) x
def tupV (x : AV) (z : Res) (k : List AV → Res) : Res :=
  @AV.rec (fun _ => Res) (fun _ => Unit) z (fun _ => z) (fun _ _ => z) (fun _ => z) z (fun _ _ => z) z (fun _ _ _ _ _ => z) z (fun _ => z) (fun _ _ _ _ _ => z) (fun _ => z) z (fun _ _ _ => z) z (fun _ _ => z) (fun l _ => k l) () (fun _ _ _ _ => ()) x
def oneV (x : AV) (y z : Res) : Res :=
  @AV.rec (fun _ => Res) (fun _ => Unit) z (fun _ => y) (fun _ _ => y) (fun _ => y) y (fun _ _ => y) y (fun _ _ _ _ _ => y) y (fun _ => y) (fun _ _ _ _ _ => y) (fun _ => y) y (fun _ _ _ => y) y (fun _ _ => z) (fun _ _ => z) () (fun _ _ _ _ => ()) x
def cellsO (o : Option AO) (k : List AV → Bool → Bool → Res) : Res :=
  @Option.rec AO (fun _ => Res) none (fun a => @AO.rec (fun _ => Res) k (fun _ _ _ => none) (fun _ _ _ _ => none) (fun _ _ _ _ _ _ _ _ _ => none) (fun _ => none) (fun _ _ => none) a) o

/-! ### Lists -/
def lnG {α : Type} (l : List α) : Nat := @List.rec α (fun _ => Nat) 0 (fun _ _ ih => Nat.succ ih) l
def tl8 {α : Type} (l : List α) : List α := @List.rec α (fun _ => List α) [] (fun _ l _ => @List.rec α (fun _ => List α) [] (fun _ l _ => @List.rec α (fun _ => List α) [] (fun _ l _ => @List.rec α (fun _ => List α) [] (fun _ l _ => @List.rec α (fun _ => List α) [] (fun _ l _ => @List.rec α (fun _ => List α) [] (fun _ l _ => @List.rec α (fun _ => List α) [] (fun _ l _ => @List.rec α (fun _ => List α) [] (fun _ l _ => l) l) l) l) l) l) l) l) l
def skipG {α : Type} (l : List α) (k : Nat) : List α := @Nat.rec (fun _ => List α) l (fun _ ih => tl8 ih) k
def nth1 {α : Type} (l : List α) : Nat → Option α := @List.rec α (fun _ => Nat → Option α) (fun _ => none) (fun a _ ih n => @Bool.rec (fun _ => Option α) (ih (Nat.sub n 1)) (some a) (Nat.beq n 0)) l
def drop1 {α : Type} (l : List α) : Nat → List α := @List.rec α (fun _ => Nat → List α) (fun _ => []) (fun a r ih n => @Bool.rec (fun _ => List α) (ih (Nat.sub n 1)) (a :: r) (Nat.beq n 0)) l
def takeG {α : Type} (l : List α) : Nat → List α := @List.rec α (fun _ => Nat → List α) (fun _ => []) (fun a _ ih n => @Bool.rec (fun _ => List α) (a :: ih (Nat.sub n 1)) [] (Nat.beq n 0)) l
def nthG {α : Type} (l : List α) (n : Nat) : Option α := nth1 (skipG l (Nat.div n 8)) (Nat.mod n 8)
def dropG {α : Type} (l : List α) (n : Nat) : List α := drop1 (skipG l (Nat.div n 8)) (Nat.mod n 8)
def appG {α : Type} (l m : List α) : List α := @List.rec α (fun _ => List α) m (fun a _ ih => a :: ih) l
def mapG {α β : Type} (f : α → β) (l : List α) : List β := @List.rec α (fun _ => List β) [] (fun a _ ih => f a :: ih) l
def optB {α : Type} (o : Option α) : Bool := @Option.rec α (fun _ => Bool) false (fun _ => true) o
def inG {α : Type} (l : List α) (m : Nat) : Bool := @Bool.rec (fun _ => Bool) (optB (nthG l (Nat.sub m 1))) true (Nat.beq m 0)
def takeQ {α : Type} (l : List α) (n : Nat) : List α := @Bool.rec (fun _ => List α) l (takeG l n) (inG l (Nat.succ n))
def eqLG (l : List Nat) : List Nat → Bool := @List.rec Nat (fun _ => List Nat → Bool) (fun m => @List.rec Nat (fun _ => Bool) true (fun _ _ _ => false) m) (fun a _ ih m => @List.rec Nat (fun _ => Bool) false (fun b r _ => @Bool.rec (fun _ => Bool) false (ih r) (Nat.beq a b)) m) l
def lnF (l : List AV) : Nat := lnG l
def nthF (l : List AV) (n : Nat) : Option AV := nthG l n
def setF (v : AV) (l : List AV) : Nat → List AV := @List.rec AV (fun _ => Nat → List AV) (fun _ => []) (fun a r ih n => @Bool.rec (fun _ => List AV) (a :: ih (Nat.sub n 1)) (v :: r) (Nat.beq n 0)) l
def takeF (l : List AV) (n : Nat) : List AV := takeG l n
def dropF (l : List AV) (n : Nat) : List AV := dropG l n

/-! ### Numbers -/
def kIdx (k : IntKind) : Nat := @IntKind.rec (fun _ => Nat) 0 1 2 3 4 5 6 7 k
def kMod (k : IntKind) : Nat := @IntKind.rec (fun _ => Nat) 256 65536 4294967296 18446744073709551616 256 65536 4294967296 18446744073709551616 k
def kHalf (k : IntKind) : Nat := @IntKind.rec (fun _ => Nat) 128 32768 2147483648 9223372036854775808 256 65536 4294967296 18446744073709551616 k
def wrapN (k : IntKind) (s : Nat) : Int := @Bool.rec (fun _ => Int) (@Bool.rec (fun _ => Int) (k.wrap (.ofNat s)) (.ofNat (Nat.mod s (kMod k))) (Nat.beq (kHalf k) (kMod k))) (.ofNat s) (Nat.blt s (kHalf k))
def wrapI (k : IntKind) (n : Int) : Int := @Int.rec (fun _ => Int) (fun m => wrapN k m) (fun m => k.wrap (.negSucc m)) n
def natE (i : Int) (k : Nat → Res) : Res := @Int.rec (fun _ => Res) k (fun _ => none) i
def natE2 (a b : Int) (z : Option AV) (k : Nat → Nat → Option AV) : Option AV := @Int.rec (fun _ => Option AV) (fun m => @Int.rec (fun _ => Option AV) (fun n => k m n) (fun _ => z) b) (fun _ => z) a
structure IntS where run : IntKind → Int → Int → Option AV
def binS : BinOp → IntS
  | .add => ⟨fun k a b => natE2 a b (intA .add k a b) (fun m n => some (.int k (wrapN k (Nat.add m n))))⟩
  | .sub => ⟨fun k a b => natE2 a b (intA .sub k a b) (fun m n => @Bool.rec (fun _ => Option AV) (intA .sub k a b) (some (.int k (wrapN k (Nat.sub m n)))) (Nat.ble n m))⟩
  | .mul => ⟨fun k a b => natE2 a b (intA .mul k a b) (fun m n => some (.int k (wrapN k (Nat.mul m n))))⟩
  | .quo => ⟨fun k a b => natE2 a b (intA .quo k a b) (fun m n => @Bool.rec (fun _ => Option AV) (some (.int k (wrapN k (Nat.div m n)))) none (Nat.beq n 0))⟩
  | .rem => ⟨fun k a b => natE2 a b (intA .rem k a b) (fun m n => @Bool.rec (fun _ => Option AV) (some (.int k (.ofNat (Nat.mod m n)))) none (Nat.beq n 0))⟩
  | .and => ⟨fun k a b => natE2 a b (intA .and k a b) (fun m n => some (.int k (wrapN k (Nat.land (Nat.mod m (kMod k)) (Nat.mod n (kMod k))))))⟩
  | .or => ⟨fun k a b => natE2 a b (intA .or k a b) (fun m n => some (.int k (wrapN k (Nat.lor (Nat.mod m (kMod k)) (Nat.mod n (kMod k))))))⟩
  | .xor => ⟨fun k a b => natE2 a b (intA .xor k a b) (fun m n => some (.int k (wrapN k (Nat.xor (Nat.mod m (kMod k)) (Nat.mod n (kMod k))))))⟩
  | .eql => ⟨fun k a b => natE2 a b (intA .eql k a b) (fun m n => some (.bool (Nat.beq m n)))⟩
  | .neq => ⟨fun k a b => natE2 a b (intA .neq k a b) (fun m n => some (.bool (@Bool.rec (fun _ => Bool) true false (Nat.beq m n))))⟩
  | .lss => ⟨fun k a b => natE2 a b (intA .lss k a b) (fun m n => some (.bool (Nat.blt m n)))⟩
  | .leq => ⟨fun k a b => natE2 a b (intA .leq k a b) (fun m n => some (.bool (Nat.ble m n)))⟩
  | .gtr => ⟨fun k a b => natE2 a b (intA .gtr k a b) (fun m n => some (.bool (Nat.blt n m)))⟩
  | .geq => ⟨fun k a b => natE2 a b (intA .geq k a b) (fun m n => some (.bool (Nat.ble n m)))⟩
  | op => ⟨fun k a b => intA op k a b⟩
def shS : BinOp → IntS
  | .shl => ⟨fun k a b => natE2 a b (shiftA .shl k a b) (fun m n => some (.int k (wrapN k (Nat.mul m (Nat.pow 2 (@Bool.rec (fun _ => Nat) k.bits n (Nat.ble n k.bits)))))))⟩
  | .shr => ⟨fun k a b => natE2 a b (shiftA .shr k a b) (fun m n => some (.int k (.ofNat (Nat.div m (Nat.pow 2 (@Bool.rec (fun _ => Nat) k.bits n (Nat.ble n k.bits)))))))⟩
  | op => ⟨fun k a b => shiftA op k a b⟩

/-! ### Operations -/
structure OpS where run : Rec → Env → AH → (AV → AH → Res) → Res
def noS : OpS := ⟨fun _ _ _ _ => none⟩
def opOf (op : Op) : Oper := { dst := none, op, type := 0, pos := "", after := #[], guard := none }
def fbS (P : Program) (op : Op) : OpS := ⟨fun R t h K => oB (stepR R (evOper P (opnd t) (opOf op) h) h) K⟩

/-! ### More looking -/
def strV (x : AV) (z : Res) (k : List Nat → Res) : Res := @AV.rec (fun _ => Res) (fun _ => Unit) z (fun _ => z) (fun _ _ => z) (fun s => k s) z (fun _ _ => z) z (fun _ _ _ _ _ => z) z (fun _ => z) (fun _ _ _ _ _ => z) (fun _ => z) z (fun _ _ _ => z) z (fun _ _ => z) (fun _ _ => z) () (fun _ _ _ _ => ()) x
def oneB (x : AV) : Bool := @AV.rec (fun _ => Bool) (fun _ => Unit) (false) (fun _ => true) (fun _ _ => true) (fun _ => true) true (fun _ _ => true) true (fun _ _ _ _ _ => true) true (fun _ => true) (fun _ _ _ _ _ => true) (fun _ => true) true (fun _ _ _ => true) true (fun _ _ => false) (fun _ _ => false) () (fun _ _ _ _ => ()) x
def allOneG (l : List AV) : Bool := @List.rec AV (fun _ => Bool) true (fun a _ ih => @Bool.rec (fun _ => Bool) false ih (oneB a)) l
def lnO (x : AV) : Option Nat := @AV.rec (fun _ => Option Nat) (fun _ => Unit) none (fun _ => none) (fun _ _ => none) (fun s => some (lnG s)) none (fun _ _ => none) (some 0) (fun _ _ n _ _ => some n) none (fun _ => none) (fun _ _ _ _ _ => none) (fun _ => none) none (fun _ _ _ => none) none (fun _ _ => none) (fun _ _ => none) () (fun _ _ _ _ => ()) x
def cellsX (o : Option AO) (k : List AV → Option (List AV)) : Option (List AV) :=
  @Option.rec AO (fun _ => Option (List AV)) none (fun a => @AO.rec (fun _ => Option (List AV)) (fun cs _ _ => k cs) (fun _ _ _ => none) (fun _ _ _ _ => none) (fun _ _ _ _ _ _ _ _ _ => none) (fun _ => none) (fun _ _ => none) a) o
def cellsAtF (h : AH) (id off n : Nat) : Option (List AV) := cellsX (h.get id) (fun cs => @Bool.rec (fun _ => Option (List AV)) none (some (takeQ (dropG cs off) n)) (inG cs (Nat.add off n)))
def firstF (h : AH) (size n : Nat) (x : AV) : Option (List AV) :=
  @AV.rec (fun _ => Option (List AV)) (fun _ => Unit) none (fun _ => none) (fun _ _ => none) (fun s => @Bool.rec (fun _ => Option (List AV)) none (some (mapG (fun (b : Nat) => AV.int .u8 (.ofNat b)) (takeG s n))) (Nat.beq size 1)) none (fun _ _ => none) (@Bool.rec (fun _ => Option (List AV)) none (some []) (Nat.beq n 0)) (fun id off len sz _ => @Bool.rec (fun _ => Option (List AV)) none (@Bool.rec (fun _ => Option (List AV)) none (cellsAtF h id off (Nat.mul n size)) (Nat.ble n len)) (Nat.beq sz size)) none (fun _ => none) (fun _ _ _ _ _ => none) (fun _ => none) none (fun _ _ _ => none) none (fun _ _ => none) (fun _ _ => none) () (fun _ _ _ _ => ()) x
def isStr (x : AV) : Bool := @AV.rec (fun _ => Bool) (fun _ => Unit) false (fun _ => false) (fun _ _ => false) (fun _ => true) false (fun _ _ => false) false (fun _ _ _ _ _ => false) false (fun _ => false) (fun _ _ _ _ _ => false) (fun _ => false) false (fun _ _ _ => false) false (fun _ _ => false) (fun _ _ => false) () (fun _ _ _ _ => ()) x

/-! ### Appending -/
def apEnd (h : AH) (n len size : Nat) (old new : List AV) (K : AV → AH → Res) (s : AV) : Res :=
  @AV.rec (fun _ => Res) (fun _ => Unit) none (fun _ => none) (fun _ _ => none) (fun _ => none) none (fun _ _ => none) (K (.sl h.nx 0 n size none) (h.new (.cells new true false))) (fun id off _ _ cap => @Option.rec Nat (fun _ => Res) (cellsO (h.get id) (fun _ own text => boolE own (K (.sl h.nx 0 (Nat.add len n) size none) ((h.del id).new (.cells (appG old new) true (@Bool.rec (fun _ => Bool) (@Bool.rec (fun _ => Bool) true false (Nat.beq off 0)) true text)))) none)) (fun c => boolE (Nat.blt c (Nat.add len n)) (K (.sl h.nx 0 (Nat.add len n) size none) (h.new (.cells (appG old new) true false))) (cellsO (h.get id) (fun _ own text => boolE own (K (.sl h.nx 0 (Nat.add len n) size none) ((h.del id).new (.cells (appG old new) true (@Bool.rec (fun _ => Bool) (@Bool.rec (fun _ => Bool) true false (Nat.beq off 0)) true text)))) none))) cap) none (fun _ => none) (fun _ _ _ _ _ => none) (fun _ => none) none (fun _ _ _ => none) none (fun _ _ => none) (fun _ _ => none) () (fun _ _ _ _ => ()) s
def noInt : TypeDesc → Bool
  | .int _ => false
  | _ => true
def appI2 (P : Program) (st xt : TypeId) : Option (Nat × Nat) :=
  match P.underlying st, P.underlying xt with
  | some (.slice e), some d => (P.info? e).bind fun i => i.zero.bind fun z => (cellsA (toAV z)).bind fun zc => cond (Nat.beq zc.length i.size && !(Nat.beq i.size 0) && noInt d) (some (i.size, i.bytes)) none
  | _, _ => none
def appS (P : Program) (at_ : Array TypeId) (s x : GetS) : OpS :=
  match at_[0]?, at_[1]? with
  | some st, some xt => match appI2 P st xt with
    | some (size, bytes) => ⟨fun _ t h K => optE (lnO (x.run t)) (fun n => optE (firstF h size n (x.run t)) (fun new => optE (lnO (s.run t)) (fun len => optE (firstF h size len (s.run t)) (fun old =>
        boolE (Nat.beq n 0) (boolE (isStr (s.run t)) none (K (s.run t) h))
          (boolE (allOneG new) (boolE (Nat.ble (Nat.mul (Nat.add (Nat.mul 2 (Nat.add len n)) 1000) bytes) 1099511627776) (boolE (Nat.ble (Nat.add len n) 1099511627776) (apEnd h n len size old new K (s.run t)) none) none) none)))))⟩
    | none => ⟨fun R t h K => oB (stepR R (evAppend P h at_ (s.run t) (x.run t)) h) K⟩
  | _, _ => ⟨fun R t h K => oB (stepR R (evAppend P h at_ (s.run t) (x.run t)) h) K⟩

/-! ### Strings -/
def slW (x : AV) (k : Nat → Nat → Nat → Nat → Option Nat → Res) : Res := @AV.rec (fun _ => Res) (fun _ => Unit) none (fun _ => none) (fun _ _ => none) (fun _ => none) none (fun _ _ => none) none (fun i o l s c => k i o l s c) none (fun _ => none) (fun _ _ _ _ _ => none) (fun _ => none) none (fun _ _ _ => none) none (fun _ _ => none) (fun _ _ => none) () (fun _ _ _ _ => ()) x
def isSl (x : AV) : Bool := @AV.rec (fun _ => Bool) (fun _ => Unit) false (fun _ => false) (fun _ _ => false) (fun _ => false) false (fun _ _ => false) false (fun _ _ _ _ _ => true) false (fun _ => false) (fun _ _ _ _ _ => false) (fun _ => false) false (fun _ _ _ => false) false (fun _ _ => false) (fun _ _ => false) () (fun _ _ _ _ => ()) x
def indexS (P : Program) (T : TypeId) (x i : GetS) : OpS :=
  match P.underlying T with
  | some .string => ⟨fun _ t h K => strV (x.run t) none (fun s => intV (i.run t) none (fun _ j => natE j (fun k => optE (nthG s k) (fun b => K (.int .u8 (.ofNat b)) h))))⟩
  | some (.array n e) => match P.underlying e, tsize P e with
    | some d, some sz => match aggT d with
      | false => ⟨fun _ t h K => aggV (x.run t) none (fun cs => intV (i.run t) none (fun _ j => natE j (fun k => boolE (Nat.blt k n) (optE (nthG cs (Nat.mul k sz)) (fun v => K v h)) none)))⟩
      | true => ⟨fun _ t h K => optE (evIndex P T (x.run t) (i.run t)) (fun v => K v h)⟩
    | _, _ => ⟨fun _ t h K => optE (evIndex P T (x.run t) (i.run t)) (fun v => K v h)⟩
  | _ => ⟨fun _ t h K => optE (evIndex P T (x.run t) (i.run t)) (fun v => K v h)⟩
def bndE (top : Nat) (v : AV) (k : Nat → Res) : Res := intV v none (fun _ i => natE i (fun m => boolE (Nat.ble m top) (k m) none))
def sliceS (P : Program) (T : TypeId) (x : GetS) (lo hi mx : Option Operand) : OpS :=
  match P.underlying T, mx with
  | some .string, none => ⟨fun _ t h K => strV (x.run t) none (fun s => (match hi with | none => fun (k : Nat → Res) => k (lnG s) | some o => bndE (lnG s) ((opndS o).run t)) (fun e => (match lo with | none => fun (k : Nat → Res) => k 0 | some o => bndE e ((opndS o).run t)) (fun b => K (.str (takeQ (dropG s b) (Nat.sub e b))) h)))⟩
  | some (.slice e), none => match tsize P e with
    | some n => ⟨fun _ t h K => @Bool.rec (fun _ => Res) (optE (evSlice P h T (x.run t) (lo.map (opnd t)) (hi.map (opnd t)) none) (fun v => K v h))
        (slW (x.run t) (fun id off len sz cap => boolE (Nat.beq n sz) ((match hi with | none => fun (k : Nat → Res) => k len | some o => bndE (@Option.rec Nat (fun _ => Nat) len (fun c => c) cap) ((opndS o).run t)) (fun e => (match lo with | none => fun (k : Nat → Res) => k 0 | some o => bndE e ((opndS o).run t)) (fun b =>
          K (.sl id (Nat.add off (Nat.mul b sz)) (Nat.sub e b) sz (@Option.rec Nat (fun _ => Option Nat) none (fun c => some (Nat.sub c b)) cap)) h))) none)) (isSl (x.run t))⟩
    | none => ⟨fun _ t h K => optE (evSlice P h T (x.run t) (lo.map (opnd t)) (hi.map (opnd t)) none) (fun v => K v h)⟩
  | _, _ => ⟨fun _ t h K => optE (evSlice P h T (x.run t) (lo.map (opnd t)) (hi.map (opnd t)) (mx.map (opnd t))) (fun v => K v h)⟩

/-! ### Filling -/
def cellsG (x : AV) : Option (List AV) := @AV.rec (fun _ => Option (List AV)) (fun _ => Unit) (none) (fun _ => some [x]) (fun _ _ => some [x]) (fun _ => some [x]) (some [x]) (fun _ _ => some [x]) (some [x]) (fun _ _ _ _ _ => some [x]) (some [x]) (fun _ => some [x]) (fun _ _ _ _ _ => some [x]) (fun _ => some [x]) (some [x]) (fun _ _ _ => some [x]) (some [x]) (fun l _ => some l) (fun _ _ => some [x]) () (fun _ _ _ _ => ()) x
def putG (cs : List AV) (off : Nat) (vs : List AV) : List AV := appG (takeG cs off) (appG vs (dropG cs (Nat.add off (lnG vs))))
structure FillO where run : Env → List AV → Option (List AV)
def optO {α β : Type} (o : Option α) (k : α → Option β) : Option β := @Option.rec α (fun _ => Option β) none k o
def boolO {β : Type} (b : Bool) (x : Option β) : Option β := @Bool.rec (fun _ => Option β) none x b
def fillS (place : Nat → Option (Nat × Nat)) (parts : List (Nat × Operand)) : FillO :=
  @List.rec (Nat × Operand) (fun _ => FillO) ⟨fun _ cells => some cells⟩ (fun p _ ih => match place p.1 with
    | some (off, size) => ⟨fun t cells => optO (cellsG ((opndS p.2).run t)) (fun vs => boolO (Nat.beq (lnG vs) size) (boolO (inG cells (Nat.add off size)) (ih.run t (putG cells off vs))))⟩
    | none => ⟨fun _ _ => none⟩) parts
def buildS (P : Program) (T : TypeId) (parts : List (Nat × Operand)) : OpS :=
  match tzero P T with
  | none => noS
  | some z => match cellsA (toAV z) with
    | none => noS
    | some zc => match P.underlying T with
      | some (.struct fs) => match fieldsA P fs.toList with
        | none => noS
        | some places => ⟨fun _ t h K => optE ((fillS (places[·]?) parts).run t zc) (fun cells => K (.agg cells) h)⟩
      | some (.array _ e) => match tsize P e with
        | none => noS
        | some sz => ⟨fun _ t h K => optE ((fillS (fun i => some (i * sz, sz)) parts).run t zc) (fun cells => K (.agg cells) h)⟩
      | _ => noS

/-! ### New blocks -/
structure AlS where run : Env → Option (AO × (Nat → AV))
def allocS (P : Program) : Op → AlS
  | .alloc e => match tzero P e with
    | none => ⟨fun _ => none⟩
    | some z => match cellsA (toAV z) with
      | none => ⟨fun _ => none⟩
      | some cs => match cs.isEmpty with
        | true => ⟨fun _ => some (.cells cs true true, fun id => .ptr id 0)⟩
        | false => ⟨fun _ => some (.cells cs true false, fun id => .ptr id 0)⟩
  | .box _ x => ⟨fun t => optO (cellsG ((opndS x).run t)) (fun cs => some (.cells cs true cs.isEmpty, fun id => .ptr id 0))⟩
  | .buildSlice T len parts => match P.underlying T with
    | some (.slice e) => match tsize P e with
      | none => ⟨fun _ => none⟩
      | some sz => match Nat.ble (Nat.mul len sz) 16777216 with
        | false => ⟨fun _ => none⟩
        | true => match tzero P e with
          | none => ⟨fun _ => none⟩
          | some z => match cellsA (toAV z) with
            | none => ⟨fun _ => none⟩
            | some zc => match Nat.beq zc.length sz with
              | false => ⟨fun _ => none⟩
              | true => ⟨fun t => optO ((fillS (fun i => some (i * sz, sz)) parts.toList).run t (repCells zc len)) (fun cells => some (.cells cells true (Nat.beq (Nat.mul len sz) 0), fun id => .sl id 0 len sz (some len)))⟩
    | _ => ⟨fun _ => none⟩
  | op => ⟨fun t => allocA P (opnd t) op⟩
def alE (h : AH) (o : Option (AO × (Nat → AV))) (K : AV → AH → Res) : Res := optE o (fun r => @Prod.rec AO (Nat → AV) (fun _ => Res) (fun ob mk => K (mk h.nx) (h.new ob)) r)

/-! ### Guards -/
structure WantS where run : Env → Option Bool
def boolW (x : AV) (w : Bool) : Option Bool := @AV.rec (fun _ => Option Bool) (fun _ => Unit) (none) (fun b => some (b == w)) (fun _ _ => some false) (fun _ => some false) (some false) (fun _ _ => some false) (some false) (fun _ _ _ _ _ => some false) (some false) (fun _ => some false) (fun _ _ _ _ _ => some false) (fun _ => some false) (some false) (fun _ _ _ => some false) (some false) (fun _ _ => some false) (fun _ _ => some false) () (fun _ _ _ _ => ()) x
def wantS (ops : Array Oper) (o : Oper) : WantS :=
  match o.guard with
  | none => ⟨fun _ => some true⟩
  | some (j, w) => match (ops[j]?).bind (·.dst) with
    | none => ⟨fun _ => some false⟩
    | some d => ⟨fun t => optO ((getT AV d).run t) (fun x => boolW x w)⟩

/-! ### Values that are called -/
def fnG (fn : Fn) (z : Res) (k : FuncId → Res) : Res :=
  match fn with
  | .func g => k g
  | _ => z
def fnV (x : AV) (z : Res) (k : Fn → List AV → List AV → Res) (y : Nat → Res) : Res := @AV.rec (fun _ => Res) (fun _ => Unit) z (fun _ => z) (fun _ _ => z) (fun _ => z) z (fun _ _ => z) z (fun _ _ _ _ _ => z) z (fun _ => z) (fun fn a b _ _ => k fn a b) (fun i => y i) z (fun _ _ _ => z) z (fun _ _ => z) (fun _ _ => z) () (fun _ _ _ _ => ()) x

/-! ### Results -/
def loadO (P : Program) (h : AH) (T : TypeId) (x : AV) : Option AV :=
  match P.underlying T with
  | some d => @AV.rec (fun _ => Option AV) (fun _ => Unit) none (fun _ => none) (fun _ _ => none) (fun _ => none) none (fun id off => @Option.rec AO (fun _ => Option AV) none (fun a => @AO.rec (fun _ => Option AV) (fun cs _ _ => match aggT d with
      | true => match tsize P T with
        | some n => boolO (inG cs (Nat.add off n)) (some (.agg (takeQ (dropG cs off) n)))
        | none => none
      | false => nthG cs off) (fun _ _ _ => none) (fun _ _ _ _ => none) (fun _ _ _ _ _ _ _ _ _ => none) (fun _ => none) (fun _ _ => none) a) (h.get id)) none (fun _ _ _ _ _ => none) none (fun _ => none) (fun _ _ _ _ _ => none) (fun _ => none) none (fun _ _ _ => none) none (fun _ _ => none) (fun _ _ => none) () (fun _ _ _ _ => ()) x
  | none => none
def resultF (P : Program) (h : AH) (t : Env) (r : ResultVar) : Option AV :=
  match r with
  | .tmp i => some ((opndS (.tmp i)).run t)
  | .cell a ty => loadO P h ty ((opndS (.tmp a)).run t)
def resultsF (P : Program) (h : AH) (t : Env) (rs : List ResultVar) : Option AV :=
  match rs with
  | [r] => resultF P h t r
  | [r, s] => optO (resultF P h t r) (fun a => optO (resultF P h t s) (fun b => some (.tup [a, b])))
  | rs => resultsA P h t rs
def argsG (l : List AV) : Nat → Env → Env := @List.rec AV (fun _ => Nat → Env → Env) (fun _ t => t) (fun a _ ih i t => ih (Nat.succ i) ((setT AV i).run t (some a))) l

def loadS (P : Program) (T : TypeId) (g : GetS) : OpS :=
  match P.underlying T with
  | some d =>
    match aggT d with
    | true => match tsize P T with
      | some n => ⟨fun _ t h K => ptrV (g.run t) none (fun id off => cellsO (h.get id) (fun cs _ _ => boolE (inG cs (Nat.add off n)) (K (.agg (takeF (dropF cs off) n)) h) none))⟩
      | none => noS
    | false => ⟨fun _ t h K => ptrV (g.run t) none (fun id off => cellsO (h.get id) (fun cs _ _ => optE (nthF cs off) (fun v => K v h)))⟩
  | none => noS

def storeS (P : Program) (T : TypeId) (a x : GetS) : OpS :=
  match tsize P T with
  | some 1 => ⟨fun _ t h K => ptrV (a.run t) none (fun id off => oneV (x.run t)
      (cellsO (h.get id) (fun cs own text => boolE own (boolE (inG cs (Nat.succ off)) (K (.tup []) (h.put id (.cells (setF (x.run t) cs off) true text))) none) none))
      (optE (evStore P h T (.ptr id off) (x.run t)) (fun h' => K (.tup []) h')))⟩
  | some n => ⟨fun _ t h K => ptrV (a.run t) none (fun id off => optE (cellsG (x.run t)) (fun vs => boolE (Nat.beq (lnG vs) n) (cellsO (h.get id) (fun cs own text => boolE own (boolE (inG cs (Nat.add off n)) (boolE (allOneG vs) (K (.tup []) (h.put id (.cells (putG cs off vs) true text))) none) none) none)) none))⟩
  | _ => ⟨fun _ t h K => optE (evStore P h T (a.run t) (x.run t)) (fun h' => K (.tup []) h')⟩

def binOpS (P : Program) (op : BinOp) (T : TypeId) (x y : GetS) : OpS :=
  match op with
  | .shl => ⟨fun _ t h K => intV (x.run t) (optE (binA P h .shl T (x.run t) (y.run t)) (fun v => K v h)) (fun k a => intV (y.run t) (optE (binA P h .shl T (x.run t) (y.run t)) (fun v => K v h)) (fun _ b => optE ((shS .shl).run k a b) (fun v => K v h)))⟩
  | .shr => ⟨fun _ t h K => intV (x.run t) (optE (binA P h .shr T (x.run t) (y.run t)) (fun v => K v h)) (fun k a => intV (y.run t) (optE (binA P h .shr T (x.run t) (y.run t)) (fun v => K v h)) (fun _ b => optE ((shS .shr).run k a b) (fun v => K v h)))⟩
  | op => ⟨fun _ t h K => intV (x.run t) (optE (binA P h op T (x.run t) (y.run t)) (fun v => K v h)) (fun k a => intV (y.run t) (optE (binA P h op T (x.run t) (y.run t)) (fun v => K v h))
      (fun k' b => boolE (Nat.beq (kIdx k) (kIdx k')) (optE ((binS op).run k a b) (fun v => K v h)) none))⟩

def fieldOff (P : Program) (T : TypeId) (f : Nat) : Option Nat :=
  match P.underlying T with
  | some (.struct fs) => match fs[f]? with
    | some fd => match tsize P fd.type with
      | some (_ + 1) => some fd.offset
      | _ => none
    | none => none
  | _ => none
def fieldAddrS (P : Program) (T : TypeId) (x : GetS) (f : Nat) : OpS :=
  match fieldOff P T f with
  | some o => ⟨fun _ t h K => ptrV (x.run t) none (fun id off => K (.ptr id (Nat.add off o)) h)⟩
  | none => noS
def partS (P : Program) (T : TypeId) (off : Nat) (x : GetS) : OpS :=
  match P.underlying T with
  | some d => match aggT d with
    | true => match tsize P T with
      | some n => ⟨fun _ t h K => aggV (x.run t) none (fun cs => boolE (inG cs (Nat.add off n)) (K (.agg (takeF (dropF cs off) n)) h) none)⟩
      | none => noS
    | false => ⟨fun _ t h K => aggV (x.run t) none (fun cs => optE (nthF cs off) (fun v => K v h))⟩
  | none => noS
def fieldS (P : Program) (T : TypeId) (x : GetS) (f : Nat) : OpS :=
  match P.underlying T with
  | some (.struct fs) => match fs[f]? with
    | some fd => partS P fd.type fd.offset x
    | none => noS
  | _ => noS
def idxS (P : Program) (T : TypeId) (x i : GetS) : OpS :=
  match P.underlying T with
  | some (.array n e) => match tsize P e with
    | some sz => ⟨fun _ t h K => ptrV (x.run t) none (fun id off => intV (i.run t) none (fun _ j => natE j (fun k => boolE (Nat.blt k n) (K (.ptr id (Nat.add off (Nat.mul k sz))) h) none)))⟩
    | none => noS
  | some (.slice e) => match tsize P e with
    | some n => ⟨fun _ t h K => slV (x.run t) none (fun id off len sz => intV (i.run t) none (fun _ j => natE j (fun k => boolE (Nat.blt k len) (boolE (Nat.beq n sz) (K (.ptr id (Nat.add off (Nat.mul k sz))) h) none) none)))⟩
    | none => noS
  | _ => noS
def convS (P : Program) (s d : TypeId) (x : GetS) : OpS :=
  match P.underlying s, P.underlying d with
  | some _, some (.int k) => ⟨fun R t h K => intV (x.run t) (oB (stepR R (evConvert P h s d (x.run t)) h) K) (fun _ n => K (.int k (wrapI k n)) h)⟩
  | _, _ => ⟨fun R t h K => oB (stepR R (evConvert P h s d (x.run t)) h) K⟩
def callS (P : Program) (c : Call) : OpS :=
  match c.callee with
  | .value (.func f) => ⟨fun R t h K => oB (R.call f ((opndsS c.args.toList).run t) h) K⟩
  | .value f => ⟨fun R t h K => fnV ((opndS f).run t) none (fun fn first captured => fnG fn (oB (stepR R (evCall P h (opnd t) c) h) K) (fun g => oB (R.call g (appG first (appG ((opndsS c.args.toList).run t) captured)) h) K)) (fun id => oB (R.round id ((opndsS c.args.toList).run t) h) K)⟩
  | .builtin .append => match c.args.toList with
    | [s, x] => appS P c.argTypes (opndS s) (opndS x)
    | _ => ⟨fun R t h K => oB (stepR R (evCall P h (opnd t) c) h) K⟩
  | .builtin .len => match c.args.toList with
    | [x] => match (c.argTypes[0]?).bind P.underlying with
      | some (.slice _) => ⟨fun R t h K => slV ((opndS x).run t) (optE (evLen P h c.argTypes ((opndS x).run t)) (fun v => K v h)) (fun _ _ l _ => K (.int .i64 (.ofNat l)) h)⟩
      | _ => ⟨fun R t h K => optE (evLen P h c.argTypes ((opndS x).run t)) (fun v => K v h)⟩
    | _ => ⟨fun R t h K => oB (stepR R (evCall P h (opnd t) c) h) K⟩
  | _ => ⟨fun R t h K => oB (stepR R (evCall P h (opnd t) c) h) K⟩

def opS (P : Program) : Op → OpS
  | .move x => ⟨fun _ t h K => K ((opndS x).run t) h⟩
  | .assign x => ⟨fun _ t h K => K ((opndS x).run t) h⟩
  | .pick c a b => ⟨fun _ t h K => boolV ((opndS c).run t) (fun q => boolE q (K ((opndS a).run t) h) (K ((opndS b).run t) h))⟩
  | .load T a => loadS P T (opndS a)
  | .store T a x => storeS P T (opndS a) (opndS x)
  | .binOp op T x y _ => binOpS P op T (opndS x) (opndS y)
  | .unOp op _ x => ⟨fun _ t h K => optE (unA op ((opndS x).run t)) (fun v => K v h)⟩
  | .nilCheck x => ⟨fun R t h K => ptrV ((opndS x).run t) ((fbS P (.nilCheck x)).run R t h K) (fun i o => K (.ptr i o) h)⟩
  | .fieldAddr T x f => fieldAddrS P T (opndS x) f
  | .field T x f => fieldS P T (opndS x) f
  | .indexAddr T x i => idxS P T (opndS x) (opndS i)
  | .index T x i => indexS P T (opndS x) (opndS i)
  | .lookup T x i ok => ⟨fun _ t h K => optE (evLookup P h T ((opndS x).run t) ((opndS i).run t) ok) (fun v => K v h)⟩
  | .slice T x lo hi mx => sliceS P T (opndS x) lo hi mx
  | .build T parts => buildS P T parts.toList
  | .alloc e => ⟨fun _ t h K => alE h ((allocS P (.alloc e)).run t) K⟩
  | .box e x => ⟨fun _ t h K => alE h ((allocS P (.box e x)).run t) K⟩
  | .buildSlice T n parts => ⟨fun _ t h K => alE h ((allocS P (.buildSlice T n parts)).run t) K⟩
  | .extract x i => ⟨fun _ t h K => tupV ((opndS x).run t) none (fun l => optE (nthF l i) (fun v => K v h))⟩
  | .convert s d x => convS P s d (opndS x)
  | .call c => callS P c
  | op => fbS P op

/-! ### Regions -/
structure PutS where run : Env → AV → (Env → Res) → Res
def putS (n : Nat) : Option Tmp → PutS
  | none => ⟨fun t _ K => K t⟩
  | some d => @Bool.rec (fun _ => PutS) ⟨fun _ _ _ => none⟩ ⟨fun t v K => K ((setT AV d).run t (some v))⟩ (Nat.blt d n)
structure StepS where run : Rec → Env → AH → (Env → AH → Res) → Res
def stepS (P : Program) (n : Nat) (ops : Array Oper) (o : Oper) : StepS :=
  match o.guard with
  | none => ⟨fun R t h K => (opS P o.op).run R t h (fun v h' => (putS n o.dst).run t v (fun t' => K t' h'))⟩
  | some _ => ⟨fun R t h K => optE ((wantS ops o).run t) (fun b => boolE b ((opS P o.op).run R t h (fun v h' => (putS n o.dst).run t v (fun t' => K t' h'))) ((putS n o.dst).run t (.tup []) (fun t' => K t' h)))⟩
def opsS (P : Program) (n : Nat) (ops : Array Oper) (l : List Oper) : StepS :=
  @List.rec Oper (fun _ => StepS) ⟨fun _ t h K => K t h⟩ (fun o _ ih => ⟨fun R t h K => (stepS P n ops o).run R t h (fun t' h' => ih.run R t' h' K)⟩) l

structure DStS where run : Rec → Nat → Env → AH → List (Nat × AO) → (Env → AH → List (Nat × AO) → Res) → Res
def dStS (P : Program) (n : Nat) (ops : Array Oper) (i : Nat) (o : Oper) : DStS :=
  match clsOf P o.op with
  | 2 => ⟨fun _ base t h pend K => optE ((wantS ops o).run t) (fun b => boolE b
      (optE ((allocS P o.op).run t) (fun x => (putS n o.dst).run t (x.2 (base + i)) (fun t' => K t' h (pend ++ [(base + i, x.1)]))))
      ((putS n o.dst).run t (.tup []) (fun t' => K t' h pend)))⟩
  | 3 => ⟨fun R _ t h pend K => (stepS P n ops o).run R t (absorb pend h) (fun t' h' => K t' h' [])⟩
  | _ => ⟨fun R _ t h pend K => (stepS P n ops o).run R t h (fun t' _ => K t' h pend)⟩
def dGo0 (P : Program) (n : Nat) (ops : Array Oper) (l : List Oper) : Nat → DStS :=
  @List.rec Oper (fun _ => Nat → DStS) (fun _ => ⟨fun _ _ t h pend K => K t h pend⟩) (fun o _ ih i => ⟨fun R base t h pend K => (dStS P n ops i o).run R base t h pend (fun t' h' pend' => (ih (Nat.succ i)).run R base t' h' pend' K)⟩) l
structure DGoS where run : Rec → Nat → Env → AH → List (Nat × AO) → List DS → (Env → AH → List (Nat × AO) → List DS → Res) → Res
def dGo (P : Program) (n : Nat) (ops : Array Oper) (l : List Oper) : Nat → DGoS :=
  @List.rec Oper (fun _ => Nat → DGoS) (fun _ => ⟨fun _ _ t h pend acc K => K t h pend (acc ++ [({ t := t, h := h, pend := pend } : DS)])⟩)
    (fun o _ ih i => ⟨fun R base t h pend acc K => (dStS P n ops i o).run R base t h pend (fun t' h' pend' => (ih (Nat.succ i)).run R base t' h' pend' (acc ++ [({ t := t, h := h, pend := pend } : DS)]) K)⟩) l
def drawS (P : Program) (n : Nat) (ops : Array Oper) : StepS :=
  match P.follows .mixedOrders with
  | true => match statGo P ops ops.toList 0 [] [] [] with
    | none => ⟨fun _ _ _ _ => none⟩
    | some [] => ⟨fun R t h K => (dGo0 P n ops ops.toList 0).run R h.nx t { tr := h.tr, nx := Nat.add h.nx ops.size } [] (fun t' h' pend => K t' (absorb pend h'))⟩
    | some prs => ⟨fun R t h K => (dGo P n ops ops.toList 0).run R h.nx t { tr := h.tr, nx := Nat.add h.nx ops.size } [] [] (fun t' h' pend ss => boolE (sameAll P R n ops ss prs) (K t' (absorb pend h')) none)⟩
  | false => ⟨fun _ _ _ _ => none⟩

/-! ### Code -/
structure CodeS where run : Rec → Option Nat → Env → AH → List Nat → (Ex → Env → AH → List Nat → Res) → Res
def exE (ex : Ex) (a : Res) (b : Nat → Res) (c : Res) : Res := @Ex.rec (fun _ => Res) a b c ex
def oC (x : Res) (K : Ex → Env → AH → List Nat → Res) : Res := @Option.rec (Ex × St) (fun _ => Res) none (fun p => @Prod.rec Ex St (fun _ => Res) (fun ex s => @St.rec (fun _ => Res) (fun t h d => K ex t h d) s) p) x
def genS (P : Program) (fn n : Nat) (c : Code) : CodeS := ⟨fun R r t h d K => oC (evCode P R r fn n c { t, h, d }) K⟩
def codeS (P : Program) (fn n : Nat) (c : Code) : CodeS :=
  @Code.rec (fun _ => CodeS)
    ⟨fun _ _ t h d K => K .normal t h d⟩
    (fun _ ops draw => @Bool.rec (fun _ => CodeS) ⟨fun R _ t h d K => (opsS P n ops ops.toList).run R t h (fun t' h' => K .normal t' h' d)⟩ ⟨fun R _ t h d K => (drawS P n ops).run R t h (fun t' h' => K .normal t' h' d)⟩ draw)
    (fun _ _ A B => ⟨fun R r t h d K => A.run R r t h d (fun ex t' h' d' => exE ex (B.run R r t' h' d' K) (fun i => K (.exit i) t' h' d') (K .ret t' h' d'))⟩)
    (fun c _ _ A B => ⟨fun R r t h d K => boolV ((opndS c).run t) (fun b => boolE b (A.run R r t h d K) (B.run R r t h d K))⟩)
    (fun id _ A => ⟨fun R r t h d K => A.run R r t h d (fun ex t' h' d' => exE ex (K .normal t' h' d') (fun j => boolE (Nat.beq j id) (K .normal t' h' d') (K (.exit j) t' h' d')) (K .ret t' h' d'))⟩)
    (fun body _ => ⟨fun R r t h d K => oC (R.loop r fn n body { t, h, d }) K⟩)
    (fun f ps a b _ _ => genS P fn n (.rangeFunc f ps a b))
    (fun id => ⟨fun _ _ t h d K => K (.exit id) t h d⟩)
    (fun _ A => A)
    (fun _ => ⟨fun _ _ t h d K => K .normal t h d⟩)
    (fun _ => ⟨fun _ _ _ _ _ _ => none⟩)
    ⟨fun _ _ t h d K => K .ret t h d⟩
    (fun _ => ⟨fun _ _ _ _ _ _ => none⟩) c

def fCode (P : Program) (R : Rec) (r : Option Nat) (fn n : Nat) (c : Code) (s : St) : Res :=
  @St.rec (fun _ => Res) (fun t h d => (codeS P fn n c).run R r t h d (fun ex t' h' d' => some (ex, { t := t', h := h', d := d' }))) s

def fFn (P : Program) (S : Sums) (R : Rec) (f : FuncId) (args : List AV) (h : AH) : Option (AV × AH) :=
  match S f args h with
  | some r => some r
  | none =>
    if !(bodied P f) then none else
    match P.funcs[f]? with
    | some fn => match fn.body with
      | some c => match (match Nat.ble (lnF args) fn.ntmps with
          | true => fCode P R none f fn.ntmps c { t := argsG args 0 .nil, h, d := [] }
          | false => fCode P R none f (nTmps fn args) c { t := argsEnv args 0 .nil, h, d := [] }) with
        | some (.exit _, _) => none
        | some (_, s) => match takeMarks s.d s.h with
          | some h' => optO (resultsF P h' s.t fn.results.toList) (fun v => some (v, h'))
          | none => none
        | none => none
      | none => none
    | none => none

def fRound (P : Program) (R : Rec) (l : Nat) (args : List AV) (h : AH) : Option (AV × AH) :=
  match h.get l with
  | some (.loop _ _ fn t n ps assign body _) => match setArgs ps.toList args n t with
    | some t' => match fCode P R (some l) fn n assign { t := t', h, d := [] } with
      | some (.normal, s1) => match s1.h.get l with
        | some (.loop .ready pend fn1 t1 n1 ps1 a1 b1 d1) =>
          match fCode P R (some l) fn n body { s1 with h := s1.h.put l (.loop .busy pend fn1 t1 n1 ps1 a1 b1 d1) } with
          | some (ex, s2) => match s2.h.get l with
            | some (.loop _ _ fn2 t2 n2 ps2 a2 b2 d2) => match ex with
              | .normal => some (.bool true, s2.h.put l (.loop .ready none fn2 t2 n2 ps2 a2 b2 d2))
              | .ret => some (.bool false, s2.h.put l (.loop .done (some .ret) fn2 t2 n2 ps2 a2 b2 d2))
              | .exit id => some (.bool false, s2.h.put l (.loop .done (some (.exit id)) fn2 t2 n2 ps2 a2 b2 d2))
            | _ => none
          | none => none
        | _ => none
      | _ => none
    | none => none
  | _ => none

def fN (P : Program) (S : Sums) (k : Nat) : Rec :=
  @Nat.rec (fun _ => Rec) { call := fun _ _ _ => none, round := fun _ _ _ => none, loop := fun _ _ _ _ _ => none }
    (fun _ R =>
      { call := fFn P S R
        round := fRound P R
        loop := fun r fn n c s => @St.rec (fun _ => Res) (fun t h d => (codeS P fn n c).run R r t h d (fun ex t' h' d' => exE ex (R.loop r fn n c { t := t', h := h', d := d' }) (fun i => some (.exit i, { t := t', h := h', d := d' })) (some (.ret, { t := t', h := h', d := d' })))) s }) k

end
end Go.Abs

namespace Go.Abs
open Go
set_option linter.unusedVariables false

theorem opndS_eq (x : Operand) (t : Env) : (opndS x).run t = opnd t x := by
  cases x with
  | tmp i =>
    show @Option.rec AV (fun _ => AV) .junk (fun v => v) ((getT AV i).run t) = (t.get i).getD .junk
    rw [← Tr.get_eq]
    cases t.get i <;> rfl
  | const v => rfl
  | global g => rfl
  | func f => rfl

theorem opndsS_eq (l : List Operand) (t : Env) : (opndsS l).run t = l.map (opnd t) := by
  induction l with
  | nil => rfl
  | cons x l ih =>
    show (opndS x).run t :: (opndsS l).run t = _
    rw [opndS_eq, ih]; rfl

theorem lnG_eq {α : Type} (l : List α) : lnG l = l.length := by
  induction l with
  | nil => rfl
  | cons a l ih => show Nat.succ (lnG l) = _; rw [ih]; rfl
theorem tl8_eq {α : Type} (l : List α) : tl8 l = l.drop 8 :=
  match l with
  | [] => rfl
  | [_] => rfl
  | [_, _] => rfl
  | [_, _, _] => rfl
  | [_, _, _, _] => rfl
  | [_, _, _, _, _] => rfl
  | [_, _, _, _, _, _] => rfl
  | [_, _, _, _, _, _, _] => rfl
  | _ :: _ :: _ :: _ :: _ :: _ :: _ :: _ :: _ => rfl
theorem skipG_eq {α : Type} (l : List α) (k : Nat) : skipG l k = l.drop (8 * k) := by
  induction k with
  | zero => rfl
  | succ k ih => show tl8 (skipG l k) = _; rw [ih, tl8_eq, List.drop_drop, Nat.mul_succ]
theorem nth1_eq {α : Type} (l : List α) (n : Nat) : nth1 l n = l[n]? := by
  induction l generalizing n with
  | nil => rfl
  | cons a l ih =>
    show @Bool.rec (fun _ => Option α) (nth1 l (n - 1)) (some a) (Nat.beq n 0) = _
    rw [bool_rec_cond, nat_beq_dec]
    cases n with
    | zero => rfl
    | succ n => simpa using ih n
theorem drop1_eq {α : Type} (l : List α) (n : Nat) : drop1 l n = l.drop n := by
  induction l generalizing n with
  | nil => simp [drop1]
  | cons a l ih =>
    show @Bool.rec (fun _ => List α) (drop1 l (n - 1)) (a :: l) (Nat.beq n 0) = _
    rw [bool_rec_cond, nat_beq_dec]
    cases n with
    | zero => rfl
    | succ n => simpa using ih n
theorem nthG_eq {α : Type} (l : List α) (n : Nat) : nthG l n = l[n]? := by
  unfold nthG
  rw [nth1_eq, skipG_eq, List.getElem?_drop]
  congr 1
  exact Nat.div_add_mod n 8
theorem dropG_eq {α : Type} (l : List α) (n : Nat) : dropG l n = l.drop n := by
  unfold dropG
  rw [drop1_eq, skipG_eq, List.drop_drop]
  congr 1
  exact Nat.div_add_mod n 8
theorem takeG_eq {α : Type} (l : List α) (n : Nat) : takeG l n = l.take n := by
  induction l generalizing n with
  | nil => simp [takeG]
  | cons a l ih =>
    show @Bool.rec (fun _ => List α) (a :: takeG l (n - 1)) [] (Nat.beq n 0) = _
    rw [bool_rec_cond, nat_beq_dec]
    cases n with
    | zero => rfl
    | succ n => simpa using ih n
theorem appG_eq {α : Type} (l m : List α) : appG l m = l ++ m := by
  induction l with
  | nil => rfl
  | cons a l ih => show a :: appG l m = _; rw [ih]; rfl
theorem mapG_eq {α β : Type} (f : α → β) (l : List α) : mapG f l = l.map f := by
  induction l with
  | nil => rfl
  | cons a l ih => show f a :: mapG f l = _; rw [ih]; rfl
theorem optB_eq {α : Type} (o : Option α) : optB o = o.isSome := by cases o <;> rfl
theorem inG_eq {α : Type} (l : List α) (m : Nat) : inG l m = decide (m ≤ l.length) := by
  unfold inG
  rw [bool_rec_cond, nat_beq_dec, optB_eq, nthG_eq]
  cases m with
  | zero => simp
  | succ m =>
    simp only [Nat.succ_ne_zero, decide_false, cond_false, Nat.sub_eq, Nat.add_sub_cancel]
    by_cases h : m < l.length
    · rw [List.getElem?_eq_getElem h]; simp [Nat.succ_le_of_lt h]
    · rw [List.getElem?_eq_none (Nat.le_of_not_lt h)]; simp; omega
theorem takeQ_eq {α : Type} (l : List α) (n : Nat) : takeQ l n = l.take n := by
  unfold takeQ
  rw [bool_rec_cond, inG_eq, takeG_eq]
  by_cases h : n + 1 ≤ l.length
  · rw [decide_eq_true (show n.succ ≤ l.length from h)]; rfl
  · rw [decide_eq_false (show ¬ n.succ ≤ l.length from h)]; exact (List.take_of_length_le (Nat.le_of_lt_succ (Nat.lt_of_not_le h))).symm
theorem eqLG_eq (l : List Nat) : ∀ m, eqLG l m = eqL l m := by
  induction l with
  | nil => intro m; cases m <;> rfl
  | cons a l ih =>
    intro m
    cases m with
    | nil => rfl
    | cons b m =>
      show @Bool.rec (fun _ => Bool) false (eqLG l m) (Nat.beq a b) = (Nat.beq a b && eqL l m)
      rw [ih, bool_rec_cond]
      cases Nat.beq a b <;> rfl
theorem lnF_eq (l : List AV) : lnF l = l.length := lnG_eq l
theorem nthF_eq (l : List AV) (n : Nat) : nthF l n = l[n]? := nthG_eq l n
theorem setF_eq (v : AV) (l : List AV) (n : Nat) : setF v l n = l.set n v := by
  induction l generalizing n with
  | nil => rfl
  | cons a l ih =>
    show @Bool.rec (fun _ => List AV) (a :: setF v l (n - 1)) (v :: l) (Nat.beq n 0) = _
    rw [bool_rec_cond, nat_beq_dec]
    cases n with
    | zero => rfl
    | succ n => simpa using ih n
theorem takeF_eq (l : List AV) (n : Nat) : takeF l n = l.take n := takeG_eq l n
theorem dropF_eq (l : List AV) (n : Nat) : dropF l n = l.drop n := dropG_eq l n
theorem putCells_one (cs : List AV) (off : Nat) (v : AV) (h : off < cs.length) : putCells cs off [v] = cs.set off v := by
  unfold putCells
  rw [List.set_eq_take_append_cons_drop, if_pos h]
  simp

theorem kMod_eq (k : IntKind) : kMod k = 2 ^ k.bits := by cases k <;> rfl
theorem kIdx_inj {k k' : IntKind} (h : Nat.beq (kIdx k) (kIdx k') = decide (k = k')) : True := trivial
theorem kIdx_eq (k k' : IntKind) : Nat.beq (kIdx k) (kIdx k') = decide (k = k') := by cases k <;> cases k' <;> rfl

theorem wrapN_eq (k : IntKind) (s : Nat) : wrapN k s = k.wrap (.ofNat s) := by
  unfold wrapN
  rw [bool_rec_cond, bool_rec_cond]
  by_cases h : s < kHalf k
  · have : Nat.blt s (kHalf k) = true := by simpa [Nat.blt_eq] using h
    rw [this]
    simp only [cond_true]
    cases k <;> simp only [kHalf] at h <;> simp [IntKind.wrap, IntKind.bits, IntKind.signed] <;> omega
  · have : Nat.blt s (kHalf k) = false := by
      cases hh : Nat.blt s (kHalf k) with
      | false => rfl
      | true => rw [Nat.blt_eq] at hh; exact absurd hh h
    rw [this]
    simp only [cond_false]
    cases k <;> simp [kHalf, kMod, IntKind.wrap, IntKind.bits, IntKind.signed] <;> exact Int.natCast_emod s _

theorem wrapI_eq (k : IntKind) (n : Int) : wrapI k n = k.wrap n := by
  cases n with
  | ofNat m => exact wrapN_eq k m
  | negSucc m => rfl

end Go.Abs

namespace Go.Abs
open Go
set_option linter.unusedVariables false

@[simp] theorem optE_none {α : Type} (k : α → Res) : optE none k = none := rfl
@[simp] theorem optE_some {α : Type} (a : α) (k : α → Res) : optE (some a) k = k a := rfl
@[simp] theorem oB_none (K : AV → AH → Res) : oB none K = none := rfl
@[simp] theorem oB_some (v : AV) (h : AH) (K : AV → AH → Res) : oB (some (v, h)) K = K v h := rfl
@[simp] theorem boolE_true (x y : Res) : boolE true x y = x := rfl
@[simp] theorem boolE_false (x y : Res) : boolE false x y = y := rfl
@[simp] theorem cellsO_none (k : List AV → Bool → Bool → Res) : cellsO none k = none := rfl
@[simp] theorem cellsO_cells (cs : List AV) (o t : Bool) (k : List AV → Bool → Bool → Res) : cellsO (some (.cells cs o t)) k = k cs o t := rfl
@[simp] theorem ptrV_ptr (i o : Nat) (z : Res) (k : Nat → Nat → Res) : ptrV (.ptr i o) z k = k i o := rfl
@[simp] theorem intV_int (q : IntKind) (n : Int) (z : Res) (k : IntKind → Int → Res) : intV (.int q n) z k = k q n := rfl
@[simp] theorem slV_sl (i o l s : Nat) (c : Option Nat) (z : Res) (k : Nat → Nat → Nat → Nat → Res) : slV (.sl i o l s c) z k = k i o l s := rfl
@[simp] theorem aggV_agg (l : List AV) (z : Res) (k : List AV → Res) : aggV (.agg l) z k = k l := rfl
@[simp] theorem tupV_tup (l : List AV) (z : Res) (k : List AV → Res) : tupV (.tup l) z k = k l := rfl
@[simp] theorem boolV_bool (b : Bool) (k : Bool → Res) : boolV (.bool b) k = k b := rfl

theorem oB_val (R : Rec) (h : AH) (q : Option AV) (K : AV → AH → Res) : oB (stepR R (val? h q) h) K = optE q fun v => K v h := by cases q <;> rfl

theorem beq0 (n : Nat) : Nat.beq n 0 = decide (n = 0) := nat_beq_dec n 0
theorem blt_dec (a b : Nat) : Nat.blt a b = decide (a < b) := by
  by_cases h : a < b
  · rw [decide_eq_true h, Nat.blt_eq]; exact h
  · rw [decide_eq_false h]; cases hh : Nat.blt a b with
    | false => rfl
    | true => rw [Nat.blt_eq] at hh; exact absurd hh h
theorem ble_dec (a b : Nat) : Nat.ble a b = decide (a ≤ b) := by
  by_cases h : a ≤ b
  · rw [decide_eq_true h]; rw [Nat.ble_eq]; exact h
  · rw [decide_eq_false h]; cases hh : Nat.ble a b with
    | false => rfl
    | true => rw [Nat.ble_eq] at hh; exact absurd hh h

section
variable {P : Program} {R : Rec}

theorem ptrV_else {x : AV} (hx : ∀ i o, x ≠ .ptr i o) (z : Res) (k : Nat → Nat → Res) : ptrV x z k = z := by cases x <;> first | rfl | exact absurd rfl (hx _ _)
theorem intV_else {x : AV} (hx : ∀ i o, x ≠ .int i o) (z : Res) (k : IntKind → Int → Res) : intV x z k = z := by cases x <;> first | rfl | exact absurd rfl (hx _ _)
theorem slV_else {x : AV} (hx : ∀ i o l s c, x ≠ .sl i o l s c) (z : Res) (k : Nat → Nat → Nat → Nat → Res) : slV x z k = z := by cases x <;> first | rfl | exact absurd rfl (hx _ _ _ _ _)
theorem aggV_else {x : AV} (hx : ∀ l, x ≠ .agg l) (z : Res) (k : List AV → Res) : aggV x z k = z := by cases x <;> first | rfl | exact absurd rfl (hx _)
theorem tupV_else {x : AV} (hx : ∀ l, x ≠ .tup l) (z : Res) (k : List AV → Res) : tupV x z k = z := by cases x <;> first | rfl | exact absurd rfl (hx _)

theorem strV_str (s : List Nat) (z : Res) (k : List Nat → Res) : strV (.str s) z k = k s := rfl
theorem strV_else {x : AV} (hx : ∀ s, x ≠ .str s) (z : Res) (k : List Nat → Res) : strV x z k = z := by cases x <;> first | rfl | exact absurd rfl (hx _)
theorem oneB_eq (x : AV) : oneB x = oneA x := by cases x <;> rfl
theorem lnO_eq (x : AV) : lnO x = lenA x := by
  cases x <;> first
    | rfl
    | (show some (lnG _) = some _; rw [lnG_eq])

theorem allOneG_eq (l : List AV) : allOneG l = l.all oneA := by
  induction l with
  | nil => rfl
  | cons a l ih =>
    show @Bool.rec (fun _ => Bool) false (allOneG l) (oneB a) = _
    rw [ih, oneB_eq, bool_rec_cond, List.all_cons]
    cases oneA a <;> rfl
theorem cellsAtF_eq (h : AH) (id off n : Nat) : cellsAtF h id off n = cellsAt h id off n := by
  unfold cellsAtF cellsAt
  cases h.get id with
  | none => rfl
  | some o =>
    cases o with
    | cells cs own text =>
      show @Bool.rec (fun _ => Option (List AV)) none (some (takeQ (dropG cs off) n)) (inG cs (Nat.add off n)) = _
      rw [bool_rec_cond, inG_eq, takeQ_eq, dropG_eq]
      by_cases hle : off + n ≤ cs.length
      · rw [decide_eq_true (show Nat.add off n ≤ cs.length from hle)]; simp [hle]
      · rw [decide_eq_false (show ¬ Nat.add off n ≤ cs.length from hle)]; simp [hle]
    | _ => rfl
theorem firstF_eq (h : AH) (size n : Nat) (x : AV) : firstF h size n x = firstA h size n x := by
  cases x with
  | nilsl =>
    show @Bool.rec (fun _ => Option (List AV)) none (some []) (Nat.beq n 0) = _
    rw [bool_rec_cond, nat_beq_dec]
    by_cases hn : n = 0 <;> simp [firstA, hn]
  | sl id off len sz c =>
    show @Bool.rec (fun _ => Option (List AV)) none (@Bool.rec (fun _ => Option (List AV)) none (cellsAtF h id off (Nat.mul n size)) (Nat.ble n len)) (Nat.beq sz size) = _
    rw [bool_rec_cond, bool_rec_cond, nat_beq_dec, ble_dec, cellsAtF_eq]
    by_cases h1 : sz = size <;> by_cases h2 : n ≤ len <;> simp [firstA, h1, h2]
  | str s =>
    show @Bool.rec (fun _ => Option (List AV)) none (some (mapG (fun (b : Nat) => AV.int .u8 (.ofNat b)) (takeG s n))) (Nat.beq size 1) = _
    rw [bool_rec_cond, nat_beq_dec, mapG_eq, takeG_eq]
    by_cases hn : size = 1 <;> simp [firstA, hn]
  | _ => rfl

theorem cellsG_eq (x : AV) : cellsG x = cellsA x := by cases x <;> rfl
theorem putG_eq (cs : List AV) (off : Nat) (vs : List AV) : putG cs off vs = putCells cs off vs := by
  unfold putG putCells
  rw [appG_eq, appG_eq, takeG_eq, dropG_eq, lnG_eq, List.append_assoc]
  rfl
theorem optO_eq {α β : Type} (o : Option α) (k : α → Option β) : optO o k = o.bind k := by cases o <;> rfl
theorem optO_map {α β : Type} (o : Option α) (b : β) : optO o (fun v => some (v, b)) = o.map (·, b) := by cases o <;> rfl
theorem boolO_eq {β : Type} (b : Bool) (x : Option β) : boolO b x = if b then x else none := by cases b <;> rfl
theorem fillS_eq (place : Nat → Option (Nat × Nat)) (t : Env) : ∀ (parts : List (Nat × Operand)) (cells : List AV), (fillS place parts).run t cells = fillA place cells (parts.map fun (i, x) => (i, opnd t x))
  | [], cells => rfl
  | p :: r, cells => by
    have ih := fillS_eq place t r
    obtain ⟨i, x⟩ := p
    show (match place i with
      | some (off, size) => (⟨fun t cells => optO (cellsG ((opndS x).run t)) (fun vs => boolO (Nat.beq (lnG vs) size) (boolO (inG cells (Nat.add off size)) ((fillS place r).run t (putG cells off vs))))⟩ : FillO)
      | none => ⟨fun _ _ => none⟩).run t cells = _
    simp only [List.map_cons, fillA]
    cases place i with
    | none => rfl
    | some q =>
      obtain ⟨off, size⟩ := q
      simp only [opndS_eq, optO_eq, boolO_eq, cellsG_eq, putG_eq, lnG_eq, inG_eq, ih, Option.bind_eq_bind, Option.bind_some, nat_beq_dec]
      congr 1
      funext vs
      by_cases h1 : vs.length = size <;> by_cases h2 : off + size ≤ cells.length <;> simp [h1, h2]
theorem buildS_eq (T : TypeId) (parts : List (Nat × Operand)) (t : Env) (h : AH) (K : AV → AH → Res) : (buildS P T parts).run R t h K = optE (evBuild P T (parts.map fun (i, x) => (i, opnd t x))) fun v => K v h := by
  unfold buildS evBuild
  cases tzero P T with
  | none => rfl
  | some z =>
    simp only [Option.bind_eq_bind, Option.bind_some]
    cases cellsA (toAV z) with
    | none => rfl
    | some zc =>
      simp only [Option.bind_some]
      cases P.underlying T with
      | none => rfl
      | some d =>
        cases d with
        | struct fs =>
          simp only
          cases fieldsA P fs.toList with
          | none => rfl
          | some places =>
            simp only [fillS_eq, Option.bind_some]
            cases fillA (places[·]?) zc (parts.map fun (i, x) => (i, opnd t x)) <;> rfl
        | array n e =>
          simp only
          cases tsize P e with
          | none => rfl
          | some sz =>
            simp only [fillS_eq, Option.bind_some]
            cases fillA (fun i => some (i * sz, sz)) zc (parts.map fun (i, x) => (i, opnd t x)) <;> rfl
        | _ => rfl
theorem allocS_eq (op : Op) (t : Env) : (allocS P op).run t = allocA P (opnd t) op := by
  cases op with
  | alloc e =>
    unfold allocS allocA
    simp only [Option.bind_eq_bind]
    cases tzero P e with
    | none => rfl
    | some z =>
      simp only [Option.bind_some]
      cases cellsA (toAV z) with
      | none => rfl
      | some cs =>
        simp only [Option.bind_some]
        cases cs.isEmpty <;> rfl
  | box e x =>
    unfold allocS allocA
    simp only [Option.bind_eq_bind, opndS_eq, cellsG_eq, optO_eq]
  | buildSlice T len parts =>
    simp only [allocS, allocA, bsA, Option.bind_eq_bind]
    cases hu : P.underlying T with
    | none => rfl
    | some d =>
      cases d with
      | slice e =>
        simp only
        cases hs : tsize P e with
        | none => rfl
        | some sz =>
          simp only [Option.bind_some, ble_dec, Nat.mul_eq]
          by_cases hl : len * sz ≤ 16777216
          · rw [if_neg (show ¬ len * sz > 2 ^ 24 by omega)]
            simp only [hl, decide_true]
            cases hz0 : tzero P e with
            | none => rfl
            | some z =>
              simp only [Option.bind_some]
              cases hzc : cellsA (toAV z) with
              | none => rfl
              | some zc =>
                simp only [Option.bind_some, nat_beq_dec]
                by_cases hz : zc.length = sz
                · simp only [hz, decide_true, if_true, optO_eq, fillS_eq]
                  congr 1
                · simp only [hz, decide_false, if_false]
          · rw [if_pos (show len * sz > 2 ^ 24 by omega)]
            simp only [hl, decide_false]
      | _ => rfl
  | _ => rfl
theorem alE_eq (h : AH) (o : Option (AO × (Nat → AV))) (K : AV → AH → Res) : alE h o K = oB (stepR R (allocated h o) h) K := by
  cases o with
  | none => rfl
  | some r => rfl
theorem wantS_eq (ops : Array Oper) (o : Oper) (t : Env) : (wantS ops o).run t = wantedA ops t o := by
  unfold wantS wantedA
  cases o.guard with
  | none => rfl
  | some g =>
    obtain ⟨j, w⟩ := g
    simp only
    cases (ops[j]?).bind (·.dst) with
    | none => rfl
    | some d =>
      simp only [← Tr.get_eq]
      cases t.get d with
      | none => rfl
      | some x => cases x <;> rfl
theorem loadO_eq (h : AH) (T : TypeId) (x : AV) : loadO P h T x = evLoad P h T x := by
  unfold loadO evLoad
  cases hu : P.underlying T with
  | none => cases x <;> first | rfl | (simp only; split <;> simp_all)
  | some d =>
    cases x with
    | ptr id off =>
      simp only
      cases hg : h.get id with
      | none => rfl
      | some ob =>
        cases ob with
        | cells cs o tx =>
          simp only
          cases aggT d with
          | true =>
            simp only [if_true]
            cases tsize P T with
            | none => rfl
            | some n =>
              simp only [boolO_eq, inG_eq, takeQ_eq, dropG_eq, decide_eq_true_eq]
              rfl
          | false => simp [nthG_eq]
        | _ => rfl
    | _ => rfl
theorem resultF_eq (h : AH) (t : Env) (r : ResultVar) : resultF P h t r = resultA P h t r := by
  cases r with
  | tmp i => simp only [resultF, resultA, opndS_eq, opnd]
  | cell a ty => simp only [resultF, resultA, opndS_eq, opnd, loadO_eq]
theorem resultsF_eq (h : AH) (t : Env) (rs : List ResultVar) : resultsF P h t rs = resultsA P h t rs := by
  unfold resultsF
  split
  · rename_i r
    unfold resultsA
    rw [resultF_eq]
    cases hr : resultA P h t r <;> simp [hr]
  · rename_i r s
    unfold resultsA
    rw [resultF_eq, resultF_eq]
    cases hr : resultA P h t r <;> cases hs : resultA P h t s <;> simp [hr, hs, optO]
  · rfl
theorem argsG_eq : ∀ (l : List AV) (i : Nat) (t : Env), argsG l i t = argsEnv l i t
  | [], _, _ => rfl
  | a :: l, i, t => by
    show argsG l (i + 1) ((setT AV i).run t (some a)) = argsEnv l (i + 1) (t.set i (some a))
    rw [argsG_eq l, ← Tr.set_eq]

theorem loadS_eq (T : TypeId) (g : GetS) (t : Env) (h : AH) (K : AV → AH → Res) : (loadS P T g).run R t h K = optE (evLoad P h T (g.run t)) fun v => K v h := by
  unfold loadS evLoad
  cases hu : P.underlying T with
  | none =>
    simp only [noS]
    split
    · split <;> first | rfl | simp_all
    · rfl
  | some d =>
    simp only
    cases ha : aggT d with
    | true =>
      simp only
      cases hs : tsize P T with
      | none =>
        simp only [noS]
        split
        · split
          · rename_i hh; cases hh; simp [ha]
          · rfl
        · rfl
      | some n =>
        simp only
        split
        · rename_i id off hx
          rw [hx, ptrV_ptr]
          cases hg : h.get id with
          | none => rfl
          | some ob =>
            cases ob with
            | cells cs o tx =>
              simp only [cellsO_cells, ha, if_true, inG_eq, takeF_eq, dropF_eq]
              by_cases hle : off + n ≤ cs.length
              · rw [if_pos hle, decide_eq_true (show Nat.add off n ≤ cs.length from hle)]; rfl
              · rw [if_neg hle, decide_eq_false (show ¬ Nat.add off n ≤ cs.length from hle)]; rfl
            | map es _ _ => rfl
            | mit => rfl
            | loop => rfl
            | defs => rfl
            | sit => rfl
        · rename_i hx; rw [ptrV_else (fun i o e => hx i o e)]; rfl
    | false =>
      simp only
      split
      · rename_i id off hx
        rw [hx, ptrV_ptr]
        cases hg : h.get id with
        | none => rfl
        | some ob =>
          cases ob with
          | cells cs o tx => simp [ha, nthF_eq]
          | map es _ _ => rfl
          | mit => rfl
          | loop => rfl
          | defs => rfl
          | sit => rfl
      · rename_i hx; rw [ptrV_else (fun i o e => hx i o e)]; rfl

theorem storeS_eq (T : TypeId) (a x : GetS) (t : Env) (h : AH) (K : AV → AH → Res) : (storeS P T a x).run R t h K = optE (evStore P h T (a.run t) (x.run t)) fun h' => K (.tup []) h' := by
  unfold storeS
  split
  · rename_i hs
    simp only
    cases ha : a.run t with
    | ptr id off =>
      rw [ptrV_ptr]
      have fast : ∀ v : AV, cellsA v = some [v] → oneA v = true → cellsO (h.get id) (fun cs own text => boolE own (boolE (inG cs (Nat.succ off)) (K (.tup []) (h.put id (.cells (setF v cs off) true text))) none) none) = optE (evStore P h T (.ptr id off) v) fun h' => K (.tup []) h' := by
        intro v hc ho
        unfold evStore
        rw [hc]
        simp only [hs, List.length_cons, List.length_nil, Nat.zero_add, List.all_cons, List.all_nil, ho, Bool.and_true, beq_self_eq_true, Bool.true_and, decide_eq_true_eq]
        cases hg : h.get id with
        | none => rfl
        | some ob =>
          cases ob with
          | cells cs own tx =>
            cases own with
            | false => rfl
            | true =>
              simp only [cellsO_cells, boolE_true, inG_eq, setF_eq]
              by_cases hle : off + 1 ≤ cs.length
              · rw [decide_eq_true (show off.succ ≤ cs.length from hle), boolE_true]
                simp [hle, putCells_one cs off v hle]
              · rw [decide_eq_false (show ¬ off.succ ≤ cs.length from hle)]
                simp [hle]
          | map es _ _ => rfl
          | mit => rfl
          | loop => rfl
          | defs => rfl
          | sit => rfl
      cases hx : x.run t <;> first
        | exact fast _ rfl rfl
        | rfl
    | _ => rw [ptrV_else (by intro i o e; cases e)]; unfold evStore; rfl
  · rename_i n hn1 hs
    simp only
    cases ha : a.run t with
    | ptr id off =>
      rw [ptrV_ptr]
      unfold evStore
      rw [cellsG_eq]
      cases hc : cellsA (x.run t) with
      | none => rfl
      | some vs =>
        simp only [optE_some, lnG_eq, nat_beq_dec, hs]
        by_cases hl : vs.length = n
        · subst hl
          simp only [decide_true, boolE_true, beq_self_eq_true, Bool.true_and]
          cases hg : h.get id with
          | none => rfl
          | some ob =>
            cases ob with
            | cells cs own tx =>
              cases own with
              | false => rfl
              | true =>
                simp only [cellsO_cells, boolE_true, inG_eq, allOneG_eq, putG_eq, Nat.add_eq]
                by_cases hle : off + vs.length ≤ cs.length
                · cases ho : vs.all oneA <;> simp [hle]
                · simp [hle]
            | _ => rfl
        · simp only [hl, decide_false, boolE_false]
          cases hg : h.get id with
          | none => rfl
          | some ob =>
            cases ob with
            | cells cs own tx =>
              cases own with
              | false => rfl
              | true =>
                have : (some n == some vs.length) = false := by simp; omega
                simp [this]
            | _ => rfl
    | _ => rw [ptrV_else (by intro i o e; cases e)]; unfold evStore; rfl
  · rfl

theorem intA_add (k : IntKind) (x y : Int) : intA .add k x y = some (.int k (k.wrap (x + y))) := rfl

theorem ofNat_div (m n : Nat) : (Int.ofNat m).tdiv (Int.ofNat n) = Int.ofNat (m / n) := rfl
theorem ofNat_mod (m n : Nat) : (Int.ofNat m).tmod (Int.ofNat n) = Int.ofNat (m % n) := rfl
theorem bv_ofInt (w m : Nat) : (BitVec.ofInt w (Int.ofNat m)).toNat = m % 2 ^ w := by
  simp only [BitVec.ofInt, BitVec.toNat_ofNatLT, Int.ofNat_eq_natCast]
  omega

theorem binS_eq (op : BinOp) (k : IntKind) (a b : Int) : (binS op).run k a b = intA op k a b := by
  cases op <;> simp only [binS] <;> cases a <;> cases b <;> try rfl
  · simp only [natE2, intA, wrapN_eq]; rfl
  · rename_i m n
    simp only [natE2, intA, wrapN_eq, bool_rec_cond, ble_dec]
    by_cases h : n ≤ m
    · simp only [h, decide_true, cond_true]
      congr 3
      simp only [Int.ofNat_eq_natCast]
      show ((m - n : Nat) : Int) = _
      omega
    · simp only [h, decide_false, cond_false]
  · simp only [natE2, intA, wrapN_eq]; congr 3
  · rename_i m n
    simp only [natE2, intA, wrapN_eq, bool_rec_cond, beq0]
    by_cases h : n = 0
    · simp [h]
    · simp [h]; rfl
  · rename_i m n
    simp only [natE2, intA, bool_rec_cond, beq0]
    by_cases h : n = 0
    · simp [h]
    · simp [h]; rfl
  · rename_i m n
    simp only [natE2, intA, wrapN_eq, BitVec.toNat_and, bv_ofInt, kMod_eq]; rfl
  · rename_i m n
    simp only [natE2, intA, wrapN_eq, BitVec.toNat_or, bv_ofInt, kMod_eq]; rfl
  · rename_i m n
    simp only [natE2, intA, wrapN_eq, BitVec.toNat_xor, bv_ofInt, kMod_eq]; rfl
  · rename_i m n
    simp only [natE2, intA, nat_beq_dec]
    congr 2
    by_cases h : m = n
    · simp [h]
    · have : ¬ ((m : Int) = (n : Int)) := by omega
      simp [h, this]
  · rename_i m n
    simp only [natE2, intA, nat_beq_dec, bool_rec_cond]
    congr 2
    by_cases h : m = n
    · simp [h]
    · have : ¬ ((m : Int) = (n : Int)) := by omega
      simp [h, this]
  · rename_i m n
    simp only [natE2, intA, blt_dec]
    congr 2
    by_cases h : m < n <;> simp [h]
  · rename_i m n
    simp only [natE2, intA, ble_dec]
    congr 2
    by_cases h : m ≤ n <;> simp [h]
  · rename_i m n
    simp only [natE2, intA, blt_dec]
    congr 2
    by_cases h : n < m <;> simp [h]
  · rename_i m n
    simp only [natE2, intA, ble_dec]
    congr 2
    by_cases h : n ≤ m <;> simp [h]

end
end Go.Abs

namespace Go.Abs
open Go
set_option linter.unusedVariables false

section
variable {P : Program} {R : Rec}

theorem shl_eq (k : IntKind) (a b : Int) : (shS .shl).run k a b = shiftA .shl k a b := by
  cases a <;> cases b <;> try rfl
  rename_i m n
  simp only [shS, natE2, shiftA, wrapN_eq, bool_rec_cond, ble_dec]
  rw [if_neg (by simp)]
  congr 3
  simp only [Int.ofNat_eq_natCast, Int.toNat_natCast]
  show ((m * 2 ^ (cond (decide (n ≤ k.bits)) n k.bits) : Nat) : Int) = _
  rw [Int.natCast_mul, Int.natCast_pow]
  congr 2
  by_cases h : n ≤ k.bits
  · simp [h, Nat.min_eq_left h]
  · simp [h, Nat.min_eq_right (Nat.le_of_not_le h)]

theorem shr_eq (k : IntKind) (a b : Int) : (shS .shr).run k a b = shiftA .shr k a b := by
  cases a <;> cases b <;> try rfl
  rename_i m n
  simp only [shS, natE2, shiftA, bool_rec_cond, ble_dec]
  rw [if_neg (by simp)]
  congr 2
  simp only [Int.ofNat_eq_natCast, Int.toNat_natCast]
  have hm : min n k.bits = cond (decide (n ≤ k.bits)) n k.bits := by
    by_cases h : n ≤ k.bits
    · simp [h, Nat.min_eq_left h]
    · simp [h, Nat.min_eq_right (Nat.le_of_not_le h)]
  rw [hm]
  show ((m / 2 ^ (cond (decide (n ≤ k.bits)) n k.bits) : Nat) : Int) = _
  rw [Int.natCast_ediv, Int.natCast_pow, Int.fdiv_eq_ediv_of_nonneg _ (by exact Int.le_of_lt (Int.pow_pos (by decide)))]
  rfl

theorem binOpS_eq (op : BinOp) (T : TypeId) (x y : GetS) (t : Env) (h : AH) (K : AV → AH → Res) : (binOpS P op T x y).run R t h K = optE (binA P h op T (x.run t) (y.run t)) fun v => K v h := by
  have sh : ∀ (op : BinOp), (op = .shl ∨ op = .shr) → intV (x.run t) (optE (binA P h op T (x.run t) (y.run t)) (fun v => K v h)) (fun k a => intV (y.run t) (optE (binA P h op T (x.run t) (y.run t)) (fun v => K v h)) (fun _ b => optE ((shS op).run k a b) (fun v => K v h))) = optE (binA P h op T (x.run t) (y.run t)) fun v => K v h := by
    intro op hop
    cases hx : x.run t with
    | int k a =>
      cases hy : y.run t with
      | int k' b =>
        rcases hop with rfl | rfl
        · simp only [intV_int, shl_eq]; rfl
        · simp only [intV_int, shr_eq]; rfl
      | _ => rfl
    | _ => rfl
  have other : ∀ (op : BinOp), op ≠ .shl → op ≠ .shr → intV (x.run t) (optE (binA P h op T (x.run t) (y.run t)) (fun v => K v h)) (fun k a => intV (y.run t) (optE (binA P h op T (x.run t) (y.run t)) (fun v => K v h))
      (fun k' b => boolE (Nat.beq (kIdx k) (kIdx k')) (optE ((binS op).run k a b) (fun v => K v h)) none)) = optE (binA P h op T (x.run t) (y.run t)) fun v => K v h := by
    intro op h1 h2
    cases hx : x.run t with
    | int k a =>
      cases hy : y.run t with
      | int k' b =>
        simp only [intV_int, binS_eq, kIdx_eq]
        have hb : binA P h op T (.int k a) (.int k' b) = if k = k' then intA op k a b else none := by
          cases op <;> first | rfl | exact absurd rfl h1 | exact absurd rfl h2
        rw [hb]
        by_cases hk : k = k'
        · simp [hk]
        · simp [hk]
      | _ => rfl
    | _ => rfl
  unfold binOpS
  cases op <;> first
    | exact sh _ (.inl rfl)
    | exact sh _ (.inr rfl)
    | exact other _ (by intro e; cases e) (by intro e; cases e)

theorem fieldAddrS_eq (T : TypeId) (x : Operand) (f : Nat) (t : Env) (h : AH) (K : AV → AH → Res) : (fieldAddrS P T (opndS x) f).run R t h K = oB (stepR R (evOper P (opnd t) (opOf (.fieldAddr T x f)) h) h) K := by
  unfold fieldAddrS fieldOff
  simp only [evOper, opOf]
  cases hu : P.underlying T with
  | none => rfl
  | some d =>
    cases d with
    | struct fs =>
      simp only
      cases hx : opnd t x with
      | ptr id off =>
        simp only
        cases hf : fs[f]? with
        | none => rfl
        | some fd =>
          simp only
          cases hs : tsize P fd.type with
          | none => rfl
          | some n =>
            cases n with
            | zero => rfl
            | succ n => simp only [opndS_eq, hx]; rfl
      | _ =>
        simp only
        split
        · simp only [opndS_eq, hx]; rfl
        · rfl
    | _ => rfl

theorem partS_eq (T : TypeId) (off : Nat) (x : GetS) (t : Env) (h : AH) (K : AV → AH → Res) : (partS P T off x).run R t h K = match x.run t with
    | .agg cs => optE (partA P T cs off) fun v => K v h
    | _ => none := by
  unfold partS
  cases hu : P.underlying T with
  | none => simp only [noS]; split <;> simp [partA, hu]
  | some d =>
    simp only
    cases ha : aggT d with
    | true =>
      simp only
      cases hs : tsize P T with
      | none => simp only [noS]; split <;> simp [partA, hu, ha, hs]
      | some n =>
        simp only
        cases hx : x.run t with
        | agg cs =>
          simp only [aggV_agg, inG_eq, takeF_eq, dropF_eq]
          by_cases hle : off + n ≤ cs.length
          · simp [partA, hu, ha, hs, hle]
          · simp [partA, hu, ha, hs, hle]
        | _ => rfl
    | false =>
      simp only
      cases hx : x.run t with
      | agg cs => simp [partA, hu, ha, nthF_eq]
      | _ => rfl

theorem fieldS_eq (T : TypeId) (x : Operand) (f : Nat) (t : Env) (h : AH) (K : AV → AH → Res) : (fieldS P T (opndS x) f).run R t h K = oB (stepR R (evOper P (opnd t) (opOf (.field T x f)) h) h) K := by
  unfold fieldS
  simp only [evOper, opOf]
  cases hu : P.underlying T with
  | none => rfl
  | some d =>
    cases d with
    | struct fs =>
      simp only
      cases hx : opnd t x with
      | agg cs =>
        simp only
        cases hf : fs[f]? with
        | none => rfl
        | some fd => simp only [partS_eq, opndS_eq, hx, oB_val]
      | _ =>
        simp only
        split
        · simp only [partS_eq, opndS_eq, hx]; rfl
        · rfl
    | _ => rfl

theorem natE_ofNat (m : Nat) (k : Nat → Res) : natE (.ofNat m) k = k m := rfl
theorem natE_neg (m : Nat) (k : Nat → Res) : natE (.negSucc m) k = none := rfl

theorem idxS_eq (T : TypeId) (x i : GetS) (t : Env) (h : AH) (K : AV → AH → Res) : (idxS P T x i).run R t h K = optE (evIndexAddr P T (x.run t) (i.run t)) fun v => K v h := by
  unfold idxS evIndexAddr
  cases hu : P.underlying T with
  | none => rfl
  | some d =>
    cases d with
    | array n e =>
      simp only
      cases hs : tsize P e with
      | none =>
        simp only [noS]
        split <;> first | rfl | simp_all
      | some sz =>
        simp only
        cases hx : x.run t with
        | ptr id off =>
          cases hi : i.run t with
          | int q j =>
            cases j with
            | ofNat m =>
              simp only [ptrV_ptr, intV_int, natE_ofNat, blt_dec, below]
              by_cases hm : m < n <;> simp [hm, hs]
            | negSucc m => simp [natE_neg, below]
          | _ => rfl
        | _ => rfl
    | slice e =>
      simp only
      cases hs : tsize P e with
      | none =>
        simp only [noS]
        split <;> first | rfl | simp_all
      | some n =>
        simp only
        cases hx : x.run t with
        | sl id off len sz c =>
          cases hi : i.run t with
          | int q j =>
            cases j with
            | ofNat m =>
              simp only [slV_sl, intV_int, natE_ofNat, blt_dec, nat_beq_dec, below]
              by_cases hm : m < len
              · by_cases hz : n = sz
                · subst hz; simp [hm, hs]
                · simp [hm, hz, hs]
              · simp [hm]
            | negSucc m => simp [natE_neg, below]
          | _ => rfl
        | _ => rfl
    | _ => rfl

theorem convS_eq (s d : TypeId) (x : GetS) (t : Env) (h : AH) (K : AV → AH → Res) : (convS P s d x).run R t h K = oB (stepR R (evConvert P h s d (x.run t)) h) K := by
  unfold convS
  split
  · rename_i ds k h1 h2
    simp only
    cases hx : x.run t with
    | int q n =>
      rw [intV_int, wrapI_eq]
      unfold evConvert
      rw [h1, h2]
      rfl
    | _ => rfl
  · rfl

theorem appS_eq (at_ : Array TypeId) (s x : GetS) (t : Env) (h : AH) (K : AV → AH → Res) : (appS P at_ s x).run R t h K = oB (stepR R (evAppend P h at_ (s.run t) (x.run t)) h) K := by
  unfold appS
  split
  · rename_i st xt h0 h1
    split
    · rename_i size bytes hi
      unfold appI2 at hi
      split at hi
      · rename_i e d hst hxt
        simp only [Option.bind_eq_some_iff] at hi
        obtain ⟨i, hi1, z, hi2, zc, hi3, hi4⟩ := hi
        cases hc : (Nat.beq zc.length i.size && !(Nat.beq i.size 0) && noInt d) with
        | false => rw [hc] at hi4; cases hi4
        | true =>
          rw [hc] at hi4
          simp only [cond_true, Option.some.injEq, Prod.mk.injEq] at hi4
          obtain ⟨rfl, rfl⟩ := hi4
          simp only [Bool.and_eq_true, Bool.not_eq_true', nat_beq_dec, decide_eq_true_eq, decide_eq_false_iff_not] at hc
          obtain ⟨⟨hc1, hc2⟩, hc3⟩ := hc
          have hap : appendedA P h i zc xt (x.run t) = (lenA (x.run t)).bind fun n => (firstA h i.size n (x.run t)).bind fun new => some (n, new) := by
            unfold appendedA
            rw [hxt]
            cases d <;> first | (cases hc3; done) | rfl
          unfold evAppend
          simp only [h0, h1, hst, hi1, hi2, hi3, Option.bind_eq_bind, Option.bind_some, hap]
          rw [if_neg (by simp [hc1, hc2])]
          simp only [lnO_eq, firstF_eq]
          cases hl : lenA (x.run t) with
          | none => rfl
          | some n =>
            simp only [optE_some, Option.bind_some]
            cases hf : firstA h i.size n (x.run t) with
            | none => rfl
            | some new =>
              simp only [optE_some, Option.bind_some]
              cases hl2 : lenA (s.run t) with
              | none => rfl
              | some len =>
                simp only [optE_some, Option.bind_some]
                cases hf2 : firstA h i.size len (s.run t) with
                | none => rfl
                | some old =>
                  simp only [optE_some, Option.bind_some, nat_beq_dec, ble_dec, allOneG_eq]
                  by_cases hn : n = 0
                  · simp only [hn, decide_true, boolE_true, if_true]
                    cases s.run t <;> rfl
                  · simp only [hn, decide_false, boolE_false, if_false]
                    cases ha : new.all oneA with
                    | false => rfl
                    | true =>
                      simp only [boolE_true, Bool.not_true, Bool.false_eq_true, if_false]
                      by_cases hb1 : (2 * (len + n) + 1000) * i.bytes ≤ 1099511627776
                      · rw [decide_eq_true (show Nat.mul (Nat.add (Nat.mul 2 (Nat.add len n)) 1000) i.bytes ≤ 1099511627776 from hb1)]
                        by_cases hb2 : len + n ≤ 1099511627776
                        · rw [decide_eq_true (show Nat.add len n ≤ 1099511627776 from hb2)]
                          rw [if_neg (by simp only [Bool.or_eq_true, decide_eq_true_eq]; intro hh; rcases hh with hh | hh <;> omega)]
                          simp only [boolE_true]
                          have own : ∀ (id off : Nat), cellsO (h.get id) (fun _ own text => boolE own (K (.sl h.nx 0 (Nat.add len n) i.size none) ((h.del id).new (.cells (appG old new) true (@Bool.rec (fun _ => Bool) (@Bool.rec (fun _ => Bool) true false (Nat.beq off 0)) true text)))) none) =
                              oB (stepR R (if ownBlock h id then newCells (h.del id) (old ++ new) (textBlock h id || !(decide (off = 0))) fun id => .sl id 0 (len + n) i.size none else none) h) K := by
                            intro id off
                            unfold ownBlock textBlock
                            cases h.get id with
                            | none => rfl
                            | some o =>
                              cases o with
                              | cells cs own text =>
                                cases own with
                                | false => rfl
                                | true =>
                                  simp only [cellsO_cells, boolE_true, if_true, newCells, stepR, oB_some, AH.nx_del, appG_eq, bool_rec_cond, nat_beq_dec]
                                  cases text <;> cases decide (off = 0) <;> rfl
                              | _ => rfl
                          cases hs : s.run t with
                          | nilsl => rfl
                          | sl id off l2 sz cap =>
                            cases cap with
                            | none => exact own id off
                            | some c =>
                              show boolE (Nat.blt c (Nat.add len n)) (K (.sl h.nx 0 (Nat.add len n) i.size none) (h.new (.cells (appG old new) true false))) (cellsO (h.get id) _) = _
                              rw [own id off, blt_dec]
                              by_cases hcl : c < len + n
                              · rw [decide_eq_true (show c < Nat.add len n from hcl), appG_eq]
                                exact (show _ = oB (stepR R (newCells h (old ++ new) false fun id => AV.sl id 0 (len + n) i.size none) h) K from rfl).trans (congrArg (fun z => oB (stepR R z h) K) (if_pos hcl).symm)
                              · rw [decide_eq_false (show ¬ c < Nat.add len n from hcl)]
                                exact (show boolE false _ _ = oB (stepR R (if ownBlock h id then newCells (h.del id) (old ++ new) (textBlock h id || !(decide (off = 0))) fun id => .sl id 0 (len + n) i.size none else none) h) K from rfl).trans (congrArg (fun z => oB (stepR R z h) K) (if_neg hcl).symm)
                          | _ => rfl
                        · rw [decide_eq_false (show ¬ Nat.add len n ≤ 1099511627776 from hb2)]
                          rw [if_pos (by simp only [Bool.or_eq_true, decide_eq_true_eq]; right; omega)]
                          rfl
                      · rw [decide_eq_false (show ¬ Nat.mul (Nat.add (Nat.mul 2 (Nat.add len n)) 1000) i.bytes ≤ 1099511627776 from hb1)]
                        rw [if_pos (by simp only [Bool.or_eq_true, decide_eq_true_eq]; left; omega)]
                        rfl
      · cases hi
    · rfl
  · rfl

theorem indexS_eq (T : TypeId) (x i : GetS) (t : Env) (h : AH) (K : AV → AH → Res) : (indexS P T x i).run R t h K = optE (evIndex P T (x.run t) (i.run t)) fun v => K v h := by
  unfold indexS
  split
  · rename_i hu
    unfold evIndex
    rw [hu]
    cases hx : x.run t with
    | str s =>
      cases hi : i.run t with
      | int q j =>
        cases j with
        | ofNat m =>
          simp only [hx, hi, strV_str, intV_int, natE_ofNat, below, nthG_eq]
          by_cases hm : m < s.length
          · simp [hm, List.getElem?_eq_getElem hm]
          · simp [hm, List.getElem?_eq_none (Nat.le_of_not_lt hm)]
        | negSucc m => simp only [hx, hi]; rfl
      | _ => simp only [hx, hi]; rfl
    | _ => simp only [hx]; rfl
  · rename_i n e hu
    split
    · rename_i d sz hd hs
      split
      · rename_i ha
        unfold evIndex
        rw [hu]
        simp only
        cases hx : x.run t with
        | agg cs =>
          cases hi : i.run t with
          | int q j =>
            cases j with
            | ofNat m =>
              simp only [aggV_agg, intV_int, natE_ofNat, below, nthG_eq, blt_dec, hs]
              by_cases hm : m < n
              · simp [hm, partA, hd, ha]
              · simp [hm]
            | negSucc m => simp [natE_neg, below, hs]
          | _ => rfl
        | _ => rfl
      · rfl
    · rfl
  · rfl

theorem bndE_eq (top : Nat) (v : AV) (k : Nat → Res) : bndE top v k = optE (boundA top v) k := by
  unfold bndE boundA
  cases v with
  | int q i =>
    cases i with
    | ofNat m =>
      simp only [intV_int, natE_ofNat, ble_dec, upTo]
      by_cases hm : m ≤ top <;> simp [hm]
    | negSucc m => rfl
  | _ => rfl

theorem optE_bind {α β : Type} (o : Option α) (f : α → Option β) (k : β → Res) : optE (o.bind f) k = optE o fun a => optE (f a) k := by cases o <;> rfl

theorem sliceS_eq (T : TypeId) (x : GetS) (lo hi mx : Option Operand) (t : Env) (h : AH) (K : AV → AH → Res) : (sliceS P T x lo hi mx).run R t h K = optE (evSlice P h T (x.run t) (lo.map (opnd t)) (hi.map (opnd t)) (mx.map (opnd t))) fun v => K v h := by
  unfold sliceS
  split
  · rename_i hu
    unfold evSlice
    rw [hu]
    cases hx : x.run t with
    | str s =>
      simp only [hx, strV_str, bndE_eq, opndS_eq, takeQ_eq, dropG_eq, lnG_eq, boundsA, Option.map_none, Option.isSome_none, Bool.false_eq_true, if_false, Option.bind_eq_bind, Option.bind_some, Option.getD_some]
      cases hi <;> cases lo <;> simp [optE_bind, bndE_eq]
    | _ => simp only [hx]; rfl
  · rename_i e hu
    split
    · rename_i n hs
      simp only
      cases hx : x.run t with
      | sl id off len sz cap =>
        show slW _ _ = _
        unfold evSlice
        rw [hu]
        simp only [slW, hs, Option.bind_eq_bind, Option.bind_some, nat_beq_dec]
        by_cases hn : n = sz
        · simp only [hn, decide_true, boolE_true, if_true, bndE_eq, opndS_eq, boundsA, Option.map_none, Option.bind_some]
          cases cap <;> cases hi <;> cases lo <;> simp [optE_bind, bndE_eq]
        · simp [hn]
      | _ => rfl
    · rfl
  · rfl

theorem callS_eq (c : Call) (t : Env) (h : AH) (K : AV → AH → Res) : (callS P c).run R t h K = oB (stepR R (evCall P h (opnd t) c) h) K := by
  unfold callS
  split
  · rename_i f hc
    simp only [opndsS_eq]
    unfold evCall
    rw [hc]
    simp [opnd, evInvoke, stepR]
  · rename_i f hne hc
    simp only [opndsS_eq, opndS_eq]
    have he : evCall P h (opnd t) c = (match opnd t f with
      | .func fn first captured => evInvoke P fn (first ++ c.args.toList.map (opnd t)) captured
      | .yld id => some (.yield id (c.args.toList.map (opnd t)))
      | _ => none) := by
      simp only [evCall, hc]
      rfl
    rw [he]
    cases hf : opnd t f with
    | func fn first captured =>
      cases fn with
      | func g =>
        show oB (R.call g (appG first (appG (c.args.toList.map (opnd t)) captured)) h) K = oB (stepR R (some (.call g ((first ++ c.args.toList.map (opnd t)) ++ captured))) h) K
        rw [appG_eq, appG_eq, List.append_assoc]
        rfl
      | _ => rfl
    | _ => rfl
  · rename_i hc
    split
    · rename_i s x ha
      rw [appS_eq]
      simp only [opndS_eq]
      unfold evCall
      rw [hc, ha]
      rfl
    · rfl
  · rename_i hc
    split
    · rename_i x ha
      have he : evCall P h (opnd t) c = val? h (evLen P h c.argTypes (opnd t x)) := by
        unfold evCall
        rw [hc, ha]
        rfl
      rw [he, oB_val]
      split
      · rename_i e hu
        simp only [opndS_eq]
        cases hx : opnd t x with
        | sl id off len sz cap =>
          rw [slV_sl]
          unfold evLen
          cases h0 : c.argTypes[0]? with
          | none => rw [h0] at hu; cases hu
          | some ty =>
            rw [h0] at hu
            simp only [Option.bind_some] at hu
            simp [hu]
        | _ => rfl
      · simp only [opndS_eq]
    · rfl
  · rfl

theorem opS_eq (op : Op) (t : Env) (h : AH) (K : AV → AH → Res) : (opS P op).run R t h K = oB (stepR R (evOper P (opnd t) (opOf op) h) h) K := by
  cases op with
  | move x => simp only [opS, evOper, opOf, stepR, opndS_eq, oB_some]
  | assign x => simp only [opS, evOper, opOf, stepR, opndS_eq, oB_some]
  | pick c a b =>
    simp only [opS, evOper, opOf, opndS_eq]
    cases hc : opnd t c with
    | bool q => cases q <;> rfl
    | _ => rfl
  | load T a => simp only [opS, evOper, opOf, oB_val, loadS_eq, opndS_eq]
  | store T a x =>
    simp only [opS, evOper, opOf, storeS_eq, opndS_eq]
    cases evStore P h T (opnd t a) (opnd t x) <;> rfl
  | binOp op T x y u => simp only [opS, evOper, opOf, oB_val, binOpS_eq, opndS_eq]
  | unOp op T x => simp only [opS, evOper, opOf, oB_val, opndS_eq]
  | nilCheck x =>
    simp only [opS, fbS, opndS_eq]
    cases hx : opnd t x with
    | ptr i o => rw [ptrV_ptr]; simp only [evOper, opOf, hx, stepR, oB_some]
    | _ => rfl
  | fieldAddr T x f => exact fieldAddrS_eq T x f t h K
  | field T x f => exact fieldS_eq T x f t h K
  | indexAddr T x i => simp only [opS, evOper, opOf, oB_val, idxS_eq, opndS_eq]
  | index T x i => simp only [opS, evOper, opOf, oB_val, indexS_eq, opndS_eq]
  | lookup T x i ok => simp only [opS, evOper, opOf, oB_val, opndS_eq]
  | slice T x lo hi mx => simp only [opS, evOper, opOf, oB_val, sliceS_eq, opndS_eq]
  | build T parts => simp only [opS, evOper, opOf, oB_val, buildS_eq]
  | alloc e => simp only [opS, evOper, opOf, alE_eq (R := R), allocS_eq]
  | box e x => simp only [opS, evOper, opOf, alE_eq (R := R), allocS_eq]
  | buildSlice T n parts => simp only [opS, evOper, opOf, alE_eq (R := R), allocS_eq]
  | extract x i =>
    simp only [opS, evOper, opOf, opndS_eq]
    cases hx : opnd t x with
    | tup l => simp only [tupV_tup, nthF_eq, oB_val]
    | _ => rfl
  | convert s d x => simp only [opS, evOper, opOf, convS_eq, opndS_eq]
  | call c => simp only [opS, evOper, opOf, callS_eq]
  | _ => rfl

end
end Go.Abs

namespace Go.Abs
open Go
set_option linter.unusedVariables false

section
variable {P : Program} {R : Rec}

noncomputable def oE (x : Option (Env × AH)) (K : Env → AH → Res) : Res :=
  match x with
  | some (t, h) => K t h
  | none => none

theorem putS_eq (n : Nat) (dst : Option Tmp) (t : Env) (v : AV) (K : Env → Res) : (putS n dst).run t v K = optE (putA n t dst v) K := by
  cases dst with
  | none => rfl
  | some d =>
    show (@Bool.rec (fun _ => PutS) ⟨fun _ _ _ => none⟩ ⟨fun t v K => K ((setT AV d).run t (some v))⟩ (Nat.blt d n)).run t v K = _
    rw [blt_dec]
    unfold putA
    by_cases h : d < n
    · simp only [h, decide_true, if_true, optE_some]
      rw [← Tr.set_eq]
    · simp only [h, decide_false, if_false, optE_none]

theorem stepS_eq (n : Nat) (ops : Array Oper) (o : Oper) (t : Env) (h : AH) (K : Env → AH → Res) : (stepS P n ops o).run R t h K = oE (evOp1 P R n ops o t h) K := by
  have ho : evOper P (opnd t) (opOf o.op) h = evOper P (opnd t) o h := rfl
  have yes : (opS P o.op).run R t h (fun v h' => (putS n o.dst).run t v (fun t' => K t' h')) = oE (match stepR R (evOper P (opnd t) o h) h with
      | some (v, h') => (putA n t o.dst v).map (·, h')
      | none => none) K := by
    rw [opS_eq, ho]
    cases hs : stepR R (evOper P (opnd t) o h) h with
    | none => rfl
    | some y =>
      obtain ⟨v, h'⟩ := y
      simp only [oB_some, putS_eq]
      cases putA n t o.dst v <;> rfl
  have no : (putS n o.dst).run t (.tup []) (fun t' => K t' h) = oE ((putA n t o.dst (.tup [])).map (·, h)) K := by
    rw [putS_eq]
    cases putA n t o.dst (.tup []) <;> rfl
  rw [evOp1_eq]
  unfold stepS
  cases hg : o.guard with
  | none =>
    simp only
    rw [show wantedA ops t o = some true by simp [wantedA, hg]]
    exact yes
  | some g =>
    simp only [wantS_eq]
    cases hw : wantedA ops t o with
    | none => rfl
    | some b =>
      cases b with
      | true => exact yes
      | false => exact no

theorem opsS_eq (n : Nat) (ops : Array Oper) (l : List Oper) : ∀ (t : Env) (h : AH) (K : Env → AH → Res), (opsS P n ops l).run R t h K = oE (evOps P R n ops l t h) K := by
  induction l with
  | nil => intro t h K; rfl
  | cons o l ih =>
    intro t h K
    show (stepS P n ops o).run R t h (fun t' h' => (opsS P n ops l).run R t' h' K) = _
    rw [stepS_eq]
    unfold evOps
    cases h1 : evOp1 P R n ops o t h with
    | none => rfl
    | some y => obtain ⟨t', h'⟩ := y; exact ih t' h' K

theorem evOp1_back (n : Nat) (ops : Array Oper) (o : Oper) (t : Env) (h : AH) : (evOp1 P R n ops o (restr t (o.looksAt ops) .nil) h).map (fun y => (backA t o.dst y.1, y.2)) = evOp1 P R n ops o t h := by
  have put : ∀ (v : AV) (h' : AH), ((putA n (restr t (o.looksAt ops) .nil) o.dst v).map (·, h')).map (fun y => (backA t o.dst y.1, y.2)) = (putA n t o.dst v).map (·, h') := by
    intro v h'
    cases hp : putA n (restr t (o.looksAt ops) .nil) o.dst v with
    | none =>
      cases hq : putA n t o.dst v with
      | none => rfl
      | some t2 => obtain ⟨t3, h3, _⟩ := backA_put (t := restr t (o.looksAt ops) .nil) hq; rw [hp] at h3; cases h3
    | some t1 =>
      obtain ⟨t2, h2, h3⟩ := backA_put (t := t) hp
      rw [h2]
      simp [h3]
  rw [evOp1_eq, evOp1_eq, wantedA_restr, evOper_restr]
  cases hw : wantedA ops t o with
  | none => rfl
  | some b =>
    cases b with
    | false => exact put _ _
    | true =>
      simp only
      cases hs : stepR R (evOper P (opnd t) o h) h with
      | none => rfl
      | some y => exact put _ _

theorem dStS_eq (n : Nat) (ops : Array Oper) (base i : Nat) (o : Oper) (s : DS) (K : Env → AH → List (Nat × AO) → Res) :
    (dStS P n ops i o).run R base s.t s.h s.pend K = match drawStep P R n ops base i o s with
      | some s' => K s'.t s'.h s'.pend
      | none => none := by
  have low : ∀ (h : AH) (F : Env → AH → DS) (G : Env → AH → Res), (∀ t' h', G t' h' = K (F t' h').t (F t' h').h (F t' h').pend) →
      (stepS P n ops o).run R s.t h G = match (match evOp1 P R n ops o (restr s.t (o.looksAt ops) .nil) h with
        | some (t', h') => some (F (backA s.t o.dst t') h')
        | none => none) with
      | some s' => K s'.t s'.h s'.pend
      | none => none := by
    intro h F G hG
    rw [stepS_eq, ← evOp1_back]
    cases evOp1 P R n ops o (restr s.t (o.looksAt ops) .nil) h with
    | none => rfl
    | some y => obtain ⟨t', h'⟩ := y; exact hG _ _
  unfold dStS drawStep
  simp only [wantedA_restr, allocA_restr, wantS_eq, allocS_eq]
  generalize clsOf P o.op = c
  split
  · simp only
    cases hw : wantedA ops s.t o with
    | none => rfl
    | some b =>
      cases b with
      | true =>
        simp only [optE_some, boolE_true]
        cases ha : allocA P (opnd s.t) o.op with
        | none => rfl
        | some x =>
          obtain ⟨ob, mk⟩ := x
          simp only [optE_some, putS_eq]
          cases putA n s.t o.dst (mk (base + i)) <;> rfl
      | false =>
        simp only [optE_some, boolE_false, putS_eq]
        cases putA n s.t o.dst (.tup []) <;> rfl
  · exact low _ (fun t' h' => { t := t', h := h', pend := [] }) _ fun _ _ => rfl
  · rename_i n2 n3
    have := low s.h (fun t' _ => { t := t', h := s.h, pend := s.pend }) (fun t' _ => K t' s.h s.pend) fun _ _ => rfl
    rcases c with _ | _ | _ | _ | c
    · exact this
    · exact this
    · exact (n2 rfl).elim
    · exact (n3 rfl).elim
    · exact this

theorem dGo_eq (n : Nat) (ops : Array Oper) (base : Nat) (l : List Oper) : ∀ (i : Nat) (s : DS) (acc : List DS) (K : Env → AH → List (Nat × AO) → List DS → Res),
    (dGo P n ops l i).run R base s.t s.h s.pend acc K = match drawGo P R n ops base l i s with
      | some ss => (match ss[l.length]? with
        | some s' => K s'.t s'.h s'.pend (acc ++ ss)
        | none => none)
      | none => none := by
  induction l with
  | nil => intro i s acc K; rfl
  | cons o l ih =>
    intro i s acc K
    show (dStS P n ops i o).run R base s.t s.h s.pend (fun t' h' pend' => (dGo P n ops l (i + 1)).run R base t' h' pend' (acc ++ [s]) K) = _
    rw [dStS_eq]
    unfold drawGo
    cases h1 : drawStep P R n ops base i o s with
    | none => rfl
    | some s' =>
      simp only
      rw [ih (i + 1) s' (acc ++ [s]) K]
      cases h2 : drawGo P R n ops base l (i + 1) s' with
      | none => rfl
      | some ss => simp

theorem dGo0_eq (n : Nat) (ops : Array Oper) (base : Nat) (l : List Oper) : ∀ (i : Nat) (s : DS) (K : Env → AH → List (Nat × AO) → Res),
    (dGo0 P n ops l i).run R base s.t s.h s.pend K = match drawGo P R n ops base l i s with
      | some ss => (match ss[l.length]? with
        | some s' => K s'.t s'.h s'.pend
        | none => none)
      | none => none := by
  induction l with
  | nil => intro i s K; rfl
  | cons o l ih =>
    intro i s K
    show (dStS P n ops i o).run R base s.t s.h s.pend (fun t' h' pend' => (dGo0 P n ops l (i + 1)).run R base t' h' pend' K) = _
    rw [dStS_eq]
    unfold drawGo
    cases h1 : drawStep P R n ops base i o s with
    | none => rfl
    | some s' =>
      simp only
      rw [ih (i + 1) s' K]
      cases h2 : drawGo P R n ops base l (i + 1) s' with
      | none => rfl
      | some ss => simp

theorem drawS_eq (n : Nat) (ops : Array Oper) (t : Env) (h : AH) (K : Env → AH → Res) : (drawS P n ops).run R t h K = oE (evDraw P R n ops t h) K := by
  unfold drawS evDraw
  cases hf : P.follows .mixedOrders with
  | false => rfl
  | true =>
    simp only [if_true]
    cases hs : statGo P ops ops.toList 0 [] [] [] with
    | none => rfl
    | some prs =>
      cases prs with
      | nil =>
        simp only
        refine (dGo0_eq n ops h.nx ops.toList 0 { t, h := { h with nx := h.nx + ops.size }, pend := [] } _).trans ?_
        cases drawGo P R n ops h.nx ops.toList 0 { t, h := { h with nx := h.nx + ops.size }, pend := [] } with
        | none => rfl
        | some ss =>
          simp only [sameAll, if_true, Array.length_toList]
          cases ss[ops.size]? <;> rfl
      | cons p prs =>
        simp only
        refine (dGo_eq n ops h.nx ops.toList 0 { t, h := { h with nx := h.nx + ops.size }, pend := [] } [] _).trans ?_
        cases drawGo P R n ops h.nx ops.toList 0 { t, h := { h with nx := h.nx + ops.size }, pend := [] } with
        | none => rfl
        | some ss =>
          simp only [Array.length_toList, List.nil_append]
          cases hsm : sameAll P R n ops ss (p :: prs) with
          | true => simp only [if_true]; cases ss[ops.size]? <;> rfl
          | false => simp only [Bool.false_eq_true, if_false]; cases ss[ops.size]? <;> rfl

theorem oC_some (ex : Ex) (s : St) (K : Ex → Env → AH → List Nat → Res) : oC (some (ex, s)) K = K ex s.t s.h s.d := rfl

theorem codeS_eq (fn n : Nat) (r : Option Nat) (c : Code) : ∀ (t : Env) (h : AH) (d : List Nat) (K : Ex → Env → AH → List Nat → Res), (codeS P fn n c).run R r t h d K = oC (evCode P R r fn n c { t, h, d }) K := by
  induction c with
  | skip => intro t h d K; rfl
  | label l => intro t h d K; rfl
  | region id ops draw =>
    intro t h d K
    cases draw with
    | false =>
      show (opsS P n ops ops.toList).run R t h (fun t' h' => K .normal t' h' d) = _
      rw [opsS_eq]
      unfold evCode
      cases evOps P R n ops ops.toList t h <;> rfl
    | true =>
      show (drawS P n ops).run R t h (fun t' h' => K .normal t' h' d) = _
      rw [drawS_eq]
      unfold evCode
      cases evDraw P R n ops t h <;> rfl
  | seq a b iha ihb =>
    intro t h d K
    show (codeS P fn n a).run R r t h d (fun ex t' h' d' => exE ex ((codeS P fn n b).run R r t' h' d' K) (fun i => K (.exit i) t' h' d') (K .ret t' h' d')) = _
    rw [iha]
    conv => rhs; unfold evCode
    cases ha : evCode P R r fn n a { t, h, d } with
    | none => rfl
    | some y =>
      obtain ⟨ex, s⟩ := y
      rw [oC_some]
      cases ex with
      | normal => exact ihb s.t s.h s.d K
      | exit i => rfl
      | ret => rfl
  | cond c a b iha ihb =>
    intro t h d K
    show boolV ((opndS c).run t) (fun q => boolE q ((codeS P fn n a).run R r t h d K) ((codeS P fn n b).run R r t h d K)) = _
    rw [opndS_eq, iha, ihb]
    conv => rhs; unfold evCode
    cases hc : opnd t c with
    | bool q => cases q <;> rfl
    | _ => rfl
  | block id c ih =>
    intro t h d K
    show (codeS P fn n c).run R r t h d (fun ex t' h' d' => exE ex (K .normal t' h' d') (fun j => boolE (Nat.beq j id) (K .normal t' h' d') (K (.exit j) t' h' d')) (K .ret t' h' d')) = _
    rw [ih]
    conv => rhs; unfold evCode
    cases hc : evCode P R r fn n c { t, h, d } with
    | none => rfl
    | some y =>
      obtain ⟨ex, s⟩ := y
      rw [oC_some]
      cases ex with
      | normal => rfl
      | exit j =>
        show boolE (Nat.beq j id) (K .normal s.t s.h s.d) (K (.exit j) s.t s.h s.d) = oC (some (cond (Nat.beq j id) .normal (.exit j), s)) K
        cases Nat.beq j id <;> rfl
      | ret => rfl
  | loop c ih => intro t h d K; rfl
  | rangeFunc f ps a b iha ihb => intro t h d K; rfl
  | exit id => intro t h d K; rfl
  | scope c ih => intro t h d K; exact ih t h d K
  | goto l => intro t h d K; rfl
  | ret => intro t h d K; rfl
  | refuse w => intro t h d K; rfl

theorem fCode_eq (r : Option Nat) (fn n : Nat) (c : Code) (s : St) : fCode P R r fn n c s = evCode P R r fn n c s := by
  show (codeS P fn n c).run R r s.t s.h s.d (fun ex t' h' d' => some (ex, { t := t', h := h', d := d' })) = _
  rw [codeS_eq]
  show oC (evCode P R r fn n c s) _ = _
  cases evCode P R r fn n c s <;> rfl

theorem fFn_eq (S : Sums) (f : FuncId) (args : List AV) (h : AH) : fFn P S R f args h = evFn P S R f args h := by
  unfold fFn evFn
  cases S f args h with
  | some r => rfl
  | none =>
    simp only
    split
    · rfl
    · cases P.funcs[f]? with
      | none => rfl
      | some fn =>
        simp only
        cases fn.body with
        | none => rfl
        | some c =>
          simp only [fCode_eq, lnF_eq, ble_dec, argsG_eq, resultsF_eq, optO_map]
          by_cases hl : args.length ≤ fn.ntmps
          · simp only [hl, decide_true]
            rw [show fn.ntmps = nTmps fn args by unfold nTmps; omega]
            rfl
          · simp only [hl, decide_false]
            rfl

theorem fRound_eq (l : Nat) (args : List AV) (h : AH) : fRound P R l args h = evRound P R l args h := by
  unfold fRound evRound
  simp only [fCode_eq]
  rfl

theorem fN_eq (P : Program) (S : Sums) : ∀ k, fN P S k = evN P S k
  | 0 => rfl
  | k + 1 => by
    have ih := fN_eq P S k
    show ({ call := fFn P S (fN P S k), round := fRound P (fN P S k), loop := fun r fn n c s => @St.rec (fun _ => Res) (fun t h d => (codeS P fn n c).run (fN P S k) r t h d (fun ex t' h' d' => exE ex ((fN P S k).loop r fn n c { t := t', h := h', d := d' }) (fun i => some (.exit i, { t := t', h := h', d := d' })) (some (.ret, { t := t', h := h', d := d' })))) s } : Rec) = evN P S (k + 1)
    rw [ih]
    rw [show evN P S (k + 1) = { call := evFn P S (evN P S k), round := evRound P (evN P S k), loop := fun r fn n c s => match evCode P (evN P S k) r fn n c s with
        | some (.normal, s') => (evN P S k).loop r fn n c s'
        | x => x } from rfl]
    generalize evN P S k = R
    congr 1
    · funext f args h; exact fFn_eq S f args h
    · funext l args h; exact fRound_eq l args h
    · funext r fn n c s
      show (codeS P fn n c).run R r s.t s.h s.d _ = _
      rw [codeS_eq]
      show oC (evCode P R r fn n c s) _ = _
      cases evCode P R r fn n c s with
      | none => rfl
      | some y => obtain ⟨ex, s'⟩ := y; cases ex <;> rfl

end
end Go.Abs
end

section
namespace Go.Abs
open Go
set_option linter.unusedVariables false
set_option linter.unusedSimpArgs false

section
variable {P : Program} {S : Sums}

theorem bnd_some {α : Type} (a : α) (K : α → Prop) (u : Blk K) : bnd (some a) K u = K a := propext ⟨fun ⟨b, h1, h2⟩ => by cases h1; exact h2, fun h => ⟨a, rfl, h⟩⟩
theorem ltv_eq {α : Type} (v : α) (K : α → Prop) (u : Blk K) : ltv v K u = K v := propext Iff.rfl
theorem chk_true (K : Prop) (u : Blk K) : chk True K u = K := propext ⟨fun h => h.2, fun h => ⟨trivial, h⟩⟩
theorem ifB_true (A B : Prop) (u : Blk A) (v : Blk B) : ifB (.bool true) A B u v = A := propext ⟨fun ⟨t, h1, h2, h3⟩ => by cases h1; exact h2 rfl, fun h => ⟨true, rfl, fun _ => h, (fun e => by cases e)⟩⟩
theorem ifB_false (A B : Prop) (u : Blk A) (v : Blk B) : ifB (.bool false) A B u v = B := propext ⟨fun ⟨t, h1, h2, h3⟩ => by cases h1; exact h3 rfl, fun h => ⟨false, rfl, (fun e => by cases e), fun _ => h⟩⟩
theorem ifB_of {p : Prop} [Decidable p] {A B : Prop} (ha : p → A) (hb : ¬p → B) {u : Blk A} {v : Blk B} : ifB (.bool (decide p)) A B u v := ⟨_, rfl, fun e => ha (of_decide_eq_true e), fun e => hb (of_decide_eq_false e)⟩
theorem ifB_b {b : Bool} {A B : Prop} (ha : b = true → A) (hb : b = false → B) {u : Blk A} {v : Blk B} : ifB (.bool b) A B u v := ⟨_, rfl, ha, hb⟩
theorem clsK_0 (A B C : Prop) (u : Blk A) (v : Blk B) (w : Blk C) : clsK 0 A B C u v w = C := propext Iff.rfl
theorem clsK_1 (A B C : Prop) (u : Blk A) (v : Blk B) (w : Blk C) : clsK 1 A B C u v w = C := propext Iff.rfl
theorem clsK_2 (A B C : Prop) (u : Blk A) (v : Blk B) (w : Blk C) : clsK 2 A B C u v w = A := propext Iff.rfl
theorem clsK_3 (A B C : Prop) (u : Blk A) (v : Blk B) (w : Blk C) : clsK 3 A B C u v w = B := propext Iff.rfl
theorem clsK_low {c : Nat} (hc : c = 0 ∨ c = 1) (A B C : Prop) (u : Blk A) (v : Blk B) (w : Blk C) : clsK c A B C u v w = C := by rcases hc with rfl | rfl <;> rfl
theorem clsK_bin (op : BinOp) (t : TypeId) (x y : Operand) (z : TypeId) (A B C : Prop) (u : Blk A) (v : Blk B) (w : Blk C) : clsK (clsOf P (.binOp op t x y z)) A B C u v w = C :=
  clsK_low (by simp only [clsOf]; split <;> simp) A B C u v w
theorem clsK_slice (t : TypeId) (x : Operand) (a b c : Option Operand) (A B C : Prop) (u : Blk A) (v : Blk B) (w : Blk C) : clsK (clsOf P (.slice t x a b c)) A B C u v w = C :=
  clsK_low (by simp only [clsOf]; split <;> simp) A B C u v w
theorem resK_val (h : AH) (K : AV → AH → Prop) (v : AV) (h' : AH) : resK P S h K (.val v h') = ltv v (fun v => K v h') ⟨⟩ := propext Iff.rfl
theorem resK_skip (h : AH) (K : AV → AH → Prop) (h' : AH) : resK P S h K (.skip h') = K (.tup []) h' := propext Iff.rfl
theorem resK_call (h : AH) (K : AV → AH → Prop) (f : FuncId) (a : List AV) : resK P S h K (.call f a) = callK P S f a h K ⟨⟩ := propext Iff.rfl
theorem resK_yield (h : AH) (K : AV → AH → Prop) (f : Nat) (a : List AV) : resK P S h K (.yield f a) = yldK P S f a h K ⟨⟩ := propext Iff.rfl
theorem syV_func (g : FuncId) (first captured args : List AV) (h : AH) (K : AV → AH → Prop) : syV P S (.func (.func g) first captured) args h K = callK P S g (first ++ args ++ captured) h K ⟨⟩ := propext Iff.rfl
theorem syV_yld (l : Nat) (args : List AV) (h : AH) (K : AV → AH → Prop) : syV P S (.yld l) args h K = yldK P S l args h K ⟨⟩ := propext Iff.rfl

theorem syO_move (E : Operand → AV) (x : Operand) (h : AH) (K : AV → AH → Prop) : syO P S E (.move x) h K = ltv (E x) (fun v => K v h) ⟨⟩ := propext Iff.rfl
theorem syO_assign (E : Operand → AV) (x : Operand) (h : AH) (K : AV → AH → Prop) : syO P S E (.assign x) h K = ltv (E x) (fun v => K v h) ⟨⟩ := propext Iff.rfl
theorem syO_pick (E : Operand → AV) (c a b : Operand) (h : AH) (K : AV → AH → Prop) : syO P S E (.pick c a b) h K = ifB (E c) (ltv (E a) (fun v => K v h) ⟨⟩) (ltv (E b) (fun v => K v h) ⟨⟩) ⟨⟩ ⟨⟩ := propext Iff.rfl
theorem syO_load (E : Operand → AV) (t : TypeId) (a : Operand) (h : AH) (K : AV → AH → Prop) : syO P S E (.load t a) h K = bnd (evLoad P h t (E a)) (fun v => K v h) ⟨⟩ := propext Iff.rfl
theorem syO_store (E : Operand → AV) (t : TypeId) (a x : Operand) (h : AH) (K : AV → AH → Prop) : syO P S E (.store t a x) h K = bnd (evStore P h t (E a) (E x)) (fun h' => K (.tup []) h') ⟨⟩ := propext Iff.rfl
theorem syO_build (E : Operand → AV) (t : TypeId) (ps : List (Nat × Operand)) (h : AH) (K : AV → AH → Prop) : syO P S E (.build t ps.toArray) h K = bnd (evBuild P t (ps.map fun (i, x) => (i, E x))) (fun v => K v h) ⟨⟩ := propext Iff.rfl
theorem syO_binOp (E : Operand → AV) (op : BinOp) (t : TypeId) (x y : Operand) (u : TypeId) (h : AH) (K : AV → AH → Prop) : syO P S E (.binOp op t x y u) h K = bnd (binA P h op t (E x) (E y)) (fun v => K v h) ⟨⟩ := propext Iff.rfl
theorem syO_unOp (E : Operand → AV) (op : UnOp) (t : TypeId) (x : Operand) (h : AH) (K : AV → AH → Prop) : syO P S E (.unOp op t x) h K = bnd (unA op (E x)) (fun v => K v h) ⟨⟩ := propext Iff.rfl
theorem syO_slice (E : Operand → AV) (t : TypeId) (x : Operand) (lo hi mx : Option Operand) (h : AH) (K : AV → AH → Prop) : syO P S E (.slice t x lo hi mx) h K = bnd (evSlice P h t (E x) (lo.map E) (hi.map E) (mx.map E)) (fun v => K v h) ⟨⟩ := propext Iff.rfl
theorem syO_indexAddr (E : Operand → AV) (t : TypeId) (x i : Operand) (h : AH) (K : AV → AH → Prop) : syO P S E (.indexAddr t x i) h K = bnd (evIndexAddr P t (E x) (E i)) (fun v => K v h) ⟨⟩ := propext Iff.rfl
theorem syO_index (E : Operand → AV) (t : TypeId) (x i : Operand) (h : AH) (K : AV → AH → Prop) : syO P S E (.index t x i) h K = bnd (evIndex P t (E x) (E i)) (fun v => K v h) ⟨⟩ := propext Iff.rfl
theorem syO_lookup (E : Operand → AV) (t : TypeId) (x i : Operand) (ok : Bool) (h : AH) (K : AV → AH → Prop) : syO P S E (.lookup t x i ok) h K = bnd (evLookup P h t (E x) (E i) ok) (fun v => K v h) ⟨⟩ := propext Iff.rfl
theorem syO_call (E : Operand → AV) (f : Operand) (args : List Operand) (ty : Array TypeId) (h : AH) (K : AV → AH → Prop) : syO P S E (.call { callee := .value f, args := args.toArray, argTypes := ty }) h K = ltv (E f) (fun fv => ltv (args.map E) (fun args => syV P S fv args h K) ⟨⟩) ⟨⟩ := propext Iff.rfl
theorem syO_builtin (E : Operand → AV) (b : Builtin) (args : List Operand) (ty : List TypeId) (h : AH) (K : AV → AH → Prop) : syO P S E (.call { callee := .builtin b, args := args.toArray, argTypes := ty.toArray }) h K = bnd (evCall P h E { callee := .builtin b, args := args.toArray, argTypes := ty.toArray }) (resK P S h K) ⟨⟩ := propext Iff.rfl
theorem syO_alloc (E : Operand → AV) (e : TypeId) (h : AH) (K : AV → AH → Prop) : syO P S E (.alloc e) h K = bnd (allocated h (allocA P E (.alloc e))) (resK P S h K) ⟨⟩ := propext Iff.rfl
theorem syO_box (E : Operand → AV) (e : TypeId) (x : Operand) (h : AH) (K : AV → AH → Prop) : syO P S E (.box e x) h K = bnd (allocated h (allocA P E (.box e x))) (resK P S h K) ⟨⟩ := propext Iff.rfl
theorem syO_buildSlice (E : Operand → AV) (t : TypeId) (n : Nat) (ps : List (Nat × Operand)) (h : AH) (K : AV → AH → Prop) : syO P S E (.buildSlice t n ps.toArray) h K = bnd (allocated h (allocA P E (.buildSlice t n ps.toArray))) (resK P S h K) ⟨⟩ := propext Iff.rfl
theorem syO_makeMap (E : Operand → AV) (t : TypeId) (r : Option Operand) (h : AH) (K : AV → AH → Prop) : syO P S E (.makeMap t r) h K = bnd (allocated h (allocA P E (.makeMap t r))) (resK P S h K) ⟨⟩ := propext Iff.rfl
theorem syO_makeSlice (E : Operand → AV) (t : TypeId) (l c : Operand) (h : AH) (K : AV → AH → Prop) : syO P S E (.makeSlice t l c) h K = bnd (allocated h (allocA P E (.makeSlice t l c))) (resK P S h K) ⟨⟩ := propext Iff.rfl
theorem syO_nilCheck (E : Operand → AV) (x : Operand) (h : AH) (K : AV → AH → Prop) : syO P S E (.nilCheck x) h K = bnd (evOper P E { dst := none, op := .nilCheck x, type := 0, pos := "", after := #[], guard := none } h) (resK P S h K) ⟨⟩ := propext Iff.rfl
theorem syO_convert (E : Operand → AV) (s d : TypeId) (x : Operand) (h : AH) (K : AV → AH → Prop) : syO P S E (.convert s d x) h K = bnd (evConvert P h s d (E x)) (resK P S h K) ⟨⟩ := propext Iff.rfl
theorem syO_makeInterface (E : Operand → AV) (t : TypeId) (x : Operand) (h : AH) (K : AV → AH → Prop) : syO P S E (.makeInterface t x) h K = bnd (evOper P E { dst := none, op := .makeInterface t x, type := 0, pos := "", after := #[], guard := none } h) (resK P S h K) ⟨⟩ := propext Iff.rfl
theorem syO_makeFunc (E : Operand → AV) (fn : Fn) (a c : List Operand) (h : AH) (K : AV → AH → Prop) : syO P S E (.makeFunc fn a.toArray c.toArray) h K = chk (plainFn fn = true) (ltv (.func fn (a.map E) (c.map E)) (fun v => K v h) ⟨⟩) ⟨⟩ := by
  unfold syO
  simp only [evOper]
  cases hp : plainFn fn with
  | true => simp [chk, bnd, resK, ltv]
  | false => simp [chk, bnd]
theorem syO_fieldAddr (E : Operand → AV) (t : TypeId) (x : Operand) (f : Nat) (h : AH) (K : AV → AH → Prop) : syO P S E (.fieldAddr t x f) h K = bnd (evOper P E { dst := none, op := .fieldAddr t x f, type := 0, pos := "", after := #[], guard := none } h) (resK P S h K) ⟨⟩ := propext Iff.rfl
theorem syO_field (E : Operand → AV) (t : TypeId) (x : Operand) (f : Nat) (h : AH) (K : AV → AH → Prop) : syO P S E (.field t x f) h K = bnd (evOper P E { dst := none, op := .field t x f, type := 0, pos := "", after := #[], guard := none } h) (resK P S h K) ⟨⟩ := propext Iff.rfl
theorem syO_mapUpdate (E : Operand → AV) (t : TypeId) (m k x : Operand) (h : AH) (K : AV → AH → Prop) : syO P S E (.mapUpdate t m k x) h K = bnd (evMapUpdate P h t (E m) (E k) (E x)) (resK P S h K) ⟨⟩ := propext Iff.rfl
theorem syO_insert (E : Operand → AV) (t : TypeId) (m k x : Operand) (h : AH) (K : AV → AH → Prop) : syO P S E (.insert t m k x) h K = bnd (evMapUpdate P h t (E m) (E k) (E x)) (resK P S h K) ⟨⟩ := propext Iff.rfl
theorem syO_typeAssert (E : Operand → AV) (x : Operand) (t a : TypeId) (ok : Bool) (h : AH) (K : AV → AH → Prop) : syO P S E (.typeAssert x t a ok) h K = bnd (evOper P E { dst := none, op := .typeAssert x t a ok, type := 0, pos := "", after := #[], guard := none } h) (resK P S h K) ⟨⟩ := propext Iff.rfl
theorem syO_extract (E : Operand → AV) (x : Operand) (i : Nat) (h : AH) (K : AV → AH → Prop) : syO P S E (.extract x i) h K = bnd (evOper P E { dst := none, op := .extract x i, type := 0, pos := "", after := #[], guard := none } h) (resK P S h K) ⟨⟩ := propext Iff.rfl

theorem syPut_none (n : Nat) (t : Env) (v : AV) (K : Env → Prop) : syPut n t none v K = K t := propext Iff.rfl
theorem syPut_some (n : Nat) (t : Env) (d : Tmp) (v : AV) (K : Env → Prop) : syPut n t (some d) v K = chk (d < n) (K (t.set d (some v))) ⟨⟩ := propext Iff.rfl
theorem sy1_none (n : Nat) (ops : Array Oper) (dst : Option Tmp) (op : Op) (ty : TypeId) (pos : String) (after : Array Edge) (t : Env) (h : AH) (K : Env → AH → Prop) :
    sy1 P S n ops { dst, op, type := ty, pos, after, guard := none } t h K = syO P S (opnd t) op h fun v h' => syPut n t dst v fun t' => K t' h' := rfl
theorem sy1_some (n : Nat) (ops : Array Oper) (dst : Option Tmp) (op : Op) (ty : TypeId) (pos : String) (after : Array Edge) (g : Nat × Bool) (t : Env) (h : AH) (K : Env → AH → Prop) :
    sy1 P S n ops { dst, op, type := ty, pos, after, guard := some g } t h K = bnd (wantedA ops t { dst, op := .move (.tmp 0), type := ty, pos, after, guard := some g }) (fun b => ifB (.bool b) (syO P S (opnd t) op h fun v h' => syPut n t dst v fun t' => K t' h') (syPut n t dst (.tup []) fun t' => K t' h) ⟨⟩ ⟨⟩) ⟨⟩ := rfl
theorem syOps_nil (n : Nat) (ops : Array Oper) (t : Env) (h : AH) (K : Env → AH → Prop) : syOps P S n ops [] t h K = K t h := propext Iff.rfl
theorem syOps_cons (n : Nat) (ops : Array Oper) (o : Oper) (r : List Oper) (t : Env) (h : AH) (K : Env → AH → Prop) : syOps P S n ops (o :: r) t h K = sy1 P S n ops o t h fun t' h' => syOps P S n ops r t' h' K := propext Iff.rfl
theorem syGo0_nil (n : Nat) (ops : Array Oper) (base i : Nat) (t : Env) (h : AH) (pend : List (Nat × AO)) (K : Env → AH → Prop) : syGo0 P S n ops base [] i t h pend K = K t (absorb pend h) := propext Iff.rfl
theorem syGo0_cons (n : Nat) (ops : Array Oper) (base i : Nat) (o : Oper) (r : List Oper) (t : Env) (h : AH) (pend : List (Nat × AO)) (K : Env → AH → Prop) :
    syGo0 P S n ops base (o :: r) i t h pend K = syDS P S n ops base i o t h pend fun t' h' pend' => syGo0 P S n ops base r (i + 1) t' h' pend' K := rfl
theorem syDS_none (n : Nat) (ops : Array Oper) (base i : Nat) (dst : Option Tmp) (op : Op) (ty : TypeId) (pos : String) (after : Array Edge) (t : Env) (h : AH) (pend : List (Nat × AO)) (K : Env → AH → List (Nat × AO) → Prop) :
    syDS P S n ops base i { dst, op, type := ty, pos, after, guard := none } t h pend K = clsK (clsOf P op)
      (bnd (allocA P (opnd t) op) (fun x => syPut n t dst (x.2 (base + i)) fun t' => K t' h (pend ++ [(base + i, x.1)])) ⟨⟩)
      (syO P S (opnd t) op (absorb pend h) fun v h' => syPut n t dst v fun t' => K t' h' [])
      (syO P S (opnd t) op h fun v _ => syPut n t dst v fun t' => K t' h pend) ⟨⟩ ⟨⟩ ⟨⟩ := by
  have h1 : ∀ (c : Nat) (A A' B C : Prop) (u : Blk A) (u' : Blk A') (v : Blk B) (w : Blk C), A = A' → clsK c A B C u v w = clsK c A' B C u' v w := by
    intro c A A' B C u u' v w h
    subst h
    rfl
  refine h1 _ _ _ _ _ _ _ _ _ ?_
  show bnd (some true) _ _ = _
  rw [bnd_some, ifB_true]

theorem syC_skip (r : Option Nat) (fn n : Nat) (s : St) (Q : Ex → St → Prop) : syC P S r fn n .skip s Q = Q .normal s := propext Iff.rfl
theorem syC_ret (r : Option Nat) (fn n : Nat) (s : St) (Q : Ex → St → Prop) : syC P S r fn n .ret s Q = Q .ret s := propext Iff.rfl
theorem syC_exit (r : Option Nat) (fn n id : Nat) (s : St) (Q : Ex → St → Prop) : syC P S r fn n (.exit id) s Q = Q (.exit id) s := propext Iff.rfl
theorem syC_region (r : Option Nat) (fn n id : Nat) (l : List Oper) (t : Env) (h : AH) (d : List Nat) (Q : Ex → St → Prop) : syC P S r fn n (.region id l.toArray false) { t, h, d } Q = syOps P S n l.toArray l t h fun t h => Q .normal { t, h, d } := propext Iff.rfl
theorem syC_draw (r : Option Nat) (fn n id : Nat) (l : List Oper) (t : Env) (h : AH) (d : List Nat) (Q : Ex → St → Prop) : syC P S r fn n (.region id l.toArray true) { t, h, d } Q = syDraw P S n l.toArray t h (fun t h => Q .normal { t, h, d }) ⟨⟩ ⟨⟩ ⟨⟩ ⟨⟩ := propext Iff.rfl
theorem syC_seq (r : Option Nat) (fn n : Nat) (a b : Code) (s : St) (Q : Ex → St → Prop) : syC P S r fn n (.seq a b) s Q = syC P S r fn n a s (thenK (fun s' => syC P S r fn n b s' Q) Q) := propext Iff.rfl
theorem syC_cond (r : Option Nat) (fn n : Nat) (c : Operand) (a b : Code) (t : Env) (h : AH) (d : List Nat) (Q : Ex → St → Prop) : syC P S r fn n (.cond c a b) { t, h, d } Q = ifB (opnd t c) (syC P S r fn n a { t, h, d } Q) (syC P S r fn n b { t, h, d } Q) ⟨⟩ ⟨⟩ := propext Iff.rfl
theorem syC_block (r : Option Nat) (fn n id : Nat) (c : Code) (s : St) (Q : Ex → St → Prop) : syC P S r fn n (.block id c) s Q = syC P S r fn n c s (blkK id Q) := propext Iff.rfl
theorem syC_loop (r : Option Nat) (fn n : Nat) (c : Code) (s : St) (Q : Ex → St → Prop) : syC P S r fn n (.loop c) s Q = loopK P S r fn n c s Q ⟨⟩ ⟨⟩ ⟨⟩ := propext Iff.rfl
theorem syC_range (r : Option Nat) (fn n : Nat) (g : Operand) (ps : Array Tmp) (a b : Code) (t : Env) (h : AH) (d : List Nat) (Q : Ex → St → Prop) : syC P S r fn n (.rangeFunc g ps a b) { t, h, d } Q = bnd (loopHead r { t, h, d }) (fun x => ltv (opnd t g) (fun gv => rngK P S t fn n ps a b Q x gv) ⟨⟩) ⟨⟩ := propext Iff.rfl
theorem thenK_normal (A : St → Prop) (Q : Ex → St → Prop) (s : St) : thenK A Q .normal s = A s := propext Iff.rfl
theorem thenK_ret (A : St → Prop) (Q : Ex → St → Prop) (s : St) : thenK A Q .ret s = Q .ret s := propext Iff.rfl
theorem thenK_exit (A : St → Prop) (Q : Ex → St → Prop) (i : Nat) (s : St) : thenK A Q (.exit i) s = Q (.exit i) s := propext Iff.rfl
theorem blkK_normal (id : Nat) (Q : Ex → St → Prop) (s : St) : blkK id Q .normal s = Q .normal s := propext Iff.rfl
theorem blkK_ret (id : Nat) (Q : Ex → St → Prop) (s : St) : blkK id Q .ret s = Q .ret s := propext Iff.rfl
theorem blkK_exit (id j : Nat) (Q : Ex → St → Prop) (s : St) : blkK id Q (.exit j) s = ltv (Nat.beq j id) (fun b => Q (cond b .normal (.exit j)) s) ⟨⟩ := propext Iff.rfl
theorem rngK_func (t : Env) (fn n : Nat) (ps : Array Tmp) (a b : Code) (Q : Ex → St → Prop) (d : Nat) (h1 : AH) (ds : List Nat) (f : FuncId) (first captured : List AV) :
    rngK P S t fn n ps a b Q (d, h1, ds) (.func (.func f) first captured) = chk (bodied P f = true) (callK P S f (first ++ [.yld h1.nx] ++ captured) (h1.new (.loop .ready none fn t n ps a b d)) (fun _ h3 => bnd (loopTail t ds h1.nx h3) (fun y => Q y.1 y.2) ⟨⟩) ⟨⟩) ⟨⟩ := rfl
theorem syEnd_ret (rs : List ResultVar) (Q : AV → AH → Prop) (t : Env) (h : AH) (d : List Nat) : syEnd P rs Q .ret { t, h, d } = bnd (takeMarks d h) (fun h' => bnd (resultsA P h' t rs) (fun v => Q v h') ⟨⟩) ⟨⟩ := propext Iff.rfl
theorem syEnd_normal (rs : List ResultVar) (Q : AV → AH → Prop) (t : Env) (h : AH) (d : List Nat) : syEnd P rs Q .normal { t, h, d } = bnd (takeMarks d h) (fun h' => bnd (resultsA P h' t rs) (fun v => Q v h') ⟨⟩) ⟨⟩ := propext Iff.rfl
theorem takeMarks_nil (h : AH) : takeMarks [] h = some h := rfl
theorem resultsA_one (h : AH) (t : Env) (r : ResultVar) : resultsA P h t [r] = resultA P h t r := by
  unfold resultsA
  cases hh : resultA P h t r with
  | none => simp [hh]
  | some v => simp [hh]
theorem resultsA_nil (h : AH) (t : Env) : resultsA P h t [] = some (.tup []) := rfl
theorem resultsA_two (h : AH) (t : Env) (r s : ResultVar) : resultsA P h t [r, s] = (resultA P h t r).bind fun x => (resultA P h t s).bind fun y => some (.tup [x, y]) := by
  unfold resultsA
  cases hh : resultA P h t r with
  | none => simp [hh]
  | some v => cases hs : resultA P h t s with
    | none => simp [hh, hs]
    | some u => simp [hh, hs]
theorem resultsA_three (h : AH) (t : Env) (r s q : ResultVar) : resultsA P h t [r, s, q] = (resultA P h t r).bind fun x => (resultA P h t s).bind fun y => (resultA P h t q).bind fun z => some (.tup [x, y, z]) := by
  unfold resultsA
  cases hh : resultA P h t r with
  | none => simp [hh]
  | some v => cases hs : resultA P h t s with
    | none => simp [hh, hs]
    | some u => cases hq : resultA P h t q with
      | none => simp [hh, hs, hq]
      | some z => simp [hh, hs, hq]
theorem resultA_tmp (h : AH) (t : Env) (i : Nat) : resultA P h t (.tmp i) = some ((t.get i).getD .junk) := rfl
theorem resultA_cell (h : AH) (t : Env) (a : Nat) (ty : TypeId) : resultA P h t (.cell a ty) = evLoad P h ty ((t.get a).getD .junk) := rfl

theorem opnd_tmp (t : Env) (i : Nat) : opnd t (.tmp i) = (t.get i).getD .junk := rfl
theorem opnd_func (t : Env) (i : Nat) : opnd t (.func i) = .func (.func i) [] [] := rfl
theorem opnd_const (t : Env) (v : Value) : opnd t (.const v) = toAV v := rfl
theorem toAV_int (k : IntKind) (n : Int) : toAV (.int k n) = .int k n := rfl
theorem toAV_bool (b : Bool) : toAV (.bool b) = .bool b := rfl
theorem toAV_str (s : ByteArray) : toAV (.string s) = .str (bytesOf s) := rfl
theorem toAV_nilsl : toAV (.slice none 0 0) = .nilsl := rfl
theorem toAV_nilptr : toAV (.pointer none) = .nilptr := rfl
theorem toAV_nilmap : toAV (.map none) = .nilmap := rfl
theorem toAV_nilfunc : toAV .nilFunc = .nilfunc := rfl
theorem toAV_nilif : toAV .nilIface = .nilif := rfl

theorem binA_add (h : AH) (t : TypeId) (k : IntKind) (a b : Int) : binA P h .add t (.int k a) (.int k b) = some (.int k (k.wrap (a + b))) := by simp [binA, intA]
theorem binA_sub (h : AH) (t : TypeId) (k : IntKind) (a b : Int) : binA P h .sub t (.int k a) (.int k b) = some (.int k (k.wrap (a - b))) := by simp [binA, intA]
theorem binA_mul (h : AH) (t : TypeId) (k : IntKind) (a b : Int) : binA P h .mul t (.int k a) (.int k b) = some (.int k (k.wrap (a * b))) := by simp [binA, intA]
theorem binA_quo (h : AH) (t : TypeId) (k : IntKind) (a b : Int) : binA P h .quo t (.int k a) (.int k b) = if b = 0 then none else some (.int k (k.wrap (a.tdiv b))) := by simp [binA, intA]
theorem binA_rem (h : AH) (t : TypeId) (k : IntKind) (a b : Int) : binA P h .rem t (.int k a) (.int k b) = if b = 0 then none else some (.int k (a.tmod b)) := by simp [binA, intA]
theorem binA_and (h : AH) (t : TypeId) (k : IntKind) (a b : Int) : binA P h .and t (.int k a) (.int k b) = some (.int k (k.wrap (BitVec.ofInt k.bits a &&& BitVec.ofInt k.bits b).toNat)) := by simp [binA, intA]
theorem binA_or (h : AH) (t : TypeId) (k : IntKind) (a b : Int) : binA P h .or t (.int k a) (.int k b) = some (.int k (k.wrap (BitVec.ofInt k.bits a ||| BitVec.ofInt k.bits b).toNat)) := by simp [binA, intA]
theorem binA_xor (h : AH) (t : TypeId) (k : IntKind) (a b : Int) : binA P h .xor t (.int k a) (.int k b) = some (.int k (k.wrap (BitVec.ofInt k.bits a ^^^ BitVec.ofInt k.bits b).toNat)) := by simp [binA, intA]
theorem binA_eql (h : AH) (t : TypeId) (k : IntKind) (a b : Int) : binA P h .eql t (.int k a) (.int k b) = some (.bool (decide (a = b))) := by simp [binA, intA]; rfl
theorem binA_neq (h : AH) (t : TypeId) (k : IntKind) (a b : Int) : binA P h .neq t (.int k a) (.int k b) = some (.bool (decide (a ≠ b))) := by simp [binA, intA, bne]; rfl
theorem binA_lss (h : AH) (t : TypeId) (k : IntKind) (a b : Int) : binA P h .lss t (.int k a) (.int k b) = some (.bool (decide (a < b))) := by simp [binA, intA]
theorem binA_leq (h : AH) (t : TypeId) (k : IntKind) (a b : Int) : binA P h .leq t (.int k a) (.int k b) = some (.bool (decide (a ≤ b))) := by simp [binA, intA]
theorem binA_gtr (h : AH) (t : TypeId) (k : IntKind) (a b : Int) : binA P h .gtr t (.int k a) (.int k b) = some (.bool (decide (b < a))) := by simp [binA, intA]
theorem binA_geq (h : AH) (t : TypeId) (k : IntKind) (a b : Int) : binA P h .geq t (.int k a) (.int k b) = some (.bool (decide (b ≤ a))) := by simp [binA, intA]
theorem binA_shl (h : AH) (t : TypeId) (k k' : IntKind) (a b : Int) : binA P h .shl t (.int k a) (.int k' b) = if b < 0 then none else some (.int k (k.wrap (a * 2 ^ (min b.toNat k.bits)))) := by simp [binA, shiftA]
theorem binA_shr (h : AH) (t : TypeId) (k k' : IntKind) (a b : Int) : binA P h .shr t (.int k a) (.int k' b) = if b < 0 then none else some (.int k (a.fdiv (2 ^ (min b.toNat k.bits)))) := by simp [binA, shiftA]
theorem unA_not (b : Bool) : unA .not (.bool b) = some (.bool !b) := rfl
theorem unA_neg (k : IntKind) (n : Int) : unA .neg (.int k n) = some (.int k (k.wrap (0 - n))) := rfl

theorem bq_t (b : Bool) : (b == true) = b := by cases b <;> rfl
theorem bq_f (b : Bool) : (b == false) = !b := by cases b <;> rfl
theorem wrap64_id {n : Int} (h1 : -9223372036854775808 ≤ n) (h2 : n ≤ 9223372036854775807) : IntKind.i64.wrap n = n := by
  simp only [IntKind.wrap, IntKind.bits, IntKind.signed]
  simp
  try omega

theorem callK_of {f : FuncId} {args : List AV} {h : AH} {Q K : AV → AH → Prop} {u : Blk K} (hx : RnC P S f args h Q) (hq : ∀ v h', Q v h' → K v h') : callK P S f args h K u := hx.mono hq
theorem yldK_of {f : Nat} {args : List AV} {h : AH} {Q K : AV → AH → Prop} {u : Blk K} (hx : RnR P S f args h Q) (hq : ∀ v h', Q v h' → K v h') : yldK P S f args h K u := hx.mono hq
theorem loopK_of {r : Option Nat} {fn n : Nat} {c : Code} {s : St} {Q K : Ex → St → Prop} {u : Blk c} {v : Blk s} {w : Blk K} (hx : RnL P S r fn n c s Q) (hq : ∀ ex s', Q ex s' → K ex s') : loopK P S r fn n c s K u v w := hx.mono hq

noncomputable def zeroC (P : Program) (t : TypeId) : Option (List AV) := (tzero P t).bind fun z => cellsA (toAV z)
theorem allocA_alloc (E : Operand → AV) (e : TypeId) : allocA P E (.alloc e) = (zeroC P e).bind fun cs => some (.cells cs true cs.isEmpty, fun id => .ptr id 0) := by
  simp only [allocA, zeroC]
  cases tzero P e <;> rfl
theorem allocA_box (E : Operand → AV) (e : TypeId) (x : Operand) : allocA P E (.box e x) = (cellsA (E x)).bind fun cs => some (.cells cs true cs.isEmpty, fun id => .ptr id 0) := rfl
theorem allocA_buildSlice (E : Operand → AV) (t : TypeId) (n : Nat) (ps : List (Nat × Operand)) : allocA P E (.buildSlice t n ps.toArray) = bsA P t n (ps.map fun (i, x) => (i, E x)) := rfl
theorem allocA_makeSlice (E : Operand → AV) (t : TypeId) (l c : Operand) : allocA P E (.makeSlice t l c) = msA P t (E l) (E c) := rfl
theorem allocA_makeMap (E : Operand → AV) (t : TypeId) : allocA P E (.makeMap t none) = some (.map [] [] 0, .map) := by simp [allocA]
theorem bsA_eq (t : TypeId) (len : Nat) (parts : List (Nat × AV)) : bsA P t len parts = (match P.underlying t with
    | some (.slice e) => (tsize P e).bind fun sz => if len * sz > 2 ^ 24 then none else (zeroC P e).bind fun zc => if zc.length = sz then (fillA (fun i => some (i * sz, sz)) (repCells zc len) parts).bind fun cells => some (.cells cells true (len * sz == 0), fun id => .sl id 0 len sz (some len)) else none
    | _ => none) := by
  unfold bsA zeroC
  cases P.underlying t with
  | none => rfl
  | some d =>
    cases d <;> try rfl
    rename_i e
    simp only [Option.bind_eq_bind]
    cases tsize P e with
    | none => rfl
    | some sz =>
      simp only [Option.bind_some]
      split
      · rfl
      · cases tzero P e <;> rfl
theorem allocated_some (h : AH) (ob : AO) (mk : Nat → AV) : allocated h (some (ob, mk)) = some (.val (mk h.nx) (h.new ob)) := rfl
theorem evBuild_eq (t : TypeId) (parts : List (Nat × AV)) : evBuild P t parts = (zeroC P t).bind fun zc => match P.underlying t with
    | some (.struct fs) => (fieldsA P fs.toList).bind fun places => (fillA (places[·]?) zc parts).bind fun cells => some (.agg cells)
    | some (.array _ e) => (tsize P e).bind fun sz => (fillA (fun i => some (i * sz, sz)) zc parts).bind fun cells => some (.agg cells)
    | _ => none := by
  unfold evBuild zeroC
  cases tzero P t with
  | none => rfl
  | some z =>
    simp only [Option.bind_eq_bind, Option.bind_some]
    cases cellsA (toAV z) with
    | none => rfl
    | some zc =>
      simp only [Option.bind_some]
      cases P.underlying t with
      | none => rfl
      | some d => cases d <;> rfl

theorem RnC.enter' {f : FuncId} {args : List AV} {h : AH} {Q : AV → AH → Prop} (fn : Func) (c : Code) (n : Nat) (rs : List ResultVar) (hs : S f args h = none) (hb : bodied P f = true) (hf : P.funcs[f]? = some fn) (hc : fn.body = some c) (hn : nTmps fn args = n)
    (hr : fn.results.toList = rs) (hw : syC P S none f n c { t := argsEnv args 0 .nil, h, d := [] } (syEnd P rs Q)) : RnC P S f args h Q := by
  subst hn; subst hr
  exact RnC.enter fn c hs hb hf hc hw
end
end Go.Abs
end

section
namespace Go.Abs
open Go
set_option linter.unusedVariables false
set_option linter.unusedSimpArgs false

inductive Ty (P : Program) (h : AH) : TypeId → List AV → Prop
  | bool {t : TypeId} (b : Bool) (ht : P.underlying t = some .bool) : Ty P h t [.bool b]
  | int {t : TypeId} {k : IntKind} (n : Int) (ht : P.underlying t = some (.int k)) (hw : k.min ≤ n ∧ n ≤ k.max) : Ty P h t [.int k n]
  | str {t : TypeId} (s : ByteArray) (ht : P.underlying t = some .string) (hs : s.size ≤ maxLen) : Ty P h t [.str (bytesOf s)]
  | nilsl {t e : TypeId} (ht : P.underlying t = some (.slice e)) : Ty P h t [.nilsl]
  | sl {t e : TypeId} {id len : Nat} {cs : List AV} (ht : P.underlying t = some (.slice e)) (hg : h.get id = some (.cells cs false false)) (hl : len ≤ maxLen) (hc : cs.length = len * P.cellsOf e)
      (hcs : ∀ i, i < len → Ty P h e ((cs.drop (i * P.cellsOf e)).take (P.cellsOf e))) : Ty P h t [.sl id 0 len (P.cellsOf e) none]
  | struct {t : TypeId} {fs : Array Field} {cs : List AV} (ht : P.underlying t = some (.struct fs)) (hc : cs.length = P.cellsOf t)
      (hf : ∀ f, f ∈ fs.toList → Ty P h f.type ((cs.drop f.offset).take (P.cellsOf f.type))) : Ty P h t cs
  | array {t e : TypeId} {n : Nat} {cs : List AV} (ht : P.underlying t = some (.array n e)) (hc : cs.length = P.cellsOf t)
      (hf : ∀ i, i < n → Ty P h e ((cs.drop (i * P.cellsOf e)).take (P.cellsOf e))) : Ty P h t cs

theorem Ty.mono {P : Program} {h h' : AH} (hle : ∀ id o, h.get id = some o → h'.get id = some o) {t : TypeId} {l : List AV} (hx : Ty P h t l) : Ty P h' t l := by
  induction hx with
  | bool b ht => exact .bool b ht
  | int n ht hw => exact .int n ht hw
  | str s ht hs => exact .str s ht hs
  | nilsl ht => exact .nilsl ht
  | sl ht hg hl hc hcs ih => exact .sl ht (hle _ _ hg) hl hc ih
  | struct ht hc hf ih => exact .struct ht hc ih
  | array ht hc hf ih => exact .array ht hc ih

def tileF (P : Program) : List Field → Nat → Nat → Bool
  | [], o, n => o == n
  | f :: r, o, n => f.offset == o && tileF P r (o + P.cellsOf f.type) n

theorem tileF_le {P : Program} : ∀ (l : List Field) (o n : Nat), tileF P l o n = true → o ≤ n
  | [], o, n, h => by simp only [tileF, beq_iff_eq] at h; omega
  | f :: r, o, n, h => by
    simp only [tileF, Bool.and_eq_true] at h
    have := tileF_le r _ n h.2
    omega

def dataT (P : Program) : Nat → TypeId → Bool
  | 0, _ => false
  | k + 1, t => match P.underlying t with
    | some .bool => true
    | some (.int _) => true
    | some .string => true
    | some (.slice e) => decide (0 < P.cellsOf e) && dataT P k e
    | some (.struct fs) => tileF P fs.toList 0 (P.cellsOf t) && fs.toList.all fun f => dataT P k f.type
    | some (.array n e) => decide (n * P.cellsOf e = P.cellsOf t) && dataT P k e
    | _ => false

def AllKept (K : Kp) (w : World) : Prop := ∀ b o, w.heap[b]? = some o → K.at_ b = some o ∧ K.ro b = true

theorem VRs.app_inv {ρ : Pm} : ∀ {l : List AV} {m m' : List Value}, VRs ρ l (m ++ m') → VRs ρ (l.take m.length) m ∧ VRs ρ (l.drop m.length) m'
  | l, [], m', h => ⟨by simp; exact .nil, by simpa using h⟩
  | a :: l, v :: m, m', .cons h t => by
    have := VRs.app_inv t
    exact ⟨by simp only [List.length_cons, List.take_succ_cons]; exact .cons h this.1, by simpa using this.2⟩

theorem rel_addRO {K : Kp} {ρ : Pm} {h : AH} {w : World} (hR : Rel K ρ h w) (p : Pl) (cs : List AV) (hro : K.ro p.b = true)
    (ho : OR (fun id => if id = h.nx then some p else ρ id) p (.cells cs false false) w.heap[p.b]?) :
    Ext h.nx ρ (h.nx + 1) (fun id => if id = h.nx then some p else ρ id) ∧ Rel K (fun id => if id = h.nx then some p else ρ id) (h.new (.cells cs false false)) w := by
  have hle : ρ.le (fun id => if id = h.nx then some p else ρ id) := fun id q hq => by
    have : id ≠ h.nx := fun e => by rw [e, hR.fresh h.nx (Nat.le_refl _)] at hq; cases hq
    simp [this, hq]
  refine ⟨⟨hle, Nat.le_succ _, fun id hid => by simp [Nat.ne_of_lt hid]⟩, ⟨hR.os, hR.tape, hR.output, hR.size, hR.keep, fun id hid => ?_, fun id o hg => ?_, ?_⟩⟩
  · have h1 : h.nx + 1 ≤ id := hid
    have : id ≠ h.nx := by omega
    simp only [this, if_false]
    exact hR.fresh id (by omega)
  · rw [AH.get_new] at hg
    split at hg
    · rename_i e
      cases hg
      exact ⟨p, by simp [e], ho, (fun hh => by cases hh), fun _ => hro⟩
    · rename_i e
      obtain ⟨q, h1, h2, h3⟩ := hR.obj id o hg
      exact ⟨q, by simp [e, h1], h2.mono hle, h3⟩
  · intro i j oi oj pi pj hi hj hoi hoj h1 h2 hb
    rw [AH.get_new] at hi hj
    split at hi
    · cases hi; cases hoi
    · split at hj
      · cases hj; cases hoj
      · rename_i e1 e2
        simp only [e1, e2, if_false] at h1 h2
        exact hR.inj i j oi oj pi pj hi hj hoi hoj h1 h2 hb

structure Got (P : Program) (K : Kp) (w : World) (ρ : Pm) (h : AH) (t : TypeId) (cs : List Value) (ρ' : Pm) (h' : AH) (avs : List AV) : Prop where
  ext : Ext h.nx ρ h'.nx ρ'
  rel : Rel K ρ' h' w
  le : ∀ id o, h.get id = some o → h'.get id = some o
  vr : VRs ρ' avs cs
  ty : Ty P h' t avs

theorem lit_int_wf {k : IntKind} {n : Int} (h : (Lit.int k n).wf = true) : k.min ≤ n ∧ n ≤ k.max := by
  simpa [Lit.wf] using h

section
variable {H : Type} {enc : TypeId × Value → H} {P : Program} {K : Kp} {w : World} {k : Nat}

theorem got_many (hA : AllKept K w) {e : TypeId} {sz : Nat} (step : ∀ cs x, cs.length = sz → DataW.trod enc P w 0 (fun _ => true) true k e cs = some x → ∀ ρ h, Rel K ρ h w → ∃ ρ' h' avs, Got P K w ρ h e cs ρ' h' avs) :
    ∀ (rows : List (List Value)), (∀ cs, cs ∈ rows → cs.length = sz ∧ ∃ x, DataW.trod enc P w 0 (fun _ => true) true k e cs = some x) → ∀ ρ h, Rel K ρ h w →
      ∃ ρ' h' avs, Ext h.nx ρ h'.nx ρ' ∧ Rel K ρ' h' w ∧ (∀ id o, h.get id = some o → h'.get id = some o) ∧ VRs ρ' avs rows.flatten ∧ avs.length = rows.length * sz ∧ ∀ i, i < rows.length → Ty P h' e ((avs.drop (i * sz)).take sz)
  | [], _, ρ, h, hR => ⟨ρ, h, [], Ext.refl _ _, hR, fun _ _ h => h, by simpa using VRs.nil, by simp, fun i hi => by simp at hi⟩
  | cs :: rows, hall, ρ, h, hR => by
    obtain ⟨hl, x, hx⟩ := hall cs (List.mem_cons_self ..)
    obtain ⟨ρ1, h1, a1, g1⟩ := step cs x hl hx ρ h hR
    obtain ⟨ρ2, h2, a2, e2, r2, l2, v2, n2, t2⟩ := got_many hA step rows (fun c hc => hall c (List.mem_cons_of_mem _ hc)) ρ1 h1 g1.rel
    have hl1 : a1.length = sz := by rw [g1.vr.length, hl]
    refine ⟨ρ2, h2, a1 ++ a2, g1.ext.trans e2, r2, fun id o hg => l2 id o (g1.le id o hg), ?_, ?_, fun i hi => ?_⟩
    · simp only [List.flatten_cons]
      exact (g1.vr.mono e2.le).append v2
    · simp only [List.length_append, List.length_cons, hl1, n2, Nat.add_mul, Nat.one_mul]; omega
    · cases i with
      | zero =>
        simp only [Nat.zero_mul, List.drop_zero]
        rw [List.take_append_of_le_length (by omega), List.take_of_length_le (by omega)]
        exact g1.ty.mono l2
      | succ i =>
        have h3 := t2 i (by simpa using hi)
        rw [show (i + 1) * sz = a1.length + i * sz by rw [hl1, Nat.add_mul, Nat.one_mul]; omega, List.drop_append]
        rw [List.drop_of_length_le (by omega)]
        simpa using h3

theorem got_fields (hA : AllKept K w) {cs : List Value} (step : ∀ t cs x, dataT P k t = true → DataW.trod enc P w 0 (fun _ => true) true k t cs = some x → ∀ ρ h, Rel K ρ h w → ∃ ρ' h' avs, Got P K w ρ h t cs ρ' h' avs) :
    ∀ (fs : List Field) (o n : Nat), tileF P fs o n = true → (∀ f, f ∈ fs → dataT P k f.type = true ∧ ∃ x, DataW.trod enc P w 0 (fun _ => true) true k f.type ((cs.drop f.offset).take (P.cellsOf f.type)) = some x) →
      n = cs.length → o ≤ n → ∀ ρ h, Rel K ρ h w →
      ∃ ρ' h' avs, Ext h.nx ρ h'.nx ρ' ∧ Rel K ρ' h' w ∧ (∀ id o, h.get id = some o → h'.get id = some o) ∧ VRs ρ' avs (cs.drop o) ∧ ∀ f, f ∈ fs → o ≤ f.offset ∧ Ty P h' f.type ((avs.drop (f.offset - o)).take (P.cellsOf f.type))
  | [], o, n, ht, _, hn, hon, ρ, h, hR => by
    simp only [tileF, beq_iff_eq] at ht
    subst ht
    subst hn
    exact ⟨ρ, h, [], Ext.refl _ _, hR, fun _ _ h => h, by rw [List.drop_of_length_le (Nat.le_refl _)]; exact .nil, fun f hf => by simp at hf⟩
  | f :: fs, o, n, ht, hall, hn, hon, ρ, h, hR => by
    simp only [tileF, Bool.and_eq_true, beq_iff_eq] at ht
    obtain ⟨ho, ht⟩ := ht
    obtain ⟨hd, x, hx⟩ := hall f (List.mem_cons_self ..)
    have hfit := tileF_le fs _ _ ht
    obtain ⟨ρ1, h1, a1, g1⟩ := step _ _ _ hd hx ρ h hR
    have hl1 : a1.length = P.cellsOf f.type := by rw [g1.vr.length]; simp; omega
    obtain ⟨ρ2, h2, a2, e2, r2, l2, v2, t2⟩ := got_fields hA step fs (o + P.cellsOf f.type) n ht (fun g hg => hall g (List.mem_cons_of_mem _ hg)) hn hfit ρ1 h1 g1.rel
    refine ⟨ρ2, h2, a1 ++ a2, g1.ext.trans e2, r2, fun id o hg => l2 id o (g1.le id o hg), ?_, fun g hg => ?_⟩
    · have : cs.drop o = (cs.drop f.offset).take (P.cellsOf f.type) ++ cs.drop (o + P.cellsOf f.type) := by
        have hh := (List.take_append_drop (P.cellsOf f.type) (cs.drop o)).symm
        rw [List.drop_drop] at hh
        rw [ho]; exact hh
      rw [this]
      exact (g1.vr.mono e2.le).append v2
    · rcases List.mem_cons.1 hg with rfl | hg
      · refine ⟨by omega, ?_⟩
        rw [ho, Nat.sub_self, List.drop_zero, List.take_append_of_le_length (by omega), List.take_of_length_le (by omega)]
        exact g1.ty.mono l2
      · obtain ⟨q1, q2⟩ := t2 g hg
        refine ⟨by omega, ?_⟩
        rw [show g.offset - o = a1.length + (g.offset - (o + P.cellsOf f.type)) by omega, List.drop_append, List.drop_of_length_le (by omega)]
        simpa using q2

theorem addr_addN (b o n : Nat) : (⟨b, o, none⟩ : Addr).add n = ⟨b, o + n, none⟩ := by
  unfold Addr.add
  split
  · rename_i h; subst h; rfl
  · rfl
theorem addr_add0 (a : Addr) : a.add 0 = a := by simp [Addr.add]

theorem flat_rows {α : Type} (l : List α) (sz : Nat) : ∀ n : Nat, ((List.range n).map fun i => (l.drop (i * sz)).take sz).flatten = l.take (n * sz)
  | 0 => by simp
  | n + 1 => by
    rw [List.range_succ, List.map_append, List.flatten_append, flat_rows l sz n]
    simp only [List.map_cons, List.map_nil, List.flatten_cons, List.flatten_nil, List.append_nil]
    rw [Nat.add_mul, Nat.one_mul, List.take_add]

theorem got (hA : AllKept K w) (hd : ∃ (b : Nat) (c : Array Value) (e : TypeId) (fr : Nat × Nat), w.heap[b]? = some (Obj.cells c e fr)) : ∀ (k : Nat) (t : TypeId) (cs : List Value) (x : DataW H × List MemPlace), dataT P k t = true →
    DataW.trod enc P w 0 (fun _ => true) true k t cs = some x → ∀ ρ h, Rel K ρ h w → ∃ ρ' h' avs, Got P K w ρ h t cs ρ' h' avs
  | 0, t, cs, x, hk, hx, ρ, h, hR => by cases hk
  | k + 1, t, cs, x, hk, hx, ρ, h, hR => by
    have ih := got hA hd k
    simp only [dataT] at hk
    cases ht : P.underlying t with
    | none => rw [ht] at hk; cases hk
    | some d =>
      rw [ht] at hk
      cases d <;> try (cases hk; done)
      case bool =>
        obtain ⟨b, rfl, _⟩ := DataW.trod_bool ht hx
        exact ⟨ρ, h, _, Ext.refl _ _, hR, fun _ _ h => h, .cons (.bool _) .nil, .bool _ ht⟩
      case int q =>
        obtain ⟨n, rfl, _, hw⟩ := DataW.trod_int ht hx
        exact ⟨ρ, h, _, Ext.refl _ _, hR, fun _ _ h => h, .cons (.int _ _) .nil, .int _ ht (lit_int_wf hw)⟩
      case string =>
        obtain ⟨s, rfl, _, hs⟩ := DataW.trod_string ht hx
        exact ⟨ρ, h, _, Ext.refl _ _, hR, fun _ _ h => h, .cons (.str _) .nil, .str _ ht hs⟩
      case slice e =>
        simp only [Bool.and_eq_true, decide_eq_true_eq] at hk
        obtain ⟨hsz, hk⟩ := hk
        rcases DataW.trod_slice ht hx with ⟨rfl, _⟩ | ⟨a, len, cap, elems, rest, n, hn, rfl, _, _, hlc, hcm, hel, hels, hsp, _⟩
        · exact ⟨ρ, h, _, Ext.refl _ _, hR, fun _ _ h => h, .cons .nilsl .nil, .nilsl ht⟩
        · obtain rfl : k = n := by omega
          obtain ⟨hrl, hrest⟩ := hsp rfl
          by_cases hc0 : cap = 0
          · subst hc0
            obtain rfl : len = 0 := by omega
            obtain ⟨b0, c0, e0, fr0, h0⟩ := hd
            obtain ⟨hE, hR'⟩ := rel_addRO hR ⟨b0, 0, 0⟩ [] (hA b0 _ h0).2 ⟨c0, e0, fr0, h0, Nat.zero_le _, Nat.le_refl _, fun i a hi => by simp at hi, (fun hh => by cases hh), fun hh => by cases hh⟩
            refine ⟨_, _, [.sl h.nx 0 0 (P.cellsOf e) none], hE, hR', fun id o hg => ?_, .cons ?_ .nil, .sl ht (cs := []) ?_ (Nat.zero_le _) (by simp) fun i hi => absurd hi (Nat.not_lt_zero i)⟩
            · rw [AH.get_new]
              split
              · rename_i e'
                obtain ⟨p, hp, _⟩ := hR.obj id o hg
                rw [e', hR.fresh _ (Nat.le_refl _)] at hp; cases hp
              · exact hg
            · exact .sl (p := ⟨b0, 0, 0⟩) (by simp) (Nat.le_refl _) (.inl rfl) (.inl rfl) (fun n hn => by cases hn)
            · rw [AH.get_new, if_pos rfl]
          · -- every element lies in one block
            have hrow : ∀ j, j < cap → ∃ cs' x', w.cells? 0 (a.add (j * P.cellsOf e)) (P.cellsOf e) = some cs' ∧ DataW.trod enc P w 0 (fun _ => true) true k e cs' = some x' := by
              intro j hj
              by_cases hjl : j < len
              · have h1 := hels j hjl
                have h2 : elems[j]? = some (elems[j]'(by omega)) := List.getElem?_eq_getElem (by omega)
                rw [h2, Option.bind_eq_some_iff] at h1
                obtain ⟨cs', h3, h4⟩ := h1
                exact ⟨cs', _, h3, h4⟩
              · have h1 := hrest (j - len) (by omega)
                have h2 : rest[j - len]? = some (rest[j - len]'(by omega)) := List.getElem?_eq_getElem (by omega)
                rw [h2, Option.bind_eq_some_iff, show len + (j - len) = j by omega] at h1
                obtain ⟨cs', h3, h4⟩ := h1
                exact ⟨cs', _, h3, h4⟩
            obtain ⟨c, et, fr, hblk, hspot⟩ : ∃ c et fr, w.heap[a.block]? = some (Obj.cells c et fr) ∧ a.spot = none := by
              obtain ⟨cs0, x0, h1, _⟩ := hrow 0 (by omega)
              obtain ⟨_, hl, hg⟩ := World.cells?_some h1
              have h2 := hg 0 hsz
              have h3 : cs0[0]? = some (cs0[0]'(by omega)) := List.getElem?_eq_getElem (by omega)
              rw [h3, Nat.zero_mul, addr_add0, addr_add0] at h2
              unfold World.cell? at h2
              split at h2
              · rename_i c et fr hh
                split at h2
                · cases h2
                · rename_i hs
                  exact ⟨c, et, fr, hh, by simpa using hs⟩
              · cases h2
            have hat : ∀ j cs', w.cells? 0 (a.add (j * P.cellsOf e)) (P.cellsOf e) = some cs' → cs' = ((c.toList.drop a.off).drop (j * P.cellsOf e)).take (P.cellsOf e) ∧ a.off + j * P.cellsOf e + P.cellsOf e ≤ c.size := by
              intro j cs' h1
              obtain ⟨_, hl, hg⟩ := World.cells?_some h1
              have hcell : ∀ i, i < P.cellsOf e → c[a.off + j * P.cellsOf e + i]? = cs'[i]? := fun i hi => by
                have h2 := hg i hi
                obtain ⟨ab, ao, asp⟩ := a
                simp only at hspot hblk
                subst hspot
                rw [addr_addN, addr_addN] at h2
                unfold World.cell? at h2
                simp only [hblk, Option.isSome_none, Bool.false_eq_true, if_false] at h2
                exact h2
              have hbound : a.off + j * P.cellsOf e + P.cellsOf e ≤ c.size := by
                have h2 := hcell (P.cellsOf e - 1) (by omega)
                have h3 : cs'[P.cellsOf e - 1]? = some (cs'[P.cellsOf e - 1]'(by omega)) := List.getElem?_eq_getElem (by omega)
                rw [h3] at h2
                have := (Array.getElem?_eq_some_iff.1 h2).1
                omega
              refine ⟨List.ext_getElem? fun i => ?_, hbound⟩
              by_cases hi : i < P.cellsOf e
              · rw [List.getElem?_take_of_lt hi, List.getElem?_drop, List.getElem?_drop, ← hcell i hi, Array.getElem?_toList]
                congr 1
                omega
              · rw [List.getElem?_eq_none (by omega), List.getElem?_eq_none (by simp; omega)]
            let l := c.toList.drop a.off
            let rows := (List.range len).map fun i => (l.drop (i * P.cellsOf e)).take (P.cellsOf e)
            have hrows : ∀ cs', cs' ∈ rows → cs'.length = P.cellsOf e ∧ ∃ x', DataW.trod enc P w 0 (fun _ => true) true k e cs' = some x' := by
              intro cs' hm
              obtain ⟨i, hi, rfl⟩ := List.mem_map.1 hm
              obtain ⟨cs', x', h1, h2⟩ := hrow i (by have := List.mem_range.1 hi; omega)
              obtain ⟨h3, _⟩ := hat i cs' h1
              refine ⟨?_, x', by rw [← h3]; exact h2⟩
              rw [← h3]; exact (World.cells?_some h1).2.1
            obtain ⟨ρ1, h1, avs, e1, r1, l1, v1, n1, t1⟩ := got_many hA (sz := P.cellsOf e) (fun cs' x' _ hx' ρ h hR => ih e cs' x' hk hx' ρ h hR) rows hrows ρ h hR
            have hrl : rows.length = len := by simp [rows]
            rw [hrl] at n1 t1
            have hflat : rows.flatten = l.take (len * P.cellsOf e) := flat_rows l _ len
            rw [hflat] at v1
            obtain ⟨hbound, hmul⟩ : a.off + cap * P.cellsOf e ≤ c.size ∧ len * P.cellsOf e ≤ cap * P.cellsOf e := by
              obtain ⟨cs', x', g1, _⟩ := hrow (cap - 1) (by omega)
              have h2 := (hat _ _ g1).2
              have h3 : cap * P.cellsOf e = (cap - 1) * P.cellsOf e + P.cellsOf e := by
                obtain ⟨m, rfl⟩ : ∃ m, cap = m + 1 := ⟨cap - 1, by omega⟩
                simp [Nat.add_mul]
              exact ⟨by omega, Nat.mul_le_mul_right _ hlc⟩
            let p : Pl := ⟨a.block, a.off, a.off + cap * P.cellsOf e⟩
            have hle1 : ρ1.le (fun id => if id = h1.nx then some p else ρ1 id) := fun id q hq => by
              have : id ≠ h1.nx := fun e' => by rw [e', r1.fresh h1.nx (Nat.le_refl _)] at hq; cases hq
              simp [this, hq]
            obtain ⟨hE, hR'⟩ := rel_addRO r1 p avs (hA a.block _ hblk).2 ⟨c, et, fr, hblk, hbound, by show a.off + avs.length ≤ a.off + cap * P.cellsOf e; omega, fun i b hi => by
              obtain ⟨v, hv, hvr⟩ := v1.get hi
              refine ⟨v, ?_, hvr.mono hle1⟩
              have hil : i < len * P.cellsOf e := by rw [← n1]; exact (List.getElem?_eq_some_iff.1 hi).1
              rw [List.getElem?_take_of_lt hil, List.getElem?_drop, Array.getElem?_toList] at hv
              exact hv, (fun hh => by cases hh), fun hh => by cases hh⟩
            have hle2 : ∀ id o, h1.get id = some o → (h1.new (.cells avs false false)).get id = some o := fun id o hg => by
              rw [AH.get_new]
              split
              · rename_i e'
                obtain ⟨q, hq, _⟩ := r1.obj id o hg
                rw [e', r1.fresh _ (Nat.le_refl _)] at hq; cases hq
              · exact hg
            refine ⟨_, _, [.sl h1.nx 0 len (P.cellsOf e) none], e1.trans hE, hR', fun id o hg => hle2 id o (l1 id o hg), .cons ?_ .nil, .sl ht (cs := avs) ?_ (by omega) n1 fun i hi => (t1 i hi).mono hle2⟩
            · have := VR.sl (ρ := fun id => if id = h1.nx then some p else ρ1 id) (id := h1.nx) (off := 0) (len := len) (sz := P.cellsOf e) (c := none) (p := p) (a := a) (cap := cap) (by simp) hlc
                (.inr (by cases a; simp only at hspot; subst hspot; rfl)) (.inr (by show a.off + 0 + cap * P.cellsOf e ≤ a.off + cap * P.cellsOf e; omega)) (fun n hn => by cases hn)
              exact this
            · rw [AH.get_new, if_pos rfl]
      case struct fs =>
        simp only [Bool.and_eq_true, List.all_eq_true] at hk
        obtain ⟨hk1, hk2⟩ := hk
        obtain ⟨xs, n, hn, _, hl, hxl, hall⟩ := DataW.trod_struct ht hx
        obtain rfl : k = n := by omega
        obtain ⟨ρ1, h1, avs, e1, r1, l1, v1, t1⟩ := got_fields hA (cs := cs) (fun t cs x hk hx => ih t cs x hk hx) fs.toList 0 (P.cellsOf t) hk1 (fun f hf => by
          refine ⟨hk2 f hf, ?_⟩
          obtain ⟨i, hi, he⟩ := List.getElem_of_mem hf
          have h2 := hall i f (by rw [← he]; simp at hi ⊢)
          have hi' : i < xs.length := by simp at hi; omega
          rw [List.getElem?_eq_getElem hi'] at h2
          exact ⟨_, h2⟩) hl.symm (Nat.zero_le _) ρ h hR
        rw [List.drop_zero] at v1
        exact ⟨ρ1, h1, avs, e1, r1, l1, v1, .struct ht (by rw [v1.length, hl]) fun f hf => by simpa using (t1 f hf).2⟩
      case array n e =>
        simp only [Bool.and_eq_true, decide_eq_true_eq] at hk
        obtain ⟨hk1, hk2⟩ := hk
        obtain ⟨xs, m, hm, _, hl, hxl, hall⟩ := DataW.trod_array ht hx
        obtain rfl : k = m := by omega
        let rows := (List.range n).map fun i => (cs.drop (i * P.cellsOf e)).take (P.cellsOf e)
        have hrows : ∀ cs', cs' ∈ rows → cs'.length = P.cellsOf e ∧ ∃ x', DataW.trod enc P w 0 (fun _ => true) true k e cs' = some x' := by
          intro cs' hmem
          obtain ⟨i, hi, rfl⟩ := List.mem_map.1 hmem
          have hi := List.mem_range.1 hi
          have h2 := hall i hi
          rw [List.getElem?_eq_getElem (show i < xs.length by omega)] at h2
          refine ⟨?_, _, h2⟩
          rw [List.length_take, List.length_drop]
          have : (i + 1) * P.cellsOf e ≤ n * P.cellsOf e := Nat.mul_le_mul_right _ hi
          rw [Nat.add_mul, Nat.one_mul] at this
          omega
        obtain ⟨ρ1, h1, avs, e1, r1, l1, v1, n1, t1⟩ := got_many hA (sz := P.cellsOf e) (fun cs' x' _ hx' ρ h hR => ih e cs' x' hk2 hx' ρ h hR) rows hrows ρ h hR
        have hrl : rows.length = n := by simp [rows]
        rw [hrl] at n1 t1
        rw [flat_rows cs _ n, List.take_of_length_le (by omega)] at v1
        exact ⟨ρ1, h1, avs, e1, r1, l1, v1, .array ht (by omega) t1⟩

end
end Go.Abs
end
