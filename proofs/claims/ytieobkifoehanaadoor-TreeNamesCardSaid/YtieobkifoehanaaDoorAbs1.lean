/- The abstract layer, part 1: tries, abstract values and heaps, and how they relate to the model's world. -/
import Derived.RangeFuncLeaves
import Derived.RangeFuncIn
import Derived.Below
import Derived.Orders
import Derived.MapKept
namespace Go.Abs
open Go Go.RowKit

/-! ### Tries -/
inductive Tr (α : Type) where
  | nil
  | node (l : Tr α) (v : Option α) (r : Tr α)

def Tr.get {α : Type} : Tr α → Nat → Option α
  | .nil, _ => none
  | .node l v r, n => cond (Nat.beq n 0) v (cond (Nat.beq (n % 2) 1) (l.get (n / 2)) (r.get (n / 2 - 1)))

theorem Tr.get_nil {α : Type} (n : Nat) : (Tr.nil : Tr α).get n = none := rfl
theorem Tr.get_node {α : Type} (l : Tr α) (v : Option α) (r : Tr α) (n : Nat) :
    (Tr.node l v r).get n = cond (Nat.beq n 0) v (cond (Nat.beq (n % 2) 1) (l.get (n / 2)) (r.get (n / 2 - 1))) := rfl

def Tr.setF {α : Type} (x : Option α) : Nat → Tr α → Nat → Tr α
  | 0, t, _ => t
  | f + 1, .nil, n => cond (Nat.beq n 0) (.node .nil x .nil) (cond (Nat.beq (n % 2) 1) (.node (Tr.setF x f .nil (n / 2)) none .nil) (.node .nil none (Tr.setF x f .nil (n / 2 - 1))))
  | f + 1, .node l v r, n => cond (Nat.beq n 0) (.node l x r) (cond (Nat.beq (n % 2) 1) (.node (Tr.setF x f l (n / 2)) v r) (.node l v (Tr.setF x f r (n / 2 - 1))))

def Tr.set {α : Type} (t : Tr α) (n : Nat) (x : Option α) : Tr α := Tr.setF x (n + 1) t n

theorem Tr.setF_nil {α : Type} (x : Option α) (f n : Nat) : Tr.setF x (f + 1) .nil n = cond (Nat.beq n 0) (.node .nil x .nil) (cond (Nat.beq (n % 2) 1) (.node (Tr.setF x f .nil (n / 2)) none .nil) (.node .nil none (Tr.setF x f .nil (n / 2 - 1)))) := rfl
theorem Tr.setF_node {α : Type} (x : Option α) (f n : Nat) (l : Tr α) (v : Option α) (r : Tr α) : Tr.setF x (f + 1) (.node l v r) n = cond (Nat.beq n 0) (.node l x r) (cond (Nat.beq (n % 2) 1) (.node (Tr.setF x f l (n / 2)) v r) (.node l v (Tr.setF x f r (n / 2 - 1)))) := rfl

theorem Tr.get_setF {α : Type} (x : Option α) : ∀ (f : Nat) (t : Tr α) (n m : Nat), n < f → (Tr.setF x f t n).get m = if m = n then x else t.get m := by
  intro f
  induction f with
  | zero => intro t n m h; omega
  | succ f ih =>
    intro t n m h
    have hb : ∀ a b : Nat, Nat.beq a b = decide (a = b) := fun a b => by
      by_cases e : a = b
      · subst e; simp
      · cases hh : Nat.beq a b with
        | false => simp [e]
        | true => exact absurd (Nat.eq_of_beq_eq_true hh) e
    cases t with
    | nil =>
      rw [Tr.setF_nil]
      by_cases h0 : n = 0
      · subst h0
        simp only [hb, decide_true, cond_true, Tr.get_node, Tr.get_nil]
        by_cases hm : m = 0 <;> simp [hm]
      · by_cases h1 : n % 2 = 1
        · simp only [hb, h0, h1, decide_false, decide_true, cond_true, cond_false, Tr.get_node, Tr.get_nil]
          by_cases hm : m = 0
          · subst hm; simp; omega
          · by_cases hm1 : m % 2 = 1
            · simp only [hm, hm1, decide_false, decide_true, cond_true, cond_false]
              rw [ih .nil (n / 2) (m / 2) (by omega), Tr.get_nil]
              have : (m / 2 = n / 2) ↔ m = n := by omega
              simp [this]
            · simp only [hm, hm1, decide_false, cond_false]
              have : m ≠ n := by omega
              simp [this]
        · simp only [hb, h0, h1, decide_false, cond_false, Tr.get_node, Tr.get_nil]
          by_cases hm : m = 0
          · subst hm; simp; omega
          · by_cases hm1 : m % 2 = 1
            · simp only [hm, hm1, decide_false, decide_true, cond_true, cond_false]
              have : m ≠ n := by omega
              simp [this]
            · simp only [hm, hm1, decide_false, cond_false]
              rw [ih .nil (n / 2 - 1) (m / 2 - 1) (by omega), Tr.get_nil]
              have : (m / 2 - 1 = n / 2 - 1) ↔ m = n := by omega
              simp [this]
    | node l v r =>
      rw [Tr.setF_node]
      by_cases h0 : n = 0
      · subst h0
        simp only [hb, decide_true, cond_true, Tr.get_node]
        by_cases hm : m = 0 <;> simp [hm]
      · by_cases h1 : n % 2 = 1
        · simp only [hb, h0, h1, decide_false, decide_true, cond_true, cond_false, Tr.get_node]
          by_cases hm : m = 0
          · subst hm
            have : (0 : Nat) ≠ n := by omega
            simp [this]
          · by_cases hm1 : m % 2 = 1
            · simp only [hm, hm1, decide_false, decide_true, cond_true, cond_false]
              rw [ih l (n / 2) (m / 2) (by omega)]
              have : (m / 2 = n / 2) ↔ m = n := by omega
              simp [this]
            · simp only [hm, hm1, decide_false, cond_false]
              have : m ≠ n := by omega
              simp [this]
        · simp only [hb, h0, h1, decide_false, cond_false, Tr.get_node]
          by_cases hm : m = 0
          · subst hm
            have : (0 : Nat) ≠ n := by omega
            simp [this]
          · by_cases hm1 : m % 2 = 1
            · simp only [hm, hm1, decide_false, decide_true, cond_true, cond_false]
              have : m ≠ n := by omega
              simp [this]
            · simp only [hm, hm1, decide_false, cond_false]
              rw [ih r (n / 2 - 1) (m / 2 - 1) (by omega)]
              have : (m / 2 - 1 = n / 2 - 1) ↔ m = n := by omega
              simp [this]

theorem Tr.get_set {α : Type} (t : Tr α) (n m : Nat) (x : Option α) : (t.set n x).get m = if m = n then x else t.get m :=
  Tr.get_setF x (n + 1) t n m (Nat.lt_succ_self n)

/-! ### Values -/
inductive AV where
  | junk
  | bool (b : Bool)
  | int (k : IntKind) (n : Int)
  | str (s : List Nat)
  | nilptr
  | ptr (id off : Nat)
  | nilsl
  | sl (id off len sz : Nat) (cap : Option Nat)
  | nilmap
  | map (id : Nat)
  | func (fn : Fn) (first captured : List AV)
  | yld (id : Nat)
  | nilfunc
  | iface (t : TypeId) (v : AV)
  | nilif
  | agg (l : List AV)
  | tup (l : List AV)

abbrev Env := Tr AV

/-- Where a block lies: its number, from which cell on, and how many cells it has. -/
structure Pl where
  b : Nat
  o : Nat
  lim : Nat

abbrev Pm := Nat → Option Pl

def bytesOf (s : ByteArray) : List Nat := s.data.toList.map UInt8.toNat

/-- Which function values are the same in both layers. -/
def plainFn : Fn → Bool
  | .yield _ => false
  | _ => true

mutual
inductive VR (ρ : Pm) : AV → Value → Prop
  | junk (v : Value) : VR ρ .junk v
  | bool (b : Bool) : VR ρ (.bool b) (.bool b)
  | int (k : IntKind) (n : Int) : VR ρ (.int k n) (.int k n)
  | str (s : ByteArray) : VR ρ (.str (bytesOf s)) (.string s)
  | nilptr : VR ρ .nilptr (.pointer none)
  | ptr {id off : Nat} {p : Pl} (h : ρ id = some p) : VR ρ (.ptr id off) (.pointer (some ⟨p.b, p.o + off, none⟩))
  | nilsl : VR ρ .nilsl (.slice none 0 0)
  | sl {id off len sz : Nat} {c : Option Nat} {p : Pl} {a : Addr} {cap : Nat} (h : ρ id = some p) (hl : len ≤ cap) (ha : cap = 0 ∨ a = ⟨p.b, p.o + off, none⟩)
      (hx : cap = 0 ∨ p.o + off + cap * sz ≤ p.lim) (hc : ∀ n, c = some n → cap = n) : VR ρ (.sl id off len sz c) (.slice (some a) len cap)
  | nilmap : VR ρ .nilmap (.map none)
  | map {id : Nat} {p : Pl} (h : ρ id = some p) : VR ρ (.map id) (.map (some p.b))
  | func {fn : Fn} {l m : List AV} {first captured : Array Value} (hp : plainFn fn = true) (hl : VRs ρ l first.toList) (hm : VRs ρ m captured.toList) : VR ρ (.func fn l m) (.func fn first captured)
  | yld {id : Nat} {p : Pl} (h : ρ id = some p) : VR ρ (.yld id) (.func (.yield p.b) #[] #[])
  | nilfunc : VR ρ .nilfunc .nilFunc
  | iface {t : TypeId} {v : AV} {cv : Value} (h : VR ρ v cv) : VR ρ (.iface t v) (.iface t cv)
  | nilif : VR ρ .nilif .nilIface
  | agg {l : List AV} {cs : Array Value} (h : VRs ρ l cs.toList) : VR ρ (.agg l) (.agg cs)
  | tup {l : List AV} {cs : Array Value} (h : VRs ρ l cs.toList) : VR ρ (.tup l) (.tuple cs)
inductive VRs (ρ : Pm) : List AV → List Value → Prop
  | nil : VRs ρ [] []
  | cons {a : AV} {v : Value} {l : List AV} {m : List Value} (h : VR ρ a v) (t : VRs ρ l m) : VRs ρ (a :: l) (v :: m)
end

/-- ρ' knows all that ρ knows. -/
def Pm.le (ρ ρ' : Pm) : Prop := ∀ id p, ρ id = some p → ρ' id = some p
theorem Pm.le_refl (ρ : Pm) : ρ.le ρ := fun _ _ h => h
theorem Pm.le_trans {a b c : Pm} (h : a.le b) (k : b.le c) : a.le c := fun id p hp => k id p (h id p hp)

mutual
theorem VR.mono {ρ ρ' : Pm} (hle : ρ.le ρ') : ∀ {a : AV} {v : Value}, VR ρ a v → VR ρ' a v
  | _, _, .junk v => .junk v
  | _, _, .bool b => .bool b
  | _, _, .int k n => .int k n
  | _, _, .str s => .str s
  | _, _, .nilptr => .nilptr
  | _, _, .ptr h => .ptr (hle _ _ h)
  | _, _, .nilsl => .nilsl
  | _, _, .sl h hl ha hx hc => .sl (hle _ _ h) hl ha hx hc
  | _, _, .nilmap => .nilmap
  | _, _, .map h => .map (hle _ _ h)
  | _, _, .func hp hl hm => .func hp (hl.mono hle) (hm.mono hle)
  | _, _, .yld h => .yld (hle _ _ h)
  | _, _, .nilfunc => .nilfunc
  | _, _, .iface h => .iface (h.mono hle)
  | _, _, .nilif => .nilif
  | _, _, .agg h => .agg (h.mono hle)
  | _, _, .tup h => .tup (h.mono hle)
theorem VRs.mono {ρ ρ' : Pm} (hle : ρ.le ρ') : ∀ {l : List AV} {m : List Value}, VRs ρ l m → VRs ρ' l m
  | _, _, .nil => .nil
  | _, _, .cons h t => .cons (h.mono hle) (t.mono hle)
end

theorem VRs.length {ρ : Pm} {l : List AV} {m : List Value} (h : VRs ρ l m) : l.length = m.length := by
  induction l generalizing m with
  | nil => cases h; rfl
  | cons a l ih => cases h with | cons h t => simp [ih t]

theorem VRs.get {ρ : Pm} {l : List AV} {m : List Value} (h : VRs ρ l m) {i : Nat} {a : AV} (hi : l[i]? = some a) : ∃ v, m[i]? = some v ∧ VR ρ a v := by
  induction l generalizing m i with
  | nil => simp at hi
  | cons x l ih =>
    cases h with
    | cons h t =>
      cases i with
      | zero => simp at hi; subst hi; exact ⟨_, rfl, h⟩
      | succ i => simpa using ih t (by simpa using hi)

theorem VRs.append {ρ : Pm} {l l' : List AV} {m m' : List Value} (h : VRs ρ l m) (h' : VRs ρ l' m') : VRs ρ (l ++ l') (m ++ m') := by
  induction l generalizing m with
  | nil => cases h; exact h'
  | cons a l ih => cases h with | cons h t => exact .cons h (ih t)

theorem VRs.of_get {ρ : Pm} : ∀ {l : List AV} {m : List Value}, l.length = m.length → (∀ (i : Nat) (a : AV) (v : Value), l[i]? = some a → m[i]? = some v → VR ρ a v) → VRs ρ l m
  | [], [], _, _ => .nil
  | [], _ :: _, h, _ => by simp at h
  | _ :: _, [], h, _ => by simp at h
  | a :: l, v :: m, h, hg => .cons (hg 0 a v rfl rfl) (VRs.of_get (by simpa using h) fun i a' v' h1 h2 => hg (i + 1) a' v' (by simpa using h1) (by simpa using h2))

theorem VRs.take {ρ : Pm} {l : List AV} {m : List Value} (h : VRs ρ l m) (n : Nat) : VRs ρ (l.take n) (m.take n) := by
  induction n generalizing l m with
  | zero => simp; exact .nil
  | succ n ih => cases h with
    | nil => simp; exact .nil
    | cons h t => simp only [List.take_succ_cons]; exact .cons h (ih t)

theorem VRs.drop {ρ : Pm} {l : List AV} {m : List Value} (h : VRs ρ l m) (n : Nat) : VRs ρ (l.drop n) (m.drop n) := by
  induction n generalizing l m with
  | zero => simpa using h
  | succ n ih => cases h with
    | nil => simp; exact .nil
    | cons h t => simpa using ih t

theorem VRs.set {ρ : Pm} {l : List AV} {m : List Value} (h : VRs ρ l m) (i : Nat) {a : AV} {v : Value} (hv : VR ρ a v) : VRs ρ (l.set i a) (m.set i v) := by
  induction l generalizing m i with
  | nil => cases h; simp; exact .nil
  | cons x l ih => cases h with
    | cons h t => cases i with
      | zero => exact .cons hv t
      | succ i => exact .cons h (ih t i)

/-! ### Objects and heaps -/
inductive AO where
  /-- a row of cells; own: it may be written; text: its end may be marked by a conversion between strings and bytes -/
  | cells (cs : List AV) (own text : Bool)
  | map (es : List (AV × AV))
  | loop (st : LoopState) (pend : Option Code) (fn : FuncId) (t : Env) (n : Nat) (params : Array Tmp) (assign body : Code) (defers : Nat)
  | defs (open_ : Bool)
  | sit (s : List Nat) (pos : Nat)

def AO.own : AO → Bool
  | .cells _ o _ => o
  | _ => true

structure AH where
  tr : Tr AO
  nx : Nat

def AH.get (h : AH) (id : Nat) : Option AO := h.tr.get id
def AH.put (h : AH) (id : Nat) (o : AO) : AH := { h with tr := h.tr.set id (some o) }
def AH.del (h : AH) (id : Nat) : AH := { h with tr := h.tr.set id none }
def AH.new (h : AH) (o : AO) : AH := { tr := h.tr.set h.nx (some o), nx := h.nx + 1 }

theorem AH.get_put (h : AH) (id : Nat) (o : AO) (j : Nat) : (h.put id o).get j = if j = id then some o else h.get j := Tr.get_set _ _ _ _
theorem AH.get_del (h : AH) (id j : Nat) : (h.del id).get j = if j = id then none else h.get j := Tr.get_set _ _ _ _
theorem AH.get_new (h : AH) (o : AO) (j : Nat) : (h.new o).get j = if j = h.nx then some o else h.get j := Tr.get_set _ _ _ _
@[simp] theorem AH.nx_put (h : AH) (id : Nat) (o : AO) : (h.put id o).nx = h.nx := rfl
@[simp] theorem AH.nx_del (h : AH) (id : Nat) : (h.del id).nx = h.nx := rfl
@[simp] theorem AH.nx_new (h : AH) (o : AO) : (h.new o).nx = h.nx + 1 := rfl

/-- More places are known, beyond those that were used. -/
structure Ext (n : Nat) (ρ : Pm) (n' : Nat) (ρ' : Pm) : Prop where
  le : ρ.le ρ'
  nx : n ≤ n'
  old : ∀ id, id < n → ρ' id = ρ id
theorem Ext.refl (n : Nat) (ρ : Pm) : Ext n ρ n ρ := ⟨Pm.le_refl ρ, Nat.le_refl n, fun _ _ => rfl⟩
theorem Ext.trans {n n1 n2 : Nat} {a b c : Pm} (h : Ext n a n1 b) (k : Ext n1 b n2 c) : Ext n a n2 c :=
  ⟨Pm.le_trans h.le k.le, Nat.le_trans h.nx k.nx, fun id hid => (k.old id (Nat.lt_of_lt_of_le hid h.nx)).trans (h.old id hid)⟩

/-- A frame's temporaries. -/
def ER (ρ : Pm) (t : Env) (n : Nat) (tmps : Array Value) : Prop :=
  tmps.size = n ∧ ∀ i a, t.get i = some a → ∃ v, tmps[i]? = some v ∧ VR ρ a v

theorem ER.mono {ρ ρ' : Pm} (hle : ρ.le ρ') {t : Env} {n : Nat} {tmps : Array Value} (h : ER ρ t n tmps) : ER ρ' t n tmps :=
  ⟨h.1, fun i a hi => let ⟨v, hv, r⟩ := h.2 i a hi; ⟨v, hv, r.mono hle⟩⟩

theorem ER.set {ρ : Pm} {t : Env} {n : Nat} {tmps : Array Value} (h : ER ρ t n tmps) {d : Nat} (hd : d < n) {a : AV} {v : Value} (hv : VR ρ a v) :
    ER ρ (t.set d (some a)) n (tmps.setIfInBounds d v) := by
  refine ⟨by simp [h.1], fun i b hi => ?_⟩
  rw [Tr.get_set] at hi
  by_cases e : i = d
  · subst e
    simp at hi; subst hi
    exact ⟨v, by simp [h.1, hd], hv⟩
  · rw [if_neg e] at hi
    obtain ⟨u, hu, r⟩ := h.2 i b hi
    exact ⟨u, by rw [Array.getElem?_setIfInBounds_ne (Ne.symm e)]; exact hu, r⟩

def MR (ρ : Pm) : List (AV × AV) → List MapEntry → Prop
  | [], [] => True
  | (k, v) :: l, e :: m => VR ρ k e.key ∧ VR ρ v e.val ∧ MR ρ l m
  | _, _ => False

theorem MR.mono {ρ ρ' : Pm} (hle : ρ.le ρ') : ∀ {l : List (AV × AV)} {m : List MapEntry}, MR ρ l m → MR ρ' l m
  | [], [], _ => trivial
  | (_, _) :: _, _ :: _, ⟨h1, h2, h3⟩ => ⟨h1.mono hle, h2.mono hle, MR.mono hle h3⟩
  | [], _ :: _, h => h.elim
  | (_, _) :: _, [], h => h.elim

/-- Which cells of a block are marked as a string's: none, or the one behind its end. -/
def FrOk (fr : Nat × Nat) (n : Nat) : Prop := fr = (0, 0) ∨ fr = (n, n + 1)
theorem FrOk.not {fr : Nat × Nat} {n : Nat} (h : FrOk fr n) : ∀ i, i < n → ¬ (fr.1 ≤ i ∧ i < fr.2) := by
  rcases h with rfl | rfl
  · intro i _ hh; exact absurd hh.2 (Nat.not_lt_zero i)
  · intro i hi hh; exact absurd hh.1 (Nat.not_le.2 hi)

/-- What the model's heap holds at a place, for an object. -/
def OR (ρ : Pm) (p : Pl) : AO → Option Obj → Prop
  | .cells cs own text, x => ∃ c e fr, x = some (.cells c e fr) ∧ (if own then c.size = p.lim else p.lim ≤ c.size) ∧ p.o + cs.length ≤ p.lim ∧
      (∀ i a, cs[i]? = some a → ∃ v, c[p.o + i]? = some v ∧ VR ρ a v) ∧ (own = true → FrOk fr c.size) ∧ (own = true → text = false → fr = (0, 0) ∧ 0 < c.size ∧ p.o = 0)
  | .map es, x => ∃ ces clock, x = some (.map ces clock) ∧ MR ρ es ces.toList ∧ MapKept.Stamped ces clock
  | .loop st pend _ t n params assign body d, x => ∃ tmps pd fn, x = some (.loop { state := st, pending := pend, fn, tmps, params, assign, body, defers := pd }) ∧ ER ρ t n tmps ∧ ∃ q, ρ d = some q ∧ q.b = pd
  | .defs o, x => x = some (.deferred (if o then some [] else none))
  | .sit s pos, x => ∃ bs, x = some (.stringIter bs pos) ∧ bytesOf bs = s

theorem OR.mono {ρ ρ' : Pm} (hle : ρ.le ρ') {p : Pl} {o : AO} {x : Option Obj} (h : OR ρ p o x) : OR ρ' p o x := by
  cases o with
  | cells cs own text =>
    obtain ⟨c, e, fr, h1, h2, h3, h4, h5⟩ := h
    exact ⟨c, e, fr, h1, h2, h3, fun i a hi => let ⟨v, hv, r⟩ := h4 i a hi; ⟨v, hv, r.mono hle⟩, h5⟩
  | map es => obtain ⟨ces, clock, h1, h2, h3⟩ := h; exact ⟨ces, clock, h1, h2.mono hle, h3⟩
  | loop st pend fn t n params assign body d =>
    obtain ⟨tmps, pd, fn, h1, h2, q, h3, h4⟩ := h
    exact ⟨tmps, pd, fn, h1, h2.mono hle, q, hle _ _ h3, h4⟩
  | defs o => exact h
  | sit s pos => exact h

/-- What stays as it is: the streams, and the blocks that nobody may write. -/
structure Kp where
  os : Os
  tape : Nat → Question → Nat
  output : Array (Nat × ByteArray)
  size : Nat
  at_ : Nat → Option Obj
  /-- where what nobody may write lies -/
  ro : Nat → Bool
  roAt : ∀ b, ro b = true → (at_ b).isSome = true

structure Rel (K : Kp) (ρ : Pm) (h : AH) (w : World) : Prop where
  os : w.os = K.os
  tape : w.tape = K.tape
  output : w.output = K.output
  size : K.size ≤ w.heap.size
  keep : ∀ b o, K.at_ b = some o → w.heap[b]? = some o
  fresh : ∀ id, h.nx ≤ id → ρ id = none
  obj : ∀ id o, h.get id = some o → ∃ p, ρ id = some p ∧ OR ρ p o w.heap[p.b]? ∧ (o.own = true → K.at_ p.b = none ∧ K.size ≤ p.b) ∧ (o.own = false → K.ro p.b = true)
  inj : ∀ i j oi oj pi pj, h.get i = some oi → h.get j = some oj → oi.own = true → oj.own = true → ρ i = some pi → ρ j = some pj → pi.b = pj.b → i = j

end Go.Abs
