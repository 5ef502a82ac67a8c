/- The abstract layer, parts 1 to 6. Conditions: none. -/
import Derived.RangeFuncLeaves
import Derived.RangeFuncIn
import Derived.Below
import Derived.Orders
import Derived.MapKept
import Derived.Laws.Sem
import Derived.Lib.Strings
import Derived.Lib.SmallJoins
import Derived.Laws.Strings
import Derived.Laws.Append
import Derived.Laws.StructEq

section
namespace Go.Abs
open Go Go.RowKit

/-! ### Tries, binary -/
inductive Ot (α : Type) where
  | nil
  | node (l : Ot α) (v : Option α) (r : Ot α)

noncomputable def Ot.get {α : Type} (t : Ot α) : Nat → Option α :=
  @Ot.rec α (fun _ => Nat → Option α) (fun _ => none) (fun _ v _ gl gr n => @Bool.rec (fun _ => Option α) (@Bool.rec (fun _ => Option α) (gr (Nat.sub (Nat.div n 2) 1)) (gl (Nat.div n 2)) (Nat.beq (Nat.mod n 2) 1)) v (Nat.beq n 0)) t

theorem bool_rec_cond {α : Type} (x y : α) (b : Bool) : @Bool.rec (fun _ => α) x y b = cond b y x := by cases b <;> rfl

@[simp] theorem Ot.get_nil {α : Type} (n : Nat) : (Ot.nil : Ot α).get n = none := rfl
theorem Ot.get_node {α : Type} (l : Ot α) (v : Option α) (r : Ot α) (n : Nat) :
    (Ot.node l v r).get n = cond (Nat.beq n 0) v (cond (Nat.beq (n % 2) 1) (l.get (n / 2)) (r.get (n / 2 - 1))) := by
  rw [← bool_rec_cond, ← bool_rec_cond]; rfl

noncomputable def Ot.mkF {α : Type} (x : Option α) (f : Nat) : Nat → Ot α :=
  @Nat.rec (fun _ => Nat → Ot α) (fun _ => .nil) (fun _ ih n => @Bool.rec (fun _ => Ot α) (@Bool.rec (fun _ => Ot α) (.node .nil none (ih (Nat.sub (Nat.div n 2) 1))) (.node (ih (Nat.div n 2)) none .nil) (Nat.beq (Nat.mod n 2) 1)) (.node .nil x .nil) (Nat.beq n 0)) f

noncomputable def Ot.set {α : Type} (t : Ot α) (n : Nat) (x : Option α) : Ot α :=
  @Ot.rec α (fun _ => Nat → Ot α) (fun n => Ot.mkF x (Nat.succ n) n) (fun l v r sl sr n => @Bool.rec (fun _ => Ot α) (@Bool.rec (fun _ => Ot α) (.node l v (sr (Nat.sub (Nat.div n 2) 1))) (.node (sl (Nat.div n 2)) v r) (Nat.beq (Nat.mod n 2) 1)) (.node l x r) (Nat.beq n 0)) t n

theorem nat_beq_dec (a b : Nat) : Nat.beq a b = decide (a = b) := by
  by_cases e : a = b
  · subst e; simp
  · cases hh : Nat.beq a b with
    | false => simp [e]
    | true => exact absurd (Nat.eq_of_beq_eq_true hh) e

theorem Ot.mkF_succ {α : Type} (x : Option α) (f n : Nat) : Ot.mkF x (f + 1) n = cond (Nat.beq n 0) (.node .nil x .nil) (cond (Nat.beq (n % 2) 1) (.node (Ot.mkF x f (n / 2)) none .nil) (.node .nil none (Ot.mkF x f (n / 2 - 1)))) := by
  rw [← bool_rec_cond, ← bool_rec_cond]; rfl
theorem Ot.set_nil {α : Type} (x : Option α) (n : Nat) : (Ot.nil : Ot α).set n x = Ot.mkF x (n + 1) n := rfl
theorem Ot.set_node {α : Type} (x : Option α) (n : Nat) (l : Ot α) (v : Option α) (r : Ot α) : (Ot.node l v r).set n x = cond (Nat.beq n 0) (.node l x r) (cond (Nat.beq (n % 2) 1) (.node (l.set (n / 2) x) v r) (.node l v (r.set (n / 2 - 1) x))) := by
  rw [← bool_rec_cond, ← bool_rec_cond]; rfl

theorem Ot.get_mkF {α : Type} (x : Option α) : ∀ (f n m : Nat), n < f → (Ot.mkF x f n).get m = if m = n then x else none := by
  intro f
  induction f with
  | zero => intro n m h; omega
  | succ f ih =>
    intro n m h
    rw [Ot.mkF_succ]
    by_cases h0 : n = 0
    · subst h0
      simp only [nat_beq_dec, decide_true, cond_true, Ot.get_node, Ot.get_nil]
      by_cases hm : m = 0 <;> simp [hm]
    · by_cases h1 : n % 2 = 1
      · simp only [nat_beq_dec, h0, h1, decide_false, decide_true, cond_true, cond_false, Ot.get_node, Ot.get_nil]
        by_cases hm : m = 0
        · subst hm; simp; omega
        · by_cases hm1 : m % 2 = 1
          · simp only [hm, hm1, decide_false, decide_true, cond_true, cond_false]
            rw [ih (n / 2) (m / 2) (by omega)]
            have : (m / 2 = n / 2) ↔ m = n := by omega
            simp [this]
          · simp only [hm, hm1, decide_false, cond_false]
            have : m ≠ n := by omega
            simp [this]
      · simp only [nat_beq_dec, h0, h1, decide_false, cond_false, Ot.get_node, Ot.get_nil]
        by_cases hm : m = 0
        · subst hm; simp; omega
        · by_cases hm1 : m % 2 = 1
          · simp only [hm, hm1, decide_false, decide_true, cond_true, cond_false]
            have : m ≠ n := by omega
            simp [this]
          · simp only [hm, hm1, decide_false, cond_false]
            rw [ih (n / 2 - 1) (m / 2 - 1) (by omega)]
            have : (m / 2 - 1 = n / 2 - 1) ↔ m = n := by omega
            simp [this]

theorem Ot.get_set {α : Type} (t : Ot α) (n m : Nat) (x : Option α) : (t.set n x).get m = if m = n then x else t.get m := by
  induction t generalizing n m with
  | nil => rw [Ot.set_nil, Ot.get_mkF x (n + 1) n m (Nat.lt_succ_self n), Ot.get_nil]
  | node l v r ihl ihr =>
    rw [Ot.set_node]
    by_cases h0 : n = 0
    · subst h0
      simp only [nat_beq_dec, decide_true, cond_true, Ot.get_node]
      by_cases hm : m = 0 <;> simp [hm]
    · by_cases h1 : n % 2 = 1
      · simp only [nat_beq_dec, h0, h1, decide_false, decide_true, cond_true, cond_false, Ot.get_node]
        by_cases hm : m = 0
        · subst hm
          have : (0 : Nat) ≠ n := by omega
          simp [this]
        · by_cases hm1 : m % 2 = 1
          · simp only [hm, hm1, decide_false, decide_true, cond_true, cond_false]
            rw [ihl (n / 2) (m / 2)]
            have : (m / 2 = n / 2) ↔ m = n := by omega
            simp [this]
          · simp only [hm, hm1, decide_false, cond_false]
            have : m ≠ n := by omega
            simp [this]
      · simp only [nat_beq_dec, h0, h1, decide_false, cond_false, Ot.get_node]
        by_cases hm : m = 0
        · subst hm
          have : (0 : Nat) ≠ n := by omega
          simp [this]
        · by_cases hm1 : m % 2 = 1
          · simp only [hm, hm1, decide_false, decide_true, cond_true, cond_false]
            have : m ≠ n := by omega
            simp [this]
          · simp only [hm, hm1, decide_false, cond_false]
            rw [ihr (n / 2 - 1) (m / 2 - 1)]
            have : (m / 2 - 1 = n / 2 - 1) ↔ m = n := by omega
            simp [this]

/-! ### Tries, sixteen ways -/
structure N16 (α : Type) where
  c0 : α
  c1 : α
  c2 : α
  c3 : α
  c4 : α
  c5 : α
  c6 : α
  c7 : α
  c8 : α
  c9 : α
  c10 : α
  c11 : α
  c12 : α
  c13 : α
  c14 : α
  c15 : α
structure SelN (α : Type) where run : N16 α → α
structure ModN (α : Type) where run : (α → α) → N16 α → N16 α
noncomputable def selN (α : Type) (d : Nat) : SelN α := @Nat.rec (fun _ => SelN α) ⟨fun t => t.c0⟩ (fun d _ => @Nat.rec (fun _ => SelN α) ⟨fun t => t.c1⟩ (fun d _ => @Nat.rec (fun _ => SelN α) ⟨fun t => t.c2⟩ (fun d _ => @Nat.rec (fun _ => SelN α) ⟨fun t => t.c3⟩ (fun d _ => @Nat.rec (fun _ => SelN α) ⟨fun t => t.c4⟩ (fun d _ => @Nat.rec (fun _ => SelN α) ⟨fun t => t.c5⟩ (fun d _ => @Nat.rec (fun _ => SelN α) ⟨fun t => t.c6⟩ (fun d _ => @Nat.rec (fun _ => SelN α) ⟨fun t => t.c7⟩ (fun d _ => @Nat.rec (fun _ => SelN α) ⟨fun t => t.c8⟩ (fun d _ => @Nat.rec (fun _ => SelN α) ⟨fun t => t.c9⟩ (fun d _ => @Nat.rec (fun _ => SelN α) ⟨fun t => t.c10⟩ (fun d _ => @Nat.rec (fun _ => SelN α) ⟨fun t => t.c11⟩ (fun d _ => @Nat.rec (fun _ => SelN α) ⟨fun t => t.c12⟩ (fun d _ => @Nat.rec (fun _ => SelN α) ⟨fun t => t.c13⟩ (fun d _ => @Nat.rec (fun _ => SelN α) ⟨fun t => t.c14⟩ (fun d _ => ⟨fun t => t.c15⟩) d) d) d) d) d) d) d) d) d) d) d) d) d) d) d
noncomputable def modN (α : Type) (d : Nat) : ModN α := @Nat.rec (fun _ => ModN α) ⟨fun f t => @N16.rec α (fun _ => N16 α) (fun c0 c1 c2 c3 c4 c5 c6 c7 c8 c9 c10 c11 c12 c13 c14 c15 => N16.mk (f c0) c1 c2 c3 c4 c5 c6 c7 c8 c9 c10 c11 c12 c13 c14 c15) t⟩ (fun d _ => @Nat.rec (fun _ => ModN α) ⟨fun f t => @N16.rec α (fun _ => N16 α) (fun c0 c1 c2 c3 c4 c5 c6 c7 c8 c9 c10 c11 c12 c13 c14 c15 => N16.mk c0 (f c1) c2 c3 c4 c5 c6 c7 c8 c9 c10 c11 c12 c13 c14 c15) t⟩ (fun d _ => @Nat.rec (fun _ => ModN α) ⟨fun f t => @N16.rec α (fun _ => N16 α) (fun c0 c1 c2 c3 c4 c5 c6 c7 c8 c9 c10 c11 c12 c13 c14 c15 => N16.mk c0 c1 (f c2) c3 c4 c5 c6 c7 c8 c9 c10 c11 c12 c13 c14 c15) t⟩ (fun d _ => @Nat.rec (fun _ => ModN α) ⟨fun f t => @N16.rec α (fun _ => N16 α) (fun c0 c1 c2 c3 c4 c5 c6 c7 c8 c9 c10 c11 c12 c13 c14 c15 => N16.mk c0 c1 c2 (f c3) c4 c5 c6 c7 c8 c9 c10 c11 c12 c13 c14 c15) t⟩ (fun d _ => @Nat.rec (fun _ => ModN α) ⟨fun f t => @N16.rec α (fun _ => N16 α) (fun c0 c1 c2 c3 c4 c5 c6 c7 c8 c9 c10 c11 c12 c13 c14 c15 => N16.mk c0 c1 c2 c3 (f c4) c5 c6 c7 c8 c9 c10 c11 c12 c13 c14 c15) t⟩ (fun d _ => @Nat.rec (fun _ => ModN α) ⟨fun f t => @N16.rec α (fun _ => N16 α) (fun c0 c1 c2 c3 c4 c5 c6 c7 c8 c9 c10 c11 c12 c13 c14 c15 => N16.mk c0 c1 c2 c3 c4 (f c5) c6 c7 c8 c9 c10 c11 c12 c13 c14 c15) t⟩ (fun d _ => @Nat.rec (fun _ => ModN α) ⟨fun f t => @N16.rec α (fun _ => N16 α) (fun c0 c1 c2 c3 c4 c5 c6 c7 c8 c9 c10 c11 c12 c13 c14 c15 => N16.mk c0 c1 c2 c3 c4 c5 (f c6) c7 c8 c9 c10 c11 c12 c13 c14 c15) t⟩ (fun d _ => @Nat.rec (fun _ => ModN α) ⟨fun f t => @N16.rec α (fun _ => N16 α) (fun c0 c1 c2 c3 c4 c5 c6 c7 c8 c9 c10 c11 c12 c13 c14 c15 => N16.mk c0 c1 c2 c3 c4 c5 c6 (f c7) c8 c9 c10 c11 c12 c13 c14 c15) t⟩ (fun d _ => @Nat.rec (fun _ => ModN α) ⟨fun f t => @N16.rec α (fun _ => N16 α) (fun c0 c1 c2 c3 c4 c5 c6 c7 c8 c9 c10 c11 c12 c13 c14 c15 => N16.mk c0 c1 c2 c3 c4 c5 c6 c7 (f c8) c9 c10 c11 c12 c13 c14 c15) t⟩ (fun d _ => @Nat.rec (fun _ => ModN α) ⟨fun f t => @N16.rec α (fun _ => N16 α) (fun c0 c1 c2 c3 c4 c5 c6 c7 c8 c9 c10 c11 c12 c13 c14 c15 => N16.mk c0 c1 c2 c3 c4 c5 c6 c7 c8 (f c9) c10 c11 c12 c13 c14 c15) t⟩ (fun d _ => @Nat.rec (fun _ => ModN α) ⟨fun f t => @N16.rec α (fun _ => N16 α) (fun c0 c1 c2 c3 c4 c5 c6 c7 c8 c9 c10 c11 c12 c13 c14 c15 => N16.mk c0 c1 c2 c3 c4 c5 c6 c7 c8 c9 (f c10) c11 c12 c13 c14 c15) t⟩ (fun d _ => @Nat.rec (fun _ => ModN α) ⟨fun f t => @N16.rec α (fun _ => N16 α) (fun c0 c1 c2 c3 c4 c5 c6 c7 c8 c9 c10 c11 c12 c13 c14 c15 => N16.mk c0 c1 c2 c3 c4 c5 c6 c7 c8 c9 c10 (f c11) c12 c13 c14 c15) t⟩ (fun d _ => @Nat.rec (fun _ => ModN α) ⟨fun f t => @N16.rec α (fun _ => N16 α) (fun c0 c1 c2 c3 c4 c5 c6 c7 c8 c9 c10 c11 c12 c13 c14 c15 => N16.mk c0 c1 c2 c3 c4 c5 c6 c7 c8 c9 c10 c11 (f c12) c13 c14 c15) t⟩ (fun d _ => @Nat.rec (fun _ => ModN α) ⟨fun f t => @N16.rec α (fun _ => N16 α) (fun c0 c1 c2 c3 c4 c5 c6 c7 c8 c9 c10 c11 c12 c13 c14 c15 => N16.mk c0 c1 c2 c3 c4 c5 c6 c7 c8 c9 c10 c11 c12 (f c13) c14 c15) t⟩ (fun d _ => @Nat.rec (fun _ => ModN α) ⟨fun f t => @N16.rec α (fun _ => N16 α) (fun c0 c1 c2 c3 c4 c5 c6 c7 c8 c9 c10 c11 c12 c13 c14 c15 => N16.mk c0 c1 c2 c3 c4 c5 c6 c7 c8 c9 c10 c11 c12 c13 (f c14) c15) t⟩ (fun d _ => ⟨fun f t => @N16.rec α (fun _ => N16 α) (fun c0 c1 c2 c3 c4 c5 c6 c7 c8 c9 c10 c11 c12 c13 c14 c15 => N16.mk c0 c1 c2 c3 c4 c5 c6 c7 c8 c9 c10 c11 c12 c13 c14 (f c15)) t⟩) d) d) d) d) d) d) d) d) d) d) d) d) d) d) d
noncomputable def frc {β : Sort _} (x : Nat) (k : Nat → β) : β := @Nat.rec (fun _ => β) (k 0) (fun n _ => k (Nat.succ n)) x
theorem frc_eq {β : Sort _} (x : Nat) (k : Nat → β) : frc x k = k x := by cases x <;> rfl
noncomputable def emp (α : Type) (x : α) : N16 α := N16.mk x x x x x x x x x x x x x x x x

theorem sel_mod {α : Type} {d e : Nat} (hd : d < 16) (he : e < 16) (f : α → α) (t : N16 α) : (selN α e).run ((modN α d).run f t) = if e = d then f ((selN α d).run t) else (selN α e).run t := by
  have h1 : d = 0 ∨ d = 1 ∨ d = 2 ∨ d = 3 ∨ d = 4 ∨ d = 5 ∨ d = 6 ∨ d = 7 ∨ d = 8 ∨ d = 9 ∨ d = 10 ∨ d = 11 ∨ d = 12 ∨ d = 13 ∨ d = 14 ∨ d = 15 := by omega
  have h2 : e = 0 ∨ e = 1 ∨ e = 2 ∨ e = 3 ∨ e = 4 ∨ e = 5 ∨ e = 6 ∨ e = 7 ∨ e = 8 ∨ e = 9 ∨ e = 10 ∨ e = 11 ∨ e = 12 ∨ e = 13 ∨ e = 14 ∨ e = 15 := by omega
  rcases h1 with rfl | rfl | rfl | rfl | rfl | rfl | rfl | rfl | rfl | rfl | rfl | rfl | rfl | rfl | rfl | rfl <;> rcases h2 with rfl | rfl | rfl | rfl | rfl | rfl | rfl | rfl | rfl | rfl | rfl | rfl | rfl | rfl | rfl | rfl <;> rfl
theorem sel_emp {α : Type} {d : Nat} (hd : d < 16) (x : α) : (selN α d).run (emp α x) = x := by
  have h1 : d = 0 ∨ d = 1 ∨ d = 2 ∨ d = 3 ∨ d = 4 ∨ d = 5 ∨ d = 6 ∨ d = 7 ∨ d = 8 ∨ d = 9 ∨ d = 10 ∨ d = 11 ∨ d = 12 ∨ d = 13 ∨ d = 14 ∨ d = 15 := by omega
  rcases h1 with rfl | rfl | rfl | rfl | rfl | rfl | rfl | rfl | rfl | rfl | rfl | rfl | rfl | rfl | rfl | rfl <;> rfl

/-! ### Tries -/
structure Tr (α : Type) where
  a : N16 (N16 (Option α))
  b : N16 (N16 (N16 (N16 (Option α))))
  o : Ot α
noncomputable def Tr.nil {α : Type} : Tr α := ⟨emp _ (emp _ none), emp _ (emp _ (emp _ (emp _ none))), .nil⟩

structure GetT (α : Type) where run : Tr α → Option α
structure SetT (α : Type) where run : Tr α → Option α → Tr α
noncomputable def getA (α : Type) (n : Nat) : GetT α :=
  frc (Nat.div n 16) fun i => frc (Nat.mod n 16) fun j =>
    @SelN.rec _ (fun _ => GetT α) (fun f => @SelN.rec _ (fun _ => GetT α) (fun g => ⟨fun t => g (f t.a)⟩) (selN _ j)) (selN _ i)
noncomputable def getB (α : Type) (n : Nat) : GetT α :=
  frc (Nat.div n 4096) fun i => frc (Nat.mod (Nat.div n 256) 16) fun j => frc (Nat.mod (Nat.div n 16) 16) fun k => frc (Nat.mod n 16) fun l =>
    @SelN.rec _ (fun _ => GetT α) (fun f => @SelN.rec _ (fun _ => GetT α) (fun g => @SelN.rec _ (fun _ => GetT α) (fun p => @SelN.rec _ (fun _ => GetT α) (fun q => ⟨fun t => q (p (g (f t.b)))⟩) (selN _ l)) (selN _ k)) (selN _ j)) (selN _ i)
noncomputable def getT (α : Type) (n : Nat) : GetT α :=
  @Bool.rec (fun _ => GetT α) (@Bool.rec (fun _ => GetT α) ⟨fun t => t.o.get (Nat.sub n 65792)⟩ (getB α (Nat.sub n 256)) (Nat.blt n 65792)) (getA α n) (Nat.blt n 256)
noncomputable def setA (α : Type) (n : Nat) : SetT α :=
  frc (Nat.div n 16) fun i => frc (Nat.mod n 16) fun j =>
    @ModN.rec _ (fun _ => SetT α) (fun f => @ModN.rec _ (fun _ => SetT α) (fun g => ⟨fun t x => @Tr.rec α (fun _ => Tr α) (fun a b o => ⟨f (fun s => g (fun _ => x) s) a, b, o⟩) t⟩) (modN _ j)) (modN _ i)
noncomputable def setB (α : Type) (n : Nat) : SetT α :=
  frc (Nat.div n 4096) fun i => frc (Nat.mod (Nat.div n 256) 16) fun j => frc (Nat.mod (Nat.div n 16) 16) fun k => frc (Nat.mod n 16) fun l =>
    @ModN.rec _ (fun _ => SetT α) (fun f => @ModN.rec _ (fun _ => SetT α) (fun g => @ModN.rec _ (fun _ => SetT α) (fun p => @ModN.rec _ (fun _ => SetT α) (fun q =>
      ⟨fun t x => @Tr.rec α (fun _ => Tr α) (fun a b o => ⟨a, f (fun s => g (fun s => p (fun s => q (fun _ => x) s) s) s) b, o⟩) t⟩) (modN _ l)) (modN _ k)) (modN _ j)) (modN _ i)
noncomputable def setT (α : Type) (n : Nat) : SetT α :=
  @Bool.rec (fun _ => SetT α) (@Bool.rec (fun _ => SetT α) ⟨fun t x => @Tr.rec α (fun _ => Tr α) (fun a b o => ⟨a, b, o.set (Nat.sub n 65792) x⟩) t⟩ (setB α (Nat.sub n 256)) (Nat.blt n 65792)) (setA α n) (Nat.blt n 256)
noncomputable def Tr.get {α : Type} (t : Tr α) (n : Nat) : Option α := frc n fun n => (getT α n).run t
noncomputable def Tr.set {α : Type} (t : Tr α) (n : Nat) (x : Option α) : Tr α := frc n fun n => (setT α n).run t x

theorem getA_run {α : Type} (n : Nat) (t : Tr α) : (getA α n).run t = (selN _ (n % 16)).run ((selN _ (n / 16)).run t.a) := by
  unfold getA
  rw [frc_eq, frc_eq]
  rfl
theorem getB_run {α : Type} (n : Nat) (t : Tr α) : (getB α n).run t = (selN _ (n % 16)).run ((selN _ (n / 16 % 16)).run ((selN _ (n / 256 % 16)).run ((selN _ (n / 4096)).run t.b))) := by
  unfold getB
  rw [frc_eq, frc_eq, frc_eq, frc_eq]
  rfl
theorem setA_run {α : Type} (n : Nat) (t : Tr α) (x : Option α) : (setA α n).run t x = ⟨(modN _ (n / 16)).run (fun s => (modN _ (n % 16)).run (fun _ => x) s) t.a, t.b, t.o⟩ := by
  unfold setA
  rw [frc_eq, frc_eq]
  rfl
theorem setB_run {α : Type} (n : Nat) (t : Tr α) (x : Option α) : (setB α n).run t x =
    ⟨t.a, (modN _ (n / 4096)).run (fun s => (modN _ (n / 256 % 16)).run (fun s => (modN _ (n / 16 % 16)).run (fun s => (modN _ (n % 16)).run (fun _ => x) s) s) s) t.b, t.o⟩ := by
  unfold setB
  rw [frc_eq, frc_eq, frc_eq, frc_eq]
  rfl
theorem nat_blt_dec (a b : Nat) : Nat.blt a b = decide (a < b) := by
  by_cases h : a < b
  · rw [decide_eq_true h, Nat.blt_eq]; exact h
  · rw [decide_eq_false h]; cases hh : Nat.blt a b with
    | false => rfl
    | true => rw [Nat.blt_eq] at hh; exact absurd hh h
theorem getT_run {α : Type} (n : Nat) (t : Tr α) : (getT α n).run t =
    if n < 256 then (selN _ (n % 16)).run ((selN _ (n / 16)).run t.a)
    else if n < 65792 then (selN _ ((n - 256) % 16)).run ((selN _ ((n - 256) / 16 % 16)).run ((selN _ ((n - 256) / 256 % 16)).run ((selN _ ((n - 256) / 4096)).run t.b)))
    else t.o.get (n - 65792) := by
  unfold getT
  rw [bool_rec_cond, bool_rec_cond, nat_blt_dec, nat_blt_dec]
  by_cases h : n < 256
  · simp only [h, decide_true, cond_true, if_true]; exact getA_run n t
  · by_cases h2 : n < 65792
    · simp only [h, h2, decide_true, decide_false, cond_true, cond_false, if_true, if_false]; exact getB_run (n - 256) t
    · simp only [h, h2, decide_false, cond_false, if_false]; rfl
theorem setT_run {α : Type} (n : Nat) (t : Tr α) (x : Option α) : (setT α n).run t x =
    if n < 256 then ⟨(modN _ (n / 16)).run (fun s => (modN _ (n % 16)).run (fun _ => x) s) t.a, t.b, t.o⟩
    else if n < 65792 then ⟨t.a, (modN _ ((n - 256) / 4096)).run (fun s => (modN _ ((n - 256) / 256 % 16)).run (fun s => (modN _ ((n - 256) / 16 % 16)).run (fun s => (modN _ ((n - 256) % 16)).run (fun _ => x) s) s) s) t.b, t.o⟩
    else ⟨t.a, t.b, t.o.set (n - 65792) x⟩ := by
  unfold setT
  rw [bool_rec_cond, bool_rec_cond, nat_blt_dec, nat_blt_dec]
  by_cases h : n < 256
  · simp only [h, decide_true, cond_true, if_true]; exact setA_run n t x
  · by_cases h2 : n < 65792
    · simp only [h, h2, decide_true, decide_false, cond_true, cond_false, if_true, if_false]; exact setB_run (n - 256) t x
    · simp only [h, h2, decide_false, cond_false, if_false]; rfl
theorem Tr.get_eq {α : Type} (t : Tr α) (n : Nat) : t.get n = (getT α n).run t := frc_eq n _
theorem Tr.set_eq {α : Type} (t : Tr α) (n : Nat) (x : Option α) : t.set n x = (setT α n).run t x := frc_eq n _

@[simp] theorem Tr.get_nil {α : Type} (n : Nat) : (Tr.nil : Tr α).get n = none := by
  rw [Tr.get_eq, getT_run]
  unfold Tr.nil
  simp only
  split
  · rw [sel_emp (by omega), sel_emp (by omega)]
  · split
    · rw [sel_emp (by omega), sel_emp (by omega), sel_emp (by omega), sel_emp (by omega)]
    · rfl

theorem Tr.get_set {α : Type} (t : Tr α) (n m : Nat) (x : Option α) : (t.set n x).get m = if m = n then x else t.get m := by
  rw [Tr.set_eq, Tr.get_eq, Tr.get_eq, getT_run, getT_run, setT_run]
  by_cases hm : m < 256
  · simp only [hm, if_true]
    by_cases hn : n < 256
    · simp only [hn, if_true]
      rw [sel_mod (by omega) (by omega)]
      by_cases h1 : m / 16 = n / 16
      · rw [if_pos h1, sel_mod (by omega) (by omega), h1]
        by_cases h2 : m % 16 = n % 16
        · rw [if_pos h2, if_pos (by omega)]
        · rw [if_neg h2, if_neg (fun e => h2 (by rw [e]))]
      · rw [if_neg h1, if_neg (fun e => h1 (by rw [e]))]
    · simp only [hn, if_false]
      by_cases h2 : n < 65792
      · simp only [h2, if_true]; rw [if_neg (by omega)]
      · simp only [h2, if_false]; rw [if_neg (by omega)]
  · simp only [hm, if_false]
    by_cases hm2 : m < 65792
    · simp only [hm2, if_true]
      by_cases hn : n < 256
      · simp only [hn, if_true]; rw [if_neg (by omega)]
      · simp only [hn, if_false]
        by_cases hn2 : n < 65792
        · simp only [hn2, if_true]
          rw [sel_mod (by omega) (by omega)]
          by_cases h1 : (m - 256) / 4096 = (n - 256) / 4096
          · rw [if_pos h1, h1, sel_mod (by omega) (by omega)]
            by_cases h2 : (m - 256) / 256 % 16 = (n - 256) / 256 % 16
            · rw [if_pos h2, h2, sel_mod (by omega) (by omega)]
              by_cases h3 : (m - 256) / 16 % 16 = (n - 256) / 16 % 16
              · rw [if_pos h3, h3, sel_mod (by omega) (by omega)]
                by_cases h4 : (m - 256) % 16 = (n - 256) % 16
                · rw [if_pos h4, if_pos (by omega)]
                · rw [if_neg h4, if_neg (fun e => h4 (by rw [e]))]
              · rw [if_neg h3, if_neg (fun e => h3 (by rw [e]))]
            · rw [if_neg h2, if_neg (fun e => h2 (by rw [e]))]
          · rw [if_neg h1, if_neg (fun e => h1 (by rw [e]))]
        · simp only [hn2, if_false]; rw [if_neg (by omega)]
    · simp only [hm2, if_false]
      by_cases hn : n < 256
      · simp only [hn, if_true]; rw [if_neg (by omega)]
      · simp only [hn, if_false]
        by_cases hn2 : n < 65792
        · simp only [hn2, if_true]; rw [if_neg (by omega)]
        · simp only [hn2, if_false]
          rw [Ot.get_set]
          by_cases h : m = n
          · rw [if_pos h, if_pos (by omega)]
          · rw [if_neg h, if_neg (by omega)]

/-! ### Values -/
inductive AV where
  | junk
  | bool (b : Bool)
  | int (k : IntKind) (n : Int)
  | str (s : List Nat)
  | nilptr
  | ptr (id off : Nat)
  | nilsl
  | sl (id off len sz : Nat) (cap : Option Nat)
  | nilmap
  | map (id : Nat)
  | func (fn : Fn) (first captured : List AV)
  | yld (id : Nat)
  | nilfunc
  | iface (t : TypeId) (v : AV)
  | nilif
  | agg (l : List AV)
  | tup (l : List AV)

abbrev Env := Tr AV

structure Pl where
  b : Nat
  o : Nat
  lim : Nat

abbrev Pm := Nat → Option Pl

def bytesOf (s : ByteArray) : List Nat := s.data.toList.map UInt8.toNat

def plainFn : Fn → Bool
  | .yield _ => false
  | _ => true

mutual
inductive VR (ρ : Pm) : AV → Value → Prop
  | junk (v : Value) : VR ρ .junk v
  | bool (b : Bool) : VR ρ (.bool b) (.bool b)
  | int (k : IntKind) (n : Int) : VR ρ (.int k n) (.int k n)
  | str (s : ByteArray) : VR ρ (.str (bytesOf s)) (.string s)
  | nilptr : VR ρ .nilptr (.pointer none)
  | ptr {id off : Nat} {p : Pl} (h : ρ id = some p) : VR ρ (.ptr id off) (.pointer (some ⟨p.b, p.o + off, none⟩))
  | nilsl : VR ρ .nilsl (.slice none 0 0)
  | sl {id off len sz : Nat} {c : Option Nat} {p : Pl} {a : Addr} {cap : Nat} (h : ρ id = some p) (hl : len ≤ cap) (ha : cap = 0 ∨ a = ⟨p.b, p.o + off, none⟩)
      (hx : cap = 0 ∨ p.o + off + cap * sz ≤ p.lim) (hc : ∀ n, c = some n → cap = n) : VR ρ (.sl id off len sz c) (.slice (some a) len cap)
  | nilmap : VR ρ .nilmap (.map none)
  | map {id : Nat} {p : Pl} (h : ρ id = some p) : VR ρ (.map id) (.map (some p.b))
  | func {fn : Fn} {l m : List AV} {first captured : Array Value} (hp : plainFn fn = true) (hl : VRs ρ l first.toList) (hm : VRs ρ m captured.toList) : VR ρ (.func fn l m) (.func fn first captured)
  | yld {id : Nat} {p : Pl} (h : ρ id = some p) : VR ρ (.yld id) (.func (.yield p.b) #[] #[])
  | nilfunc : VR ρ .nilfunc .nilFunc
  | iface {t : TypeId} {v : AV} {cv : Value} (h : VR ρ v cv) : VR ρ (.iface t v) (.iface t cv)
  | nilif : VR ρ .nilif .nilIface
  | agg {l : List AV} {cs : Array Value} (h : VRs ρ l cs.toList) : VR ρ (.agg l) (.agg cs)
  | tup {l : List AV} {cs : Array Value} (h : VRs ρ l cs.toList) : VR ρ (.tup l) (.tuple cs)
inductive VRs (ρ : Pm) : List AV → List Value → Prop
  | nil : VRs ρ [] []
  | cons {a : AV} {v : Value} {l : List AV} {m : List Value} (h : VR ρ a v) (t : VRs ρ l m) : VRs ρ (a :: l) (v :: m)
end

def Pm.le (ρ ρ' : Pm) : Prop := ∀ id p, ρ id = some p → ρ' id = some p
theorem Pm.le_refl (ρ : Pm) : ρ.le ρ := fun _ _ h => h
theorem Pm.le_trans {a b c : Pm} (h : a.le b) (k : b.le c) : a.le c := fun id p hp => k id p (h id p hp)

mutual
theorem VR.mono {ρ ρ' : Pm} (hle : ρ.le ρ') : ∀ {a : AV} {v : Value}, VR ρ a v → VR ρ' a v
  | _, _, .junk v => .junk v
  | _, _, .bool b => .bool b
  | _, _, .int k n => .int k n
  | _, _, .str s => .str s
  | _, _, .nilptr => .nilptr
  | _, _, .ptr h => .ptr (hle _ _ h)
  | _, _, .nilsl => .nilsl
  | _, _, .sl h hl ha hx hc => .sl (hle _ _ h) hl ha hx hc
  | _, _, .nilmap => .nilmap
  | _, _, .map h => .map (hle _ _ h)
  | _, _, .func hp hl hm => .func hp (hl.mono hle) (hm.mono hle)
  | _, _, .yld h => .yld (hle _ _ h)
  | _, _, .nilfunc => .nilfunc
  | _, _, .iface h => .iface (h.mono hle)
  | _, _, .nilif => .nilif
  | _, _, .agg h => .agg (h.mono hle)
  | _, _, .tup h => .tup (h.mono hle)
theorem VRs.mono {ρ ρ' : Pm} (hle : ρ.le ρ') : ∀ {l : List AV} {m : List Value}, VRs ρ l m → VRs ρ' l m
  | _, _, .nil => .nil
  | _, _, .cons h t => .cons (h.mono hle) (t.mono hle)
end

theorem VRs.length {ρ : Pm} {l : List AV} {m : List Value} (h : VRs ρ l m) : l.length = m.length := by
  induction l generalizing m with
  | nil => cases h; rfl
  | cons a l ih => cases h with | cons h t => simp [ih t]

theorem VRs.get {ρ : Pm} {l : List AV} {m : List Value} (h : VRs ρ l m) {i : Nat} {a : AV} (hi : l[i]? = some a) : ∃ v, m[i]? = some v ∧ VR ρ a v := by
  induction l generalizing m i with
  | nil => simp at hi
  | cons x l ih =>
    cases h with
    | cons h t =>
      cases i with
      | zero => simp at hi; subst hi; exact ⟨_, rfl, h⟩
      | succ i => simpa using ih t (by simpa using hi)

theorem VRs.append {ρ : Pm} {l l' : List AV} {m m' : List Value} (h : VRs ρ l m) (h' : VRs ρ l' m') : VRs ρ (l ++ l') (m ++ m') := by
  induction l generalizing m with
  | nil => cases h; exact h'
  | cons a l ih => cases h with | cons h t => exact .cons h (ih t)

theorem VRs.of_get {ρ : Pm} : ∀ {l : List AV} {m : List Value}, l.length = m.length → (∀ (i : Nat) (a : AV) (v : Value), l[i]? = some a → m[i]? = some v → VR ρ a v) → VRs ρ l m
  | [], [], _, _ => .nil
  | [], _ :: _, h, _ => by simp at h
  | _ :: _, [], h, _ => by simp at h
  | a :: l, v :: m, h, hg => .cons (hg 0 a v rfl rfl) (VRs.of_get (by simpa using h) fun i a' v' h1 h2 => hg (i + 1) a' v' (by simpa using h1) (by simpa using h2))

theorem VRs.take {ρ : Pm} {l : List AV} {m : List Value} (h : VRs ρ l m) (n : Nat) : VRs ρ (l.take n) (m.take n) := by
  induction n generalizing l m with
  | zero => simp; exact .nil
  | succ n ih => cases h with
    | nil => simp; exact .nil
    | cons h t => simp only [List.take_succ_cons]; exact .cons h (ih t)

theorem VRs.drop {ρ : Pm} {l : List AV} {m : List Value} (h : VRs ρ l m) (n : Nat) : VRs ρ (l.drop n) (m.drop n) := by
  induction n generalizing l m with
  | zero => simpa using h
  | succ n ih => cases h with
    | nil => simp; exact .nil
    | cons h t => simpa using ih t

theorem VRs.set {ρ : Pm} {l : List AV} {m : List Value} (h : VRs ρ l m) (i : Nat) {a : AV} {v : Value} (hv : VR ρ a v) : VRs ρ (l.set i a) (m.set i v) := by
  induction l generalizing m i with
  | nil => cases h; simp; exact .nil
  | cons x l ih => cases h with
    | cons h t => cases i with
      | zero => exact .cons hv t
      | succ i => exact .cons h (ih t i)

/-! ### Objects and heaps -/
inductive AO where
  /-- a row of cells; own: it may be written; text: its end may be marked by a conversion between strings and bytes -/
  | cells (cs : List AV) (own text : Bool)
  /-- a map: its entries, when each came, how many came -/
  | map (es : List (AV × AV)) (bs : List Nat) (ck : Nat)
  /-- a walk over a map: the map, when it began, the entries it met, when it met the last -/
  | mit (m : Option Nat) (since : Nat) (seen : List Nat) (last : Nat)
  | loop (st : LoopState) (pend : Option Code) (fn : FuncId) (t : Env) (n : Nat) (params : Array Tmp) (assign body : Code) (defers : Nat)
  | defs (open_ : Bool)
  | sit (s : List Nat) (pos : Nat)

def AO.own : AO → Bool
  | .cells _ o _ => o
  | _ => true

structure AH where
  tr : Tr AO
  nx : Nat

noncomputable def AH.get (h : AH) (id : Nat) : Option AO := h.tr.get id
noncomputable def AH.put (h : AH) (id : Nat) (o : AO) : AH := { h with tr := h.tr.set id (some o) }
noncomputable def AH.del (h : AH) (id : Nat) : AH := { h with tr := h.tr.set id none }
noncomputable def AH.new (h : AH) (o : AO) : AH := { tr := h.tr.set h.nx (some o), nx := h.nx + 1 }

theorem AH.get_put (h : AH) (id : Nat) (o : AO) (j : Nat) : (h.put id o).get j = if j = id then some o else h.get j := Tr.get_set _ _ _ _
theorem AH.get_del (h : AH) (id j : Nat) : (h.del id).get j = if j = id then none else h.get j := Tr.get_set _ _ _ _
theorem AH.get_new (h : AH) (o : AO) (j : Nat) : (h.new o).get j = if j = h.nx then some o else h.get j := Tr.get_set _ _ _ _
@[simp] theorem AH.nx_put (h : AH) (id : Nat) (o : AO) : (h.put id o).nx = h.nx := rfl
@[simp] theorem AH.nx_del (h : AH) (id : Nat) : (h.del id).nx = h.nx := rfl
@[simp] theorem AH.nx_new (h : AH) (o : AO) : (h.new o).nx = h.nx + 1 := rfl

structure Ext (n : Nat) (ρ : Pm) (n' : Nat) (ρ' : Pm) : Prop where
  le : ρ.le ρ'
  nx : n ≤ n'
  old : ∀ id, id < n → ρ' id = ρ id
theorem Ext.refl (n : Nat) (ρ : Pm) : Ext n ρ n ρ := ⟨Pm.le_refl ρ, Nat.le_refl n, fun _ _ => rfl⟩
theorem Ext.trans {n n1 n2 : Nat} {a b c : Pm} (h : Ext n a n1 b) (k : Ext n1 b n2 c) : Ext n a n2 c :=
  ⟨Pm.le_trans h.le k.le, Nat.le_trans h.nx k.nx, fun id hid => (k.old id (Nat.lt_of_lt_of_le hid h.nx)).trans (h.old id hid)⟩

def ER (ρ : Pm) (t : Env) (n : Nat) (tmps : Array Value) : Prop :=
  tmps.size = n ∧ ∀ i a, t.get i = some a → ∃ v, tmps[i]? = some v ∧ VR ρ a v

theorem ER.mono {ρ ρ' : Pm} (hle : ρ.le ρ') {t : Env} {n : Nat} {tmps : Array Value} (h : ER ρ t n tmps) : ER ρ' t n tmps :=
  ⟨h.1, fun i a hi => let ⟨v, hv, r⟩ := h.2 i a hi; ⟨v, hv, r.mono hle⟩⟩

theorem ER.set {ρ : Pm} {t : Env} {n : Nat} {tmps : Array Value} (h : ER ρ t n tmps) {d : Nat} (hd : d < n) {a : AV} {v : Value} (hv : VR ρ a v) :
    ER ρ (t.set d (some a)) n (tmps.setIfInBounds d v) := by
  refine ⟨by simp [h.1], fun i b hi => ?_⟩
  rw [Tr.get_set] at hi
  by_cases e : i = d
  · subst e
    simp at hi; subst hi
    exact ⟨v, by simp [h.1, hd], hv⟩
  · rw [if_neg e] at hi
    obtain ⟨u, hu, r⟩ := h.2 i b hi
    exact ⟨u, by rw [Array.getElem?_setIfInBounds_ne (Ne.symm e)]; exact hu, r⟩

def MR (ρ : Pm) : List (AV × AV) → List MapEntry → Prop
  | [], [] => True
  | (k, v) :: l, e :: m => VR ρ k e.key ∧ VR ρ v e.val ∧ MR ρ l m
  | _, _ => False

theorem MR.mono {ρ ρ' : Pm} (hle : ρ.le ρ') : ∀ {l : List (AV × AV)} {m : List MapEntry}, MR ρ l m → MR ρ' l m
  | [], [], _ => trivial
  | (_, _) :: _, _ :: _, ⟨h1, h2, h3⟩ => ⟨h1.mono hle, h2.mono hle, MR.mono hle h3⟩
  | [], _ :: _, h => h.elim
  | (_, _) :: _, [], h => h.elim

def FrOk (fr : Nat × Nat) (n : Nat) : Prop := fr = (0, 0) ∨ fr = (n, n + 1)
theorem FrOk.not {fr : Nat × Nat} {n : Nat} (h : FrOk fr n) : ∀ i, i < n → ¬ (fr.1 ≤ i ∧ i < fr.2) := by
  rcases h with rfl | rfl
  · intro i _ hh; exact absurd hh.2 (Nat.not_lt_zero i)
  · intro i hi hh; exact absurd hh.1 (Nat.not_le.2 hi)

def OR (ρ : Pm) (p : Pl) : AO → Option Obj → Prop
  | .cells cs own text, x => ∃ c e fr, x = some (.cells c e fr) ∧ (if own then c.size = p.lim else p.lim ≤ c.size) ∧ p.o + cs.length ≤ p.lim ∧
      (∀ i a, cs[i]? = some a → ∃ v, c[p.o + i]? = some v ∧ VR ρ a v) ∧ (own = true → FrOk fr c.size) ∧ (own = true → text = false → fr = (0, 0) ∧ 0 < c.size ∧ p.o = 0)
  | .map es bs ck, x => ∃ ces, x = some (.map ces ck) ∧ MR ρ es ces.toList ∧ bs = ces.toList.map (·.born) ∧ MapKept.Stamped ces ck
  | .mit none since seen last, x => p.o = 0 ∧ x = some (.mapIter none since seen.toArray last)
  | .mit (some m) since seen last, x => p.o = 0 ∧ ∃ q, ρ m = some q ∧ x = some (.mapIter (some q.b) since seen.toArray last)
  | .loop st pend _ t n params assign body d, x => ∃ tmps pd fn, x = some (.loop { state := st, pending := pend, fn, tmps, params, assign, body, defers := pd }) ∧ ER ρ t n tmps ∧ ∃ q, ρ d = some q ∧ q.b = pd
  | .defs o, x => x = some (.deferred (if o then some [] else none))
  | .sit s pos, x => p.o = 0 ∧ ∃ bs, x = some (.stringIter bs pos) ∧ bytesOf bs = s

theorem OR.mono {ρ ρ' : Pm} (hle : ρ.le ρ') {p : Pl} {o : AO} {x : Option Obj} (h : OR ρ p o x) : OR ρ' p o x := by
  cases o with
  | cells cs own text =>
    obtain ⟨c, e, fr, h1, h2, h3, h4, h5⟩ := h
    exact ⟨c, e, fr, h1, h2, h3, fun i a hi => let ⟨v, hv, r⟩ := h4 i a hi; ⟨v, hv, r.mono hle⟩, h5⟩
  | map es bs ck => obtain ⟨ces, h1, h2, h3, h4⟩ := h; exact ⟨ces, h1, h2.mono hle, h3, h4⟩
  | mit m since seen last => cases m with
    | none => exact h
    | some m => obtain ⟨h0, q, h1, h2⟩ := h; exact ⟨h0, q, hle _ _ h1, h2⟩
  | loop st pend fn t n params assign body d =>
    obtain ⟨tmps, pd, fn, h1, h2, q, h3, h4⟩ := h
    exact ⟨tmps, pd, fn, h1, h2.mono hle, q, hle _ _ h3, h4⟩
  | defs o => exact h
  | sit s pos => exact h

theorem or_none {ρ : Pm} {p : Pl} {o : AO} (h : OR ρ p o none) : False := by
  cases o with
  | cells cs own text => obtain ⟨c, e, fr, h1, _⟩ := h; cases h1
  | map es bs ck => obtain ⟨c, h1, _⟩ := h; cases h1
  | mit m since seen last => cases m with
    | none => obtain ⟨_, h1⟩ := h; cases h1
    | some m => obtain ⟨_, q, _, h1⟩ := h; cases h1
  | loop st pend fn t n params assign body d => obtain ⟨c, e, f, h1, _⟩ := h; cases h1
  | defs o => exact absurd (show none = some _ from h) (by simp)
  | sit s pos => obtain ⟨_, c, h1, _⟩ := h; cases h1

structure Kp where
  os : Os
  tape : Nat → Question → Nat
  output : Array (Nat × ByteArray)
  size : Nat
  at_ : Nat → Option Obj
  /-- where what nobody may write lies -/
  ro : Nat → Bool
  roAt : ∀ b, ro b = true → (at_ b).isSome = true

structure Rel (K : Kp) (ρ : Pm) (h : AH) (w : World) : Prop where
  os : w.os = K.os
  tape : w.tape = K.tape
  output : w.output = K.output
  size : K.size ≤ w.heap.size
  keep : ∀ b o, K.at_ b = some o → w.heap[b]? = some o
  fresh : ∀ id, h.nx ≤ id → ρ id = none
  obj : ∀ id o, h.get id = some o → ∃ p, ρ id = some p ∧ OR ρ p o w.heap[p.b]? ∧ (o.own = true → K.at_ p.b = none ∧ K.size ≤ p.b) ∧ (o.own = false → K.ro p.b = true)
  inj : ∀ i j oi oj pi pj, h.get i = some oi → h.get j = some oj → oi.own = true → oj.own = true → ρ i = some pi → ρ j = some pj → pi.b = pj.b → i = j

end Go.Abs
end

section
namespace Go.Abs
open Go
noncomputable section

/-! ### Constants -/
def toAV0 : Value → AV
  | .bool b => .bool b
  | .int k n => .int k n
  | .string s => .str (bytesOf s)
  | .pointer none => .nilptr
  | .slice none 0 0 => .nilsl
  | .map none => .nilmap
  | .nilFunc => .nilfunc
  | .nilIface => .nilif
  | _ => .junk
def toAV : Value → AV
  | .agg cs => .agg (cs.toList.map toAV0)
  | v => toAV0 v

def opnd (t : Env) : Operand → AV
  | .tmp i => (t.get i).getD .junk
  | .const v => toAV v
  | .global _ => .junk
  | .func f => .func (.func f) [] []

def oneA : AV → Bool
  | .junk | .agg _ | .tup _ => false
  | _ => true

def cellsA : AV → Option (List AV)
  | .junk => none
  | .agg l => some l
  | v => some [v]

def tsize (P : Program) (t : TypeId) : Option Nat := (P.info? t).map (·.size)
def tzero (P : Program) (t : TypeId) : Option Value := (P.info? t).bind (·.zero)
def aggT : TypeDesc → Bool
  | .struct _ | .array _ _ => true
  | _ => false

def partA (P : Program) (t : TypeId) (cs : List AV) (off : Nat) : Option AV := do
  let d ← P.underlying t
  if aggT d then do
    let n ← tsize P t
    if off + n ≤ cs.length then some (.agg ((cs.drop off).take n)) else none
  else cs[off]?

def putCells (cs : List AV) (off : Nat) (vs : List AV) : List AV := cs.take off ++ vs ++ cs.drop (off + vs.length)

def fillA (place : Nat → Option (Nat × Nat)) (cells : List AV) : List (Nat × AV) → Option (List AV)
  | [] => some cells
  | (i, v) :: rest => do
    let (off, size) ← place i
    let vs ← cellsA v
    if vs.length = size && off + size ≤ cells.length then fillA place (putCells cells off vs) rest else none

/-! ### Operators -/
def lessA : List Nat → List Nat → Bool
  | _, [] => false
  | [], _ :: _ => true
  | a :: x, b :: y => Nat.blt a b || (Nat.beq a b && lessA x y)
def eqL : List Nat → List Nat → Bool
  | [], [] => true
  | a :: x, b :: y => Nat.beq a b && eqL x y
  | _, _ => false

def intA (op : BinOp) (k : IntKind) (x y : Int) : Option AV :=
  match op with
  | .add => some (.int k (k.wrap (x + y)))
  | .sub => some (.int k (k.wrap (x - y)))
  | .mul => some (.int k (k.wrap (x * y)))
  | .quo => if y = 0 then none else some (.int k (k.wrap (x.tdiv y)))
  | .rem => if y = 0 then none else some (.int k (x.tmod y))
  | .and => some (.int k (k.wrap (BitVec.ofInt k.bits x &&& BitVec.ofInt k.bits y).toNat))
  | .or => some (.int k (k.wrap (BitVec.ofInt k.bits x ||| BitVec.ofInt k.bits y).toNat))
  | .xor => some (.int k (k.wrap (BitVec.ofInt k.bits x ^^^ BitVec.ofInt k.bits y).toNat))
  | .andNot => some (.int k (k.wrap (BitVec.ofInt k.bits x &&& ~~~ BitVec.ofInt k.bits y).toNat))
  | .eql => some (.bool (x == y))
  | .neq => some (.bool (x != y))
  | .lss => some (.bool (x < y))
  | .leq => some (.bool (x ≤ y))
  | .gtr => some (.bool (x > y))
  | .geq => some (.bool (x ≥ y))
  | _ => none

def shiftA (op : BinOp) (k : IntKind) (x y : Int) : Option AV :=
  if y < 0 then none else
  match op with
  | .shl => some (.int k (k.wrap (x * 2 ^ (min y.toNat k.bits))))
  | .shr => some (.int k (x.fdiv (2 ^ (min y.toNat k.bits))))
  | _ => none

def strA (op : BinOp) (x y : List Nat) : Option AV :=
  match op with
  | .add => if ((x.length + y.length : Nat) : Int) > IntKind.i64.max then none else some (.str (x ++ y))
  | .eql => some (.bool (eqL x y))
  | .neq => some (.bool !(eqL x y))
  | .lss => some (.bool (lessA x y))
  | .leq => some (.bool (lessA x y || eqL x y))
  | .gtr => some (.bool !(lessA x y || eqL x y))
  | .geq => some (.bool !(lessA x y))
  | _ => none

def plainBlock (h : AH) (id : Nat) : Bool :=
  match h.get id with
  | some (.cells _ true false) => true
  | _ => false

def eqFs (P : Program) (eq : TypeId → AV → AV → Option Bool) (xs ys : List AV) : List Field → Option Bool
  | [] => some true
  | f :: r =>
    if f.name = "_" then eqFs P eq xs ys r else do
      let a ← partA P f.type xs f.offset
      let b ← partA P f.type ys f.offset
      let e ← eq f.type a b
      if e then eqFs P eq xs ys r else some false
def eqEs (P : Program) (eq : TypeId → AV → AV → Option Bool) (t : TypeId) (sz : Nat) (xs ys : List AV) : Nat → Nat → Option Bool
  | 0, _ => some true
  | n + 1, i => do
      let a ← partA P t xs (i * sz)
      let b ← partA P t ys (i * sz)
      let e ← eq t a b
      if e then eqEs P eq t sz xs ys n (i + 1) else some false
def eqA (P : Program) (h : AH) : Nat → TypeId → AV → AV → Option Bool
  | 0, _, _, _ => none
  | d + 1, t, x, y =>
    match P.underlying t, x, y with
    | some .bool, .bool a, .bool b => some (a == b)
    | some (.int _), .int k a, .int k' b => if k = k' then some (a == b) else none
    | some .string, .str a, .str b => some (eqL a b)
    | some (.pointer _), .nilptr, .nilptr => some true
    | some (.pointer _), .nilptr, .ptr _ _ => some false
    | some (.pointer _), .ptr _ _, .nilptr => some false
    | some (.pointer e), .ptr i a, .ptr j b =>
      if (P.info? e).isNone || tsize P e == some 0 then none
      else if i = j then some (Nat.beq a b)
      else if plainBlock h i && plainBlock h j then some false else none
    | some (.slice _), .nilsl, .nilsl => some true
    | some (.slice _), .nilsl, .sl _ _ _ _ _ => some false
    | some (.slice _), .sl _ _ _ _ _, .nilsl => some false
    | some (.map _ _), .nilmap, .nilmap => some true
    | some (.map _ _), .nilmap, .map _ => some false
    | some (.map _ _), .map _, .nilmap => some false
    | some (.func _ _ _), .nilfunc, .nilfunc => some true
    | some (.func _ _ _), .nilfunc, .func _ _ _ => some false
    | some (.func _ _ _), .func _ _ _, .nilfunc => some false
    | some (.struct fs), .agg xs, .agg ys => if P.stoodInHeld t then none else eqFs P (eqA P h d) xs ys fs.toList
    | some (.array n e), .agg xs, .agg ys => do
      let sz ← tsize P e
      eqEs P (eqA P h d) e sz xs ys n 0
    | _, _, _ => none

def isNilif : AV → Bool
  | .nilif => true
  | _ => false

def eqOk (P : Program) (t : TypeId) : AV → AV → Bool
  | .nilif, .nilif => false
  | .junk, _ | _, .junk => false
  | .agg _, .agg _ => !(P.eqGuardType P.depth t)
  | _, _ => true

def binA (P : Program) (h : AH) (op : BinOp) (t : TypeId) (x y : AV) : Option AV :=
  match op, x, y with
  | .shl, .int k a, .int _ b => shiftA .shl k a b
  | .shr, .int k a, .int _ b => shiftA .shr k a b
  | op, .int k a, .int k' b => if k = k' then intA op k a b else none
  | op, .str a, .str b => strA op a b
  | .eql, x, y => if eqOk P t x y then (eqA P h 12 t x y).map fun e => .bool e else none
  | .neq, x, y => if eqOk P t x y then (eqA P h 12 t x y).map fun e => .bool !e else none
  | _, _, _ => none

def unA (op : UnOp) (x : AV) : Option AV :=
  match op, x with
  | .neg, .int k n => some (.int k (k.wrap (0 - n)))
  | .xor, .int k n => some (.int k (k.wrap (BitVec.ofInt k.bits (if k.signed then -1 else k.max) ^^^ BitVec.ofInt k.bits n).toNat))
  | .not, .bool b => some (.bool !b)
  | _, _ => none

/-! ### Reading slices -/
def bytesA : List AV → Option (List Nat)
  | [] => some []
  | .int .u8 n :: r => match n with
    | .ofNat m => if m < 256 then (bytesA r).map (m :: ·) else none
    | _ => none
  | _ :: _ => none

def cellsAt (h : AH) (id off n : Nat) : Option (List AV) :=
  match h.get id with
  | some (.cells cs _ _) => if off + n ≤ cs.length then some ((cs.drop off).take n) else none
  | _ => none

def firstA (h : AH) (size n : Nat) : AV → Option (List AV)
  | .nilsl => if n = 0 then some [] else none
  | .sl id off len sz _ => if sz = size && n ≤ len then cellsAt h id off (n * size) else none
  | .str s => if size = 1 then some ((s.take n).map fun (b : Nat) => AV.int .u8 b) else none
  | _ => none
def lenA : AV → Option Nat
  | .nilsl => some 0
  | .sl _ _ len _ _ => some len
  | .str s => some s.length
  | _ => none

def ownBlock (h : AH) (id : Nat) : Bool :=
  match h.get id with
  | some (.cells _ true _) => true
  | _ => false
def textBlock (h : AH) (id : Nat) : Bool :=
  match h.get id with
  | some (.cells _ _ t) => t
  | _ => false

/-! ### Maps -/
def scalarA : AV → Bool
  | .bool _ | .int _ _ | .str _ => true
  | _ => false
def simpleA : AV → Bool
  | .agg l => l.all scalarA
  | a => scalarA a
def sameScalar : AV → AV → Bool
  | .bool a, .bool b => a == b
  | .int j a, .int k b => j == k && a == b
  | .str a, .str b => eqL a b
  | _, _ => false
def sameList : List AV → List AV → Bool
  | [], [] => true
  | a :: l, b :: m => sameScalar a b && sameList l m
  | _, _ => false
def diffScalar : AV → AV → Bool
  | .bool a, .bool b => !(a == b)
  | .int j a, .int k b => !(j == k && a == b)
  | .str a, .str b => !eqL a b
  | _, _ => false
def diffList : List AV → List AV → Bool
  | a :: l, b :: m => diffScalar a b || diffList l m
  | _, _ => false
def diffSimple : AV → AV → Bool
  | .agg l, .agg m => diffList l m
  | a, b => diffScalar a b
def diffAll (k : AV) : List (AV × AV) → Bool
  | [] => true
  | e :: l => diffSimple e.1 k && diffAll k l
def sameSimple : AV → AV → Bool
  | .agg l, .agg m => sameList l m
  | a, b => sameScalar a b

def checkFs (P : Program) (ck : TypeId → AV → Bool) (cs : List AV) : List Field → Bool
  | [] => true
  | f :: r => if f.name = "_" then checkFs P ck cs r else
    match partA P f.type cs f.offset with
    | some a => ck f.type a && checkFs P ck cs r
    | none => false
def checkEs (P : Program) (ck : TypeId → AV → Bool) (t : TypeId) (sz : Nat) (cs : List AV) : Nat → Nat → Bool
  | 0, _ => true
  | n + 1, i =>
    match partA P t cs (i * sz) with
    | some a => ck t a && checkEs P ck t sz cs n (i + 1)
    | none => false
def checkA (P : Program) : Nat → TypeId → AV → Bool
  | 0, _, _ => false
  | d + 1, t, x =>
    match P.underlying t, x with
    | some (.array n e), .agg cs => match tsize P e with
      | some sz => checkEs P (checkA P d) e sz cs n 0
      | none => false
    | some (.struct fs), .agg cs => checkFs P (checkA P d) cs fs.toList
    | some .bool, .bool _ => true
    | some (.int _), .int _ _ => true
    | some .string, .str _ => true
    | _, _ => false

def findA (P : Program) (h : AH) (t : TypeId) (k : AV) : List (AV × AV) → Nat → Option (Option (Nat × AV × AV))
  | [], _ => some none
  | (k', v) :: r, i => do
    let e ← eqA P h 12 t k k'
    if e then some (some (i, k', v)) else findA P h t k r (i + 1)

/-! ### Operations -/
inductive ORes where
  | val (v : AV) (h : AH)
  | skip (h : AH)
  | call (f : FuncId) (args : List AV)
  | yield (id : Nat) (args : List AV)

def val? (h : AH) : Option AV → Option ORes
  | some v => some (.val v h)
  | none => none

def newCells (h : AH) (cs : List AV) (text : Bool) (mk : Nat → AV) : Option ORes :=
  some (.val (mk h.nx) (h.new (.cells cs true text)))

def evLoad (P : Program) (h : AH) (t : TypeId) (x : AV) : Option AV :=
  match x with
  | .ptr id off =>
    match h.get id, P.underlying t with
    | some (.cells cs _ _), some d =>
      if aggT d then
        match tsize P t with
        | some n => if off + n ≤ cs.length then some (.agg ((cs.drop off).take n)) else none
        | none => none
      else cs[off]?
    | _, _ => none
  | _ => none

def evStore (P : Program) (h : AH) (t : TypeId) (x v : AV) : Option AH :=
  match x, cellsA v with
  | .ptr id off, some vs =>
    match h.get id with
    | some (.cells cs true text) =>
      if tsize P t == some vs.length && off + vs.length ≤ cs.length && vs.all oneA then some (h.put id (.cells (putCells cs off vs) true text)) else none
    | _ => none
  | _, _ => none

def below (i : Int) (n : Nat) : Option Nat :=
  match i with
  | .ofNat m => if m < n then some m else none
  | _ => none
def upTo (i : Int) (n : Nat) : Option Nat :=
  match i with
  | .ofNat m => if m ≤ n then some m else none
  | _ => none

def boundA (n : Nat) : AV → Option Nat
  | .int _ i => upTo i n
  | _ => none

def boundsA (len : Nat) (cap : Option Nat) (low high max : Option AV) : Option (Nat × Nat × Option Nat) := do
  let top := cap.getD len
  let m ← match max with
    | some v => (boundA top v).map some
    | none => some cap
  let hi ← match high, max with
    | some v, some _ => boundA (m.getD 0) v
    | some v, none => boundA top v
    | none, none => some len
    | none, some _ => none
  let lo ← match low with
    | some v => boundA hi v
    | none => some 0
  some (lo, hi, m.map (· - lo))

def fitsA (h : AH) (id off n : Nat) : Bool :=
  match h.get id with
  | some (.cells cs _ _) => off + n ≤ cs.length
  | _ => false

def evSlice (P : Program) (h : AH) (t : TypeId) (x : AV) (low high max : Option AV) : Option AV := do
  match P.underlying t, x with
  | some .string, .str s =>
    if max.isSome then none else do
      let (l, hi, _) ← boundsA s.length (some s.length) low high none
      some (.str ((s.drop l).take (hi - l)))
  | some (.slice e), .nilsl => do
      let (l, hi, _) ← boundsA 0 (some 0) low high max
      if l = 0 && hi = 0 && (tsize P e).isSome then some .nilsl else none
  | some (.slice e), .sl id off len sz cap => do
      let n ← tsize P e
      if n = sz then do
        let (l, hi, c) ← boundsA len cap low high max
        some (.sl id (off + l * sz) (hi - l) sz c)
      else none
  | some (.array n e), .ptr id off => do
      let sz ← tsize P e
      let (l, hi, c) ← boundsA n (some n) low high max
      if fitsA h id off (n * sz) then some (.sl id (off + l * sz) (hi - l) sz c) else none
  | _, _ => none

def evIndexAddr (P : Program) (t : TypeId) (x i : AV) : Option AV := do
  match P.underlying t, x, i with
  | some (.array n e), .ptr id off, .int _ i => do
      let sz ← tsize P e
      let k ← below i n
      some (.ptr id (off + k * sz))
  | some (.slice e), .sl id off len sz _, .int _ i => do
      let n ← tsize P e
      let k ← below i len
      if n = sz then some (.ptr id (off + k * sz)) else none
  | _, _, _ => none

def evIndex (P : Program) (t : TypeId) (x i : AV) : Option AV := do
  match P.underlying t, x, i with
  | some (.array n e), .agg cs, .int _ i => do
      let sz ← tsize P e
      let k ← below i n
      partA P e cs (k * sz)
  | some .string, .str s, .int _ i => do
      let k ← below i s.length
      let b ← s[k]?
      some (.int .u8 b)
  | _, _, _ => none

def fieldsA (P : Program) (fs : List Field) : Option (List (Nat × Nat)) :=
  fs.mapM fun f => (tsize P f.type).map fun n => (f.offset, n)

def evBuild (P : Program) (t : TypeId) (parts : List (Nat × AV)) : Option AV := do
  let z ← tzero P t
  let zc ← cellsA (toAV z)
  match P.underlying t with
  | some (.struct fs) => do
      let places ← fieldsA P fs.toList
      let cells ← fillA (places[·]?) zc parts
      some (.agg cells)
  | some (.array _ e) => do
      let sz ← tsize P e
      let cells ← fillA (fun i => some (i * sz, sz)) zc parts
      some (.agg cells)
  | _ => none

def repCells (zc : List AV) : Nat → List AV
  | 0 => []
  | n + 1 => zc ++ repCells zc n

def bsA (P : Program) (t : TypeId) (len : Nat) (parts : List (Nat × AV)) : Option (AO × (Nat → AV)) := do
  match P.underlying t with
  | some (.slice e) => do
      let sz ← tsize P e
      if len * sz > 2 ^ 24 then none else do
        let z ← tzero P e
        let zc ← cellsA (toAV z)
        if zc.length = sz then do
          let cells ← fillA (fun i => some (i * sz, sz)) (repCells zc len) parts
          some (.cells cells true (len * sz == 0), fun id => .sl id 0 len sz (some len))
        else none
  | _ => none

def msA (P : Program) (t : TypeId) (l c : AV) : Option (AO × (Nat → AV)) := do
  match P.underlying t, l, c with
  | some (.slice e), .int _ (.ofNat l), .int _ (.ofNat c) => do
      let i ← P.info? e
      let z ← i.zero
      let zc ← cellsA (toAV z)
      if l ≤ c && i.bytes * c ≤ 2 ^ 40 && c ≤ 2 ^ 40 && zc.length = i.size then
        some (.cells (repCells zc c) true (c * i.size == 0), fun id => .sl id 0 l i.size (some c))
      else none
  | _, _, _ => none

def allocA (P : Program) (E : Operand → AV) : Op → Option (AO × (Nat → AV))
  | .alloc e => do
      let z ← tzero P e
      let cs ← cellsA (toAV z)
      some (.cells cs true cs.isEmpty, fun id => .ptr id 0)
  | .box _ x => do
      let cs ← cellsA (E x)
      some (.cells cs true cs.isEmpty, fun id => .ptr id 0)
  | .buildSlice t len parts => bsA P t len (parts.toList.map fun (i, x) => (i, E x))
  | .makeSlice t l c => msA P t (E l) (E c)
  | .makeMap t r => match P.underlying t, r.map E with
    | _, none => some (.map [] [] 0, .map)
    | some (.map _ _), some (.int _ _) => some (.map [] [] 0, .map)
    | _, _ => none
  | _ => none

def allocated (h : AH) : Option (AO × (Nat → AV)) → Option ORes
  | some (ob, mk) => some (.val (mk h.nx) (h.new ob))
  | none => none

def appendedA (P : Program) (h : AH) (i : TypeInfo) (zc : List AV) (xt : TypeId) (x : AV) : Option (Nat × List AV) := do
  let dx ← P.underlying xt
  match dx, x with
  | .int _, .int _ (.ofNat n) => if n ≤ 2 ^ 40 && n * i.bytes ≤ 2 ^ 40 then some (n, repCells zc n) else none
  | .int _, _ => none
  | _, _ => do
    let n ← lenA x
    let new ← firstA h i.size n x
    some (n, new)

def evAppend (P : Program) (h : AH) (argTypes : Array TypeId) (s x : AV) : Option ORes := do
  let st ← argTypes[0]?
  let xt ← argTypes[1]?
  match P.underlying st with
  | some (.slice e) => do
      let i ← P.info? e
      let z ← i.zero
      let zc ← cellsA (toAV z)
      if zc.length != i.size || i.size = 0 then none else do
      let (n, new) ← appendedA P h i zc xt x
      let len ← lenA s
      let old ← firstA h i.size len s
      if n = 0 then (match s with | .str _ => none | _ => some (.val s h)) else
      if !(new.all oneA) then none else
      if (2 * (len + n) + 1000) * i.bytes > 2 ^ 40 || len + n > 2 ^ 40 then none else
      match s with
      | .nilsl => newCells h new false fun id => .sl id 0 n i.size none
      | .sl id off _ _ (some c) =>
        if c < len + n then newCells h (old ++ new) false fun id => .sl id 0 (len + n) i.size none
        else if ownBlock h id then newCells (h.del id) (old ++ new) (textBlock h id || !(Nat.beq off 0)) fun id => .sl id 0 (len + n) i.size none else none
      | .sl id off _ _ none =>
        if ownBlock h id then newCells (h.del id) (old ++ new) (textBlock h id || !(Nat.beq off 0)) fun id => .sl id 0 (len + n) i.size none else none
      | _ => none
  | _ => none

def evCopy (P : Program) (h : AH) (argTypes : Array TypeId) (d s : AV) : Option ORes := do
  let dt ← argTypes[0]?
  match P.underlying dt with
  | some (.slice e) => do
      let sz ← tsize P e
      let n ← lenA s
      let m ← lenA d
      let k := Nat.min n m
      let new ← firstA h sz k s
      match d with
      | .nilsl => some (.val (.int .i64 k) h)
      | .sl id off _ dsz _ =>
        match h.get id with
        | some (.cells cs true text) =>
          if dsz = sz && off + new.length ≤ cs.length && new.all oneA then some (.val (.int .i64 k) (h.put id (.cells (putCells cs off new) true text))) else none
        | _ => none
      | _ => none
  | _ => none

def evLen (P : Program) (h : AH) (argTypes : Array TypeId) (x : AV) : Option AV := do
  let t ← argTypes[0]?
  match P.underlying t, x with
  | some .string, .str s => some (.int .i64 s.length)
  | some (.array n _), _ => some (.int .i64 n)
  | some (.slice _), .nilsl => some (.int .i64 0)
  | some (.slice _), .sl _ _ n _ _ => some (.int .i64 n)
  | some (.map _ _), .nilmap => some (.int .i64 0)
  | some (.map _ _), .map id => match h.get id with
    | some (.map es _ _) => some (.int .i64 es.length)
    | _ => none
  | some (.pointer a), _ => match P.underlying a with
    | some (.array n _) => some (.int .i64 n)
    | _ => none
  | _, _ => none

def evCap (P : Program) (argTypes : Array TypeId) (x : AV) : Option AV := do
  let t ← argTypes[0]?
  match P.underlying t, x with
  | some (.slice _), .nilsl => some (.int .i64 0)
  | some (.slice _), .sl _ _ _ _ (some c) => some (.int .i64 c)
  | _, _ => none

def max2A : AV → AV → Option AV
  | .int k x, .int _ y => some (.int k (if y > x then y else x))
  | _, _ => none
def min2A : AV → AV → Option AV
  | .int k x, .int _ y => some (.int k (if y < x then y else x))
  | _, _ => none
def foldA (f : AV → AV → Option AV) : AV → List AV → Option AV
  | x, [] => some x
  | x, y :: r => (f x y).bind fun z => foldA f z r
def maxA : List AV → Option AV
  | x :: y :: r => foldA max2A x (y :: r)
  | _ => none
def minA : List AV → Option AV
  | x :: y :: r => foldA min2A x (y :: r)
  | _ => none

def eraseNth : List (AV × AV) → Nat → List (AV × AV)
  | [], _ => []
  | _ :: l, 0 => l
  | x :: l, n + 1 => x :: eraseNth l n
def setNth (x : AV × AV) : List (AV × AV) → Nat → List (AV × AV)
  | [], _ => []
  | _ :: l, 0 => x :: l
  | y :: l, n + 1 => y :: setNth x l n

def evClear (P : Program) (h : AH) (argTypes : Array TypeId) (x : AV) : Option ORes := do
  let t ← argTypes[0]?
  match P.underlying t, x with
  | some _, .nilmap => some (.val (.tup []) h)
  | some _, .nilsl => some (.val (.tup []) h)
  | some _, .map id => match h.get id with
    | some (.map _ _ ck) => some (.val (.tup []) (h.put id (.map [] [] ck)))
    | _ => none
  | some (.slice e), .sl id off n sz _ => do
    if n = 0 then some (.val (.tup []) h) else do
    let z ← tzero P e
    let zc ← cellsA (toAV z)
    match h.get id with
    | some (.cells cs true text) =>
      if zc.length = sz && zc.all oneA && off + n * sz ≤ cs.length then some (.val (.tup []) (h.put id (.cells (putCells cs off (repCells zc n)) true text))) else none
    | _ => none
  | _, _ => none

def evDelete (P : Program) (h : AH) (argTypes : Array TypeId) (m k : AV) : Option ORes := do
  let t ← argTypes[0]?
  match P.underlying t with
  | some (.map kt _) =>
    if !(checkA P 12 kt k) then none else
    match m with
    | .nilmap => some (.val (.tup []) h)
    | .map id => match h.get id with
      | some (.map es bs ck) => do
          let r ← findA P h kt k es 0
          match r with
          | some (i, _, _) => some (.val (.tup []) (h.put id (.map (eraseNth es i) (bs.eraseIdx i) ck)))
          | none => some (.val (.tup []) h)
      | _ => none
    | _ => none
  | _ => none

def lookRes (P : Program) (et : TypeId) : Option (Nat × AV × AV) → Option (AV × Bool)
  | some (_, _, v) => some (v, true)
  | none => (tzero P et).map fun z => (toAV z, false)

def evLookup (P : Program) (h : AH) (t : TypeId) (m k : AV) (ok : Bool) : Option AV := do
  match P.underlying t with
  | some (.map kt et) =>
    if !(checkA P 12 kt k) then none else do
    let es ← match m with
      | .nilmap => some []
      | .map id => match h.get id with
        | some (.map es _ _) => some es
        | _ => none
      | _ => none
    let r ← findA P h kt k es 0
    let (v, b) ← lookRes P et r
    some (if ok then .tup [v, .bool b] else v)
  | _ => none

def evMapUpdate (P : Program) (h : AH) (t : TypeId) (m k v : AV) : Option ORes := do
  match P.underlying t, m with
  | some (.map kt _), .map id => match h.get id with
    | some (.map es bs ck) =>
      if !(checkA P 12 kt k) || !(simpleA k) then none else do
      let r ← findA P h kt k es 0
      match r with
      | some (i, k', _) => if simpleA k' && sameSimple k' k then some (.skip (h.put id (.map (setNth (k, v) es i) bs ck))) else none
      | none => if diffAll k es then some (.skip (h.put id (.map (es ++ [(k, v)]) (bs ++ [ck]) (ck + 1)))) else none
    | _ => none
  | _, _ => none

def methodA (P : Program) (t : TypeId) (name : String) : Option FuncId := do
  let i ← P.info? t
  let m ← i.methods.find? (·.name == name)
  if !m.path.isEmpty then none else
  match m.func with
  | some (f, pr) => do
      let d ← P.underlying t
      match d, pr with
      | .pointer _, true => some f
      | .pointer _, false => none
      | _, true => none
      | _, false => some f
  | none => none

def bodied (P : Program) (f : FuncId) : Bool :=
  match P.funcs[f]? with
  | some fn => fn.body.isSome && !(fn.name == "runtime.NumGoroutine")
  | none => false

def evInvoke (P : Program) (fn : Fn) (args captured : List AV) : Option ORes :=
  match fn with
  | .func f => some (.call f (args ++ captured))
  | .methodOf t name => do
      let x ← args.head?
      match x with
      | .junk => none
      | _ => do
        let d ← P.underlying t
        match d with
        | .interface _ => none
        | _ => do
          let f ← methodA P t name
          some (.call f (x :: args.tail))
  | .method name => do
      let x ← args.head?
      match x with
      | .iface t v => do
          let f ← methodA P t name
          some (.call f (v :: args.tail))
      | _ => none
  | _ => none

def evCall (P : Program) (h : AH) (E : Operand → AV) (c : Call) : Option ORes :=
  let args := c.args.toList.map E
  match c.callee with
  | .builtin b =>
    match b, args with
    | .append, [s, x] => evAppend P h c.argTypes s x
    | .copy, [d, s] => evCopy P h c.argTypes d s
    | .len, [x] => val? h (evLen P h c.argTypes x)
    | .cap, [x] => val? h (evCap P c.argTypes x)
    | .clear, [x] => evClear P h c.argTypes x
    | .delete, [m, k] => evDelete P h c.argTypes m k
    | .max, l => val? h (maxA l)
    | .min, l => val? h (minA l)
    | _, _ => none
  | .invoke r name => evInvoke P (.method name) (E r :: args) []
  | .value f =>
    match E f with
    | .func fn first captured => evInvoke P fn (first ++ args) captured
    | .yld id => some (.yield id args)
    | _ => none

def evConvert (P : Program) (h : AH) (src dst : TypeId) (x : AV) : Option ORes :=
  match P.underlying src, P.underlying dst, x with
  | some _, some (.int k), .int _ n => val? h (some (.int k (k.wrap n)))
  | some _, some .string, .str _ => val? h (some x)
  | some _, some (.slice e), .str s =>
    match P.underlying e with
    | some (.int .u8) => newCells h (s.map fun (b : Nat) => AV.int .u8 b) true fun id => .sl id 0 s.length 1 none
    | _ => none
  | some (.slice _), some (.slice e), .sl id off len sz c =>
    match P.underlying e, h.get id with
    | some (.int .u8), some (.cells cs true _) => if src = dst && 0 < len then some (.val (.sl id off len sz c) (h.put id (.cells cs true true))) else none
    | _, _ => none
  | some (.slice e), some .string, x =>
    match P.underlying e with
    | some (.int .u8) => do
      let n ← lenA x
      match x with
      | .str _ => none
      | _ => do
        let cs ← firstA h 1 n x
        let bs ← bytesA cs
        some (.val (.str bs) h)
    | _ => none
  | _, _, _ => none

def evNext (h : AH) (it : AV) : Option ORes :=
  match it with
  | .ptr id 0 => match h.get id with
    | some (.sit s pos) => match s[pos]? with
      | none => some (.val (.tup [.bool false]) h)
      | some c => if c < 128 then some (.val (.tup [.bool true, .int .i64 (pos : Nat), .int .i32 (c : Nat)]) (h.put id (.sit s (pos + 1)))) else none
    | _ => none
  | _ => none
def evRange (P : Program) (h : AH) (t : TypeId) (x : AV) : Option ORes :=
  match P.underlying t, x with
  | some .string, .str s => some (.val (.ptr h.nx 0) (h.new (.sit s 0)))
  | some (.map _ _), .nilmap => some (.val (.ptr h.nx 0) (h.new (.mit none 0 [] 0)))
  | some (.map _ _), .map m => match h.get m with
    | some (.map _ _ ck) => some (.val (.ptr h.nx 0) (h.new (.mit (some m) ck [] ck)))
    | _ => none
  | _, _ => none
def leftA : List (AV × AV) → List Nat → List Nat → List ((AV × AV) × Nat)
  | e :: es, b :: bs, seen => cond (seen.contains b) (leftA es bs seen) ((e, b) :: leftA es bs seen)
  | _, _, _ => []
def bornAt : List (AV × AV) → List Nat → Nat → Option AV
  | (k, v) :: es, c :: bs, b => if c = b then some (.tup [k, v]) else bornAt es bs b
  | _, _, _ => none
def evEntry (h : AH) (it : AV) : Option AV :=
  match it with
  | .ptr id 0 => match h.get id with
    | some (.mit (some m) _ seen last) => match seen.getLast?, h.get m with
      | some b, some (.map es bs ck) => if ck = last then bornAt es bs b else none
      | _, _ => none
    | _ => none
  | _ => none
def evNextMap (h : AH) (it : AV) : Option ORes :=
  match it with
  | .ptr id 0 => match h.get id with
    | some (.mit none _ _ _) => some (.val (.tup [.bool false]) h)
    | some (.mit (some m) since seen last) => match h.get m with
      | some (.map es bs ck) =>
        if (!seen.isEmpty && !bs.isEmpty && bs.all fun b => decide (b ≥ last)) = true then none else
        match leftA es bs seen with
        | [] => some (.val (.tup [.bool false]) h)
        | [((k, v), b)] => if b < since then some (.val (.tup [.bool true, k, v]) (h.put id (.mit (some m) since (seen ++ [b]) ck))) else none
        | _ => none
      | _ => none
    | _ => none
  | _ => none

def evOper (P : Program) (E : Operand → AV) (o : Oper) (h : AH) : Option ORes :=
  match o.op with
  | .move x | .assign x => some (.val (E x) h)
  | .pick c a b => match E c with
    | .bool t => some (.val (if t then E a else E b) h)
    | _ => none
  | .alloc e => allocated h (allocA P E (.alloc e))
  | .box e x => allocated h (allocA P E (.box e x))
  | .build t parts => val? h (evBuild P t (parts.toList.map fun (i, x) => (i, E x)))
  | .buildSlice t len parts => allocated h (allocA P E (.buildSlice t len parts))
  | .load t a => val? h (evLoad P h t (E a))
  | .store t a x => (evStore P h t (E a) (E x)).map .skip
  | .nilCheck x => match E x with
    | .ptr i o => some (.val (.ptr i o) h)
    | .func fn f c => match fn with
      | .method _ => none
      | _ => some (.val (.func fn f c) h)
    | .map i => some (.val (.map i) h)
    | _ => none
  | .binOp op t x y _ => val? h (binA P h op t (E x) (E y))
  | .unOp op _ x => val? h (unA op (E x))
  | .convert src dst x => evConvert P h src dst (E x)
  | .makeInterface t x => match P.underlying t with
    | some (.interface _) => none
    | some _ => some (.val (.iface t (E x)) h)
    | none => none
  | .makeFunc fn first captured => if plainFn fn then some (.val (.func fn (first.toList.map E) (captured.toList.map E)) h) else none
  | .makeMap t r => allocated h (allocA P E (.makeMap t r))
  | .makeSlice t l c => allocated h (allocA P E (.makeSlice t l c))
  | .slice t x lo hi mx => val? h (evSlice P h t (E x) (lo.map E) (hi.map E) (mx.map E))
  | .fieldAddr t x f => match P.underlying t, E x with
    | some (.struct fs), .ptr id off => match fs[f]? with
      | some fd => match tsize P fd.type with
        | some (_ + 1) => some (.val (.ptr id (off + fd.offset)) h)
        | _ => none
      | none => none
    | _, _ => none
  | .field t x f => match P.underlying t, E x with
    | some (.struct fs), .agg cs => match fs[f]? with
      | some fd => val? h (partA P fd.type cs fd.offset)
      | none => none
    | _, _ => none
  | .indexAddr t x i => val? h (evIndexAddr P t (E x) (E i))
  | .index t x i => val? h (evIndex P t (E x) (E i))
  | .lookup t x i ok => val? h (evLookup P h t (E x) (E i) ok)
  | .mapUpdate t m k x => evMapUpdate P h t (E m) (E k) (E x)
  | .insert t m k x => evMapUpdate P h t (E m) (E k) (E x)
  | .typeAssert x _ asserted ok => match P.underlying asserted, E x with
    | some (.interface _), _ => none
    | some _, .iface t v => if t = asserted then some (.val (if ok then .tup [v, .bool true] else v) h) else none
    | _, _ => none
  | .extract x i => match E x with
    | .tup l => val? h l[i]?
    | _ => none
  | .call c => evCall P h E c
  | .range t x => evRange P h t (E x)
  | .next it b => if b then evNext h (E it) else evNextMap h (E it)
  | .entry it => val? h (evEntry h (E it))
  | .sliceToArrayPointer dst x => match P.underlying dst, E x with
    | some (.array n _), .sl id off len _ _ => if 0 < n ∧ n ≤ len then some (.val (.ptr id off) h) else none
    | _, _ => none
  | _ => none

/-! ### Code -/
inductive Ex where
  | normal
  | exit (id : Nat)
  | ret

structure St where
  t : Env
  h : AH
  d : List Nat     -- marks among the deferred calls

structure Rec where
  call : FuncId → List AV → AH → Option (AV × AH)
  round : Nat → List AV → AH → Option (AV × AH)
  loop : Option Nat → FuncId → Nat → Code → St → Option (Ex × St)

def putA (n : Nat) (t : Env) (dst : Option Tmp) (v : AV) : Option Env :=
  match dst with
  | none => some t
  | some d => if d < n then some (t.set d (some v)) else none

def wantedA (ops : Array Oper) (t : Env) (o : Oper) : Option Bool :=
  match o.guard with
  | none => some true
  | some (j, w) => match (ops[j]?).bind (·.dst) with
    | none => some false
    | some d => match t.get d with
      | some (.bool b) => some (b == w)
      | some .junk => none
      | none => none
      | _ => some false

def evOp1 (P : Program) (R : Rec) (n : Nat) (ops : Array Oper) (o : Oper) (t : Env) (h : AH) : Option (Env × AH) :=
  match wantedA ops t o with
  | some true => match evOper P (opnd t) o h with
    | some (.val v h') => (putA n t o.dst v).map (·, h')
    | some (.skip h') => (putA n t o.dst (.tup [])).map (·, h')
    | some (.call f args) => match R.call f args h with
      | some (v, h') => (putA n t o.dst v).map (·, h')
      | none => none
    | some (.yield id args) => match R.round id args h with
      | some (v, h') => (putA n t o.dst v).map (·, h')
      | none => none
    | none => none
  | some false => (putA n t o.dst (.tup [])).map (·, h)
  | none => none

def evOps (P : Program) (R : Rec) (n : Nat) (ops : Array Oper) : List Oper → Env → AH → Option (Env × AH)
  | [], t, h => some (t, h)
  | o :: r, t, h => match evOp1 P R n ops o t h with
    | some (t', h') => evOps P R n ops r t' h'
    | none => none

/-! ### A region that draws its order -/
def clsOf (P : Program) : Op → Nat
  | .move _ | .assign _ | .pick .. | .build .. | .nilCheck _ | .unOp .. | .makeInterface .. | .makeFunc .. | .fieldAddr .. | .field .. | .indexAddr .. | .index .. | .extract .. | .typeAssert .. => 0
  | .load .. | .lookup .. => 1
  | .binOp _ t _ _ _ => match P.underlying t with
    | some (.int _) => 0
    | _ => 1
  | .slice t _ _ _ _ => match P.underlying t with
    | some (.slice _) => 0
    | some .string => 0
    | _ => 1
  | .convert _ dst _ => match P.underlying dst with
    | some (.int _) => 1
    | some .string => 1
    | _ => 3
  | .call c => match c.callee with
    | .builtin .len => 1
    | .builtin .cap => 1
    | .builtin .max => 1
    | .builtin .min => 1
    | _ => 3
  | .alloc _ | .box .. | .buildSlice .. | .makeMap .. | .makeSlice .. => 2
  | _ => 3

def mbit (m i : Nat) : Bool := Nat.beq (Nat.shiftRight m i % 2) 1

def edgeMask (ms : List Nat) (i : Nat) : List Edge → Nat → Option Nat
  | [], m => some m
  | e :: r, m => if Region.binds .any e then (if e.on < i then edgeMask ms i r (Nat.lor m (Nat.lor (2 ^ e.on) (ms.getD e.on 0))) else none) else edgeMask ms i r m

def statAt (P : Program) (ops : Array Oper) (o : Oper) (m : Nat) : Nat → List Oper → Bool
  | _, [] => true
  | j, p :: r => (mbit m j || (p.apart ops o && !(Nat.beq (clsOf P o.op) 3 && Nat.ble 2 (clsOf P p.op)))) && statAt P ops o m (j + 1) r

def pairsAt (P : Program) (o : Oper) (m i : Nat) : Nat → List Oper → List (Nat × Nat)
  | _, [] => []
  | j, p :: r => if !(mbit m j) && ((Nat.beq (clsOf P o.op) 1 && Nat.beq (clsOf P p.op) 3) || (Nat.beq (clsOf P o.op) 3 && Nat.beq (clsOf P p.op) 1)) then (j, i) :: pairsAt P o m i (j + 1) r else pairsAt P o m i (j + 1) r

def statGo (P : Program) (ops : Array Oper) : List Oper → Nat → List Oper → List Nat → List (Nat × Nat) → Option (List (Nat × Nat))
  | [], _, _, _, acc => some acc
  | o :: r, i, prev, ms, acc => match edgeMask ms i o.after.toList 0 with
    | none => none
    | some m => if statAt P ops o m 0 prev then statGo P ops r (i + 1) (prev ++ [o]) (ms ++ [m]) (acc ++ pairsAt P o m i 0 prev) else none

def restr (t : Env) : List Tmp → Env → Env
  | [], e => e
  | d :: l, e => restr t l (match t.get d with
    | some v => e.set d (some v)
    | none => e)

def sameL (f : AV → AV → Bool) : List AV → List AV → Bool
  | [], [] => true
  | a :: l, b :: m => f a b && sameL f l m
  | _, _ => false

def sameAV : Nat → AV → AV → Bool
  | 0, _, _ => false
  | _ + 1, .bool a, .bool b => a == b
  | _ + 1, .int k a, .int k' b => decide (k = k') && decide (a = b)
  | _ + 1, .str a, .str b => decide (a = b)
  | _ + 1, .nilptr, .nilptr => true
  | _ + 1, .ptr i a, .ptr j b => Nat.beq i j && Nat.beq a b
  | _ + 1, .nilsl, .nilsl => true
  | _ + 1, .sl i a l s c, .sl j b l' s' c' => Nat.beq i j && (Nat.beq a b && (Nat.beq l l' && (Nat.beq s s' && decide (c = c'))))
  | _ + 1, .nilmap, .nilmap => true
  | _ + 1, .map i, .map j => Nat.beq i j
  | _ + 1, .nilfunc, .nilfunc => true
  | f + 1, .iface t v, .iface t' v' => decide (t = t') && sameAV f v v'
  | _ + 1, .nilif, .nilif => true
  | f + 1, .agg l, .agg m => sameL (sameAV f) l m
  | f + 1, .tup l, .tup m => sameL (sameAV f) l m
  | _, _, _ => false

structure DS where
  t : Env
  h : AH
  pend : List (Nat × AO)

def absorb : List (Nat × AO) → AH → AH
  | [], h => h
  | (id, o) :: r, h => absorb r (h.put id o)

def backA (t : Env) (dst : Option Tmp) (t' : Env) : Env :=
  match dst with
  | none => t
  | some d => t.set d (t'.get d)

def drawStep (P : Program) (R : Rec) (n : Nat) (ops : Array Oper) (base i : Nat) (o : Oper) (s : DS) : Option DS :=
  match clsOf P o.op with
  | 2 => match wantedA ops (restr s.t (o.looksAt ops) .nil) o with
    | some true => match allocA P (opnd (restr s.t (o.looksAt ops) .nil)) o.op with
      | some (ob, mk) => match putA n s.t o.dst (mk (base + i)) with
        | some t' => some { t := t', h := s.h, pend := s.pend ++ [(base + i, ob)] }
        | none => none
      | none => none
    | some false => match putA n s.t o.dst (.tup []) with
      | some t' => some { t := t', h := s.h, pend := s.pend }
      | none => none
    | none => none
  | 3 => match evOp1 P R n ops o (restr s.t (o.looksAt ops) .nil) (absorb s.pend s.h) with
    | some (t', h') => some { t := backA s.t o.dst t', h := h', pend := [] }
    | none => none
  | _ => match evOp1 P R n ops o (restr s.t (o.looksAt ops) .nil) s.h with
    | some (t', _) => some { t := backA s.t o.dst t', h := s.h, pend := s.pend }
    | none => none

def drawGo (P : Program) (R : Rec) (n : Nat) (ops : Array Oper) (base : Nat) : List Oper → Nat → DS → Option (List DS)
  | [], _, s => some [s]
  | o :: r, i, s => match drawStep P R n ops base i o s with
    | some s' => match drawGo P R n ops base r (i + 1) s' with
      | some l => some (s :: l)
      | none => none
    | none => none

def sameAt (P : Program) (R : Rec) (n : Nat) (ops : Array Oper) (i : Nat) (t t' : Env) (h : AH) : Bool :=
  match ops[i]? with
  | some o => match evOp1 P R n ops o (restr t (o.looksAt ops) .nil) h with
    | some (t2, _) => match o.dst with
      | none => true
      | some d => match t2.get d, t'.get d with
        | some a, some b => sameAV 20 a b
        | _, _ => false
    | none => false
  | none => false

def sameAll (P : Program) (R : Rec) (n : Nat) (ops : Array Oper) (ss : List DS) : List (Nat × Nat) → Bool
  | [] => true
  | (j, i) :: r => (match ops[i]?, ss[i]?, ss[i + 1]?, ss[j]?, ss[j + 1]? with
    | some o, some si, some si', some sj, some sj' => if Nat.beq (clsOf P o.op) 1 then sameAt P R n ops i si.t si'.t sj.h else sameAt P R n ops j sj.t sj'.t si'.h
    | _, _, _, _, _ => false) && sameAll P R n ops ss r

def evDraw (P : Program) (R : Rec) (n : Nat) (ops : Array Oper) (t : Env) (h : AH) : Option (Env × AH) :=
  if P.follows .mixedOrders then
    match statGo P ops ops.toList 0 [] [] [] with
    | none => none
    | some prs => match drawGo P R n ops h.nx ops.toList 0 { t, h := { h with nx := h.nx + ops.size }, pend := [] } with
      | none => none
      | some ss => if sameAll P R n ops ss prs then
          match ss[ops.size]? with
          | some s => some (s.t, absorb s.pend s.h)
          | none => none
        else none
  else none

def setArgs : List Tmp → List AV → Nat → Env → Option Env
  | [], [], _, t => some t
  | p :: ps, a :: as0, n, t => if p < n then setArgs ps as0 n (t.set p (some a)) else none
  | _, _, _, _ => none

def loopHead : Option Nat → St → Option (Nat × AH × List Nat)
  | none, s => some (s.h.nx, s.h.new (.defs true), s.h.nx :: s.d)
  | some l, s => match s.h.get l with
    | some (.loop _ _ _ _ _ _ _ _ d) => some (d, s.h, s.d)
    | _ => none

def loopTail (t : Env) (ds : List Nat) (l : Nat) (h3 : AH) : Option (Ex × St) :=
  match h3.get l with
  | some (.loop .busy _ _ _ _ _ _ _ _) => none
  | some (.loop _ pend fn' t' n' ps' a' b' d') =>
    let s' : St := { t, h := h3.put l (.loop .exhausted pend fn' t' n' ps' a' b' d'), d := ds }
    match pend with
    | none => some (.normal, s')
    | some .ret => some (.ret, s')
    | some (.exit id) => some (.exit id, s')
    | some _ => none
  | _ => none

def evCode (P : Program) (R : Rec) (r : Option Nat) (fn : FuncId) (n : Nat) : Code → St → Option (Ex × St)
  | .skip, s => some (.normal, s)
  | .label _, s => some (.normal, s)
  | .scope c, s => evCode P R r fn n c s
  | .region _ ops false, s => match evOps P R n ops ops.toList s.t s.h with
    | some (t, h) => some (.normal, { s with t, h })
    | none => none
  | .region _ ops true, s => match evDraw P R n ops s.t s.h with
    | some (t, h) => some (.normal, { s with t, h })
    | none => none
  | .seq a b, s => match evCode P R r fn n a s with
    | some (.normal, s') => evCode P R r fn n b s'
    | x => x
  | .cond c a b, s => match opnd s.t c with
    | .bool t => cond t (evCode P R r fn n a s) (evCode P R r fn n b s)
    | _ => none
  | .block id c, s => match evCode P R r fn n c s with
    | some (.exit j, s') => some (cond (Nat.beq j id) .normal (.exit j), s')
    | x => x
  | .loop c, s => R.loop r fn n c s
  | .exit id, s => some (.exit id, s)
  | .ret, s => some (.ret, s)
  | .rangeFunc g ps assign body, s =>
    match loopHead r s with
    | some (d, h1, ds) =>
      match opnd s.t g with
      | .func (.func f) first captured =>
        if bodied P f then
          match R.call f (first ++ [.yld h1.nx] ++ captured) (h1.new (.loop .ready none fn s.t n ps assign body d)) with
          | some (_, h3) => loopTail s.t ds h1.nx h3
          | none => none
        else none
      | _ => none
    | none => none
  | _, _ => none

def takeMarks : List Nat → AH → Option AH
  | [], h => some h
  | d :: l, h => match h.get d with
    | some (.defs true) => takeMarks l (h.put d (.defs false))
    | _ => none

def argsEnv : List AV → Nat → Env → Env
  | [], _, t => t
  | a :: l, i, t => argsEnv l (i + 1) (t.set i (some a))

def resultA (P : Program) (h : AH) (t : Env) : ResultVar → Option AV
  | .tmp i => some ((t.get i).getD .junk)
  | .cell a ty => evLoad P h ty ((t.get a).getD .junk)

def resultsA (P : Program) (h : AH) (t : Env) (rs : List ResultVar) : Option AV :=
  match rs.mapM (resultA P h t) with
  | some [v] => some v
  | some l => some (.tup l)
  | none => none

def nTmps (fn : Func) (args : List AV) : Nat := args.length + (fn.ntmps - args.length)

abbrev Sums := FuncId → List AV → AH → Option (AV × AH)

def evFn (P : Program) (S : Sums) (R : Rec) (f : FuncId) (args : List AV) (h : AH) : Option (AV × AH) :=
  match S f args h with
  | some r => some r
  | none =>
    if !(bodied P f) then none else
    match P.funcs[f]? with
    | some fn => match fn.body with
      | some c => match evCode P R none f (nTmps fn args) c { t := argsEnv args 0 .nil, h, d := [] } with
        | some (.exit _, _) => none
        | some (_, s) => match takeMarks s.d s.h with
          | some h' => (resultsA P h' s.t fn.results.toList).map (·, h')
          | none => none
        | none => none
      | none => none
    | none => none

def evRound (P : Program) (R : Rec) (l : Nat) (args : List AV) (h : AH) : Option (AV × AH) :=
  match h.get l with
  | some (.loop _ _ fn t n ps assign body _) => match setArgs ps.toList args n t with
    | some t' => match evCode P R (some l) fn n assign { t := t', h, d := [] } with
      | some (.normal, s1) => match s1.h.get l with
        | some (.loop .ready pend fn1 t1 n1 ps1 a1 b1 d1) =>
          match evCode P R (some l) fn n body { s1 with h := s1.h.put l (.loop .busy pend fn1 t1 n1 ps1 a1 b1 d1) } with
          | some (ex, s2) => match s2.h.get l with
            | some (.loop _ _ fn2 t2 n2 ps2 a2 b2 d2) => match ex with
              | .normal => some (.bool true, s2.h.put l (.loop .ready none fn2 t2 n2 ps2 a2 b2 d2))
              | .ret => some (.bool false, s2.h.put l (.loop .done (some .ret) fn2 t2 n2 ps2 a2 b2 d2))
              | .exit id => some (.bool false, s2.h.put l (.loop .done (some (.exit id)) fn2 t2 n2 ps2 a2 b2 d2))
            | _ => none
          | none => none
        | _ => none
      | _ => none
    | none => none
  | _ => none

def evN (P : Program) (S : Sums) : Nat → Rec
  | 0 => { call := fun _ _ _ => none, round := fun _ _ _ => none, loop := fun _ _ _ _ _ => none }
  | k + 1 => let R := evN P S k
    { call := evFn P S R
      round := evRound P R
      loop := fun r fn n c s => match evCode P R r fn n c s with
        | some (.normal, s') => R.loop r fn n c s'
        | x => x }

end
end Go.Abs
end

section
namespace Go.Abs
open Go

section
variable {P : Program} {ρ : Pm} {w : World} {K : Kp} {h : AH}

theorem run_underlying' {t : TypeId} {d : TypeDesc} (ht : P.underlying t = some d) : (underlying t).run P w = .ok d w := by
  simp [underlying, ht]
theorem run_typeInfo' {t : TypeId} {i : TypeInfo} (ht : P.info? t = some i) : (typeInfo t).run P w = .ok i w := by
  simp [typeInfo, ht]
theorem run_zeroValue' {t : TypeId} {z : Value} (ht : tzero P t = some z) : (zeroValue t).run P w = .ok z w := by
  unfold tzero at ht
  cases hi : P.info? t with
  | none => simp [hi] at ht
  | some i => simp [hi] at ht; simp [zeroValue, run_typeInfo' hi, ht]
theorem run_sizeOf' {t : TypeId} {n : Nat} (ht : tsize P t = some n) : (sizeOf t).run P w = .ok n w := by
  unfold tsize at ht
  cases hi : P.info? t with
  | none => simp [hi] at ht
  | some i => simp [hi] at ht; simp [sizeOf, run_typeInfo' hi, ht]
theorem run_isAgg' {t : TypeId} {d : TypeDesc} (ht : P.underlying t = some d) : (isAgg t).run P w = .ok (aggT d) w := by
  unfold isAgg
  rw [Sem.run_bind, run_underlying' ht]
  cases d <;> rfl

theorem toAV0_sound (v : Value) : VR ρ (toAV0 v) v := by
  unfold toAV0
  split
  · exact .bool _
  · exact .int _ _
  · exact .str _
  · exact .nilptr
  · exact .nilsl
  · exact .nilmap
  · exact .nilfunc
  · exact .nilif
  · exact .junk _

theorem toAV_sound (v : Value) : VR ρ (toAV v) v := by
  unfold toAV
  split
  · rename_i cs
    refine .agg (VRs.of_get (by simp) fun i a v h1 h2 => ?_)
    rw [List.getElem?_map, h2] at h1
    simp at h1
    subst h1
    exact toAV0_sound v
  · exact toAV0_sound _

theorem cellsA_sound {a : AV} {v : Value} {l : List AV} (hv : VR ρ a v) (hl : cellsA a = some l) : VRs ρ l v.cells.toList := by
  have hv' := hv
  cases hv <;> simp only [cellsA, Option.some.injEq, reduceCtorEq] at hl <;> subst hl <;> first | exact .cons hv' .nil | assumption

theorem partA_sound {t : TypeId} {cs : List AV} {ccs : Array Value} {off : Nat} {a : AV} (hcs : VRs ρ cs ccs.toList) (hp : partA P t cs off = some a) :
    ∃ cv, (part t ccs off).run P w = .ok cv w ∧ VR ρ a cv := by
  unfold partA at hp
  cases hd : P.underlying t with
  | none => simp [hd] at hp
  | some d =>
    simp only [hd, Option.bind_eq_bind, Option.bind_some] at hp
    unfold part
    rw [Sem.run_bind, run_isAgg' hd]
    simp only [Result.andThen_ok]
    cases hag : aggT d with
    | true =>
      simp only [hag, if_true] at hp ⊢
      cases hn : tsize P t with
      | none => simp [hn] at hp
      | some n =>
        simp only [hn, Option.bind_some] at hp
        split at hp
        · rename_i hle
          simp only [Option.some.injEq] at hp
          subst hp
          refine ⟨.agg (ccs.extract off (off + n)), by simp [run_sizeOf' hn], .agg ?_⟩
          have : (ccs.extract off (off + n)).toList = (ccs.toList.drop off).take n := by simp
          rw [this]
          exact (hcs.drop off).take n
        · simp at hp
    | false =>
      simp only [hag, Bool.false_eq_true, if_false] at hp ⊢
      obtain ⟨v, hv, r⟩ := hcs.get hp
      have : ccs[off]? = some v := by simpa using hv
      exact ⟨v, by simp [this], r⟩

theorem opnd_sound {t : Env} {n : Nat} {a : Act} (he : ER ρ t n a.tmps) (x : Operand) : VR ρ (opnd t x) (a.eval x) := by
  cases x with
  | tmp i =>
    simp only [opnd, Act.eval]
    cases hg : t.get i with
    | none => exact .junk _
    | some v =>
      obtain ⟨u, hu, r⟩ := he.2 i v hg
      simpa [Array.getD_eq_getD_getElem?, hu] using r
  | const v => exact toAV_sound v
  | global g => exact .junk _
  | func f => exact .func rfl .nil .nil

/-! ### Cells -/
theorem Rel.cells {id : Nat} {cs : List AV} {own text : Bool} (hR : Rel K ρ h w) (hg : h.get id = some (.cells cs own text)) :
    ∃ p c e fr, ρ id = some p ∧ w.heap[p.b]? = some (.cells c e fr) ∧ (if own then c.size = p.lim else p.lim ≤ c.size) ∧ p.o + cs.length ≤ p.lim ∧
      (∀ i a, cs[i]? = some a → ∃ v, c[p.o + i]? = some v ∧ VR ρ a v) ∧ (own = true → FrOk fr c.size) ∧ (own = true → text = false → fr = (0, 0) ∧ 0 < c.size ∧ p.o = 0) ∧
      (own = true → K.at_ p.b = none ∧ K.size ≤ p.b) := by
  obtain ⟨p, hp, ho, hown, _⟩ := hR.obj id _ hg
  obtain ⟨c, e, fr, h1, h2, h3, h4, h5, h6⟩ := ho
  exact ⟨p, c, e, fr, hp, h1, h2, h3, h4, h5, h6, hown⟩

theorem Rel.cell {id off i : Nat} {cs : List AV} {own text : Bool} {a : AV} {p : Pl} (hR : Rel K ρ h w) (hg : h.get id = some (.cells cs own text)) (hp : ρ id = some p)
    (hi : cs[off + i]? = some a) : ∃ v, w.cell? ((⟨p.b, p.o + off, none⟩ : Addr).add i) = some v ∧ VR ρ a v := by
  obtain ⟨q, c, e, fr, hq, hc, _, _, hget, _⟩ := hR.cells hg
  rw [hp] at hq; cases hq
  obtain ⟨v, hv, r⟩ := hget _ _ hi
  refine ⟨v, ?_, r⟩
  have e1 : p.o + (off + i) = p.o + off + i := by omega
  rw [e1] at hv
  by_cases h0 : i = 0
  · subst h0; simpa [Addr.add, World.cell?, hc] using hv
  · simpa [Addr.add, World.cell?, hc, h0] using hv

theorem run_loadCells' (a : Addr) : ∀ (n i : Nat) (acc : Array Value) (f : Nat → Value), (∀ j, j < n → w.cell? (a.add (i + j)) = some (f (i + j))) →
    (loadCellsFrom a i n acc).run P w = .ok (acc ++ ((List.range n).map fun j => f (i + j)).toArray) w := by
  intro n
  induction n with
  | zero => intro i acc f _; simp [loadCellsFrom]
  | succ n ih =>
    intro i acc f hf
    have h0 := hf 0 (by omega)
    simp only [Nat.add_zero] at h0
    simp only [loadCellsFrom, Sem.run_bind, run_load, h0, Result.andThen_ok]
    rw [ih (i + 1) (acc.push (f i)) f (fun j hj => by have := hf (j + 1) (by omega); rwa [show i + (j + 1) = i + 1 + j by omega] at this)]
    congr 1
    apply Array.ext'
    simp [List.range_succ_eq_map, Function.comp_def]
    intro j _
    congr 1; omega

theorem Rel.loadCells {id off n : Nat} {cs : List AV} {own text : Bool} {p : Pl} (hR : Rel K ρ h w) (hg : h.get id = some (.cells cs own text)) (hp : ρ id = some p)
    (hn : off + n ≤ cs.length) : ∃ vs : Array Value, (Go.loadCells ⟨p.b, p.o + off, none⟩ n).run P w = .ok vs w ∧ VRs ρ ((cs.drop off).take n) vs.toList := by
  have key : ∀ j, j < n → ∃ v, w.cell? ((⟨p.b, p.o + off, none⟩ : Addr).add (0 + j)) = some v ∧ ∀ a, cs[off + j]? = some a → VR ρ a v := by
    intro j hj
    have hlt : off + j < cs.length := by omega
    obtain ⟨v, hv, r⟩ := hR.cell hg hp (List.getElem?_eq_getElem hlt)
    refine ⟨v, by simpa using hv, fun a ha => ?_⟩
    rw [List.getElem?_eq_getElem hlt] at ha
    cases ha; exact r
  let f : Nat → Value := fun j => if hj : j < n then (key j hj).choose else undef
  have hf : ∀ j, j < n → w.cell? ((⟨p.b, p.o + off, none⟩ : Addr).add (0 + j)) = some (f (0 + j)) := by
    intro j hj
    simp only [f, Nat.zero_add, dif_pos hj]
    simpa using (key j hj).choose_spec.1
  refine ⟨_, run_loadCells' _ n 0 #[] f hf, ?_⟩
  refine VRs.of_get (by simp; omega) fun j a v h1 h2 => ?_
  simp only [List.getElem?_take, List.getElem?_drop] at h1
  split at h1
  · rename_i hj
    simp [hj] at h2
    subst h2
    simp only [f, dif_pos hj]
    exact (key j hj).choose_spec.2 a h1
  · simp at h1

theorem evLoad_sound {t : TypeId} {x a : AV} {cx : Value} (hR : Rel K ρ h w) (hx : VR ρ x cx) (hl : evLoad P h t x = some a) :
    ∃ cv, (Instr.loadAt t cx).run P w = .ok cv w ∧ VR ρ a cv := by
  unfold evLoad at hl
  split at hl
  · rename_i id off
    cases hx with
    | ptr hp =>
    rename_i p
    split at hl
    · rename_i cs own text d hg hd
      simp only [Instr.loadAt, Instr.sureAddr, Sem.run_bind, Sem.run_pure, Result.andThen_ok, loadVar, run_isAgg' hd]
      cases hag : aggT d with
      | true =>
        simp only [hag, if_true] at hl ⊢
        split at hl
        · rename_i n hn
          split at hl
          · rename_i hle
            cases hl
            obtain ⟨vs, hvs, r⟩ := hR.loadCells (P := P) hg hp hle
            exact ⟨.agg vs, by simp [run_sizeOf' hn, hvs], .agg r⟩
          · simp at hl
        · simp at hl
      | false =>
        simp only [hag, Bool.false_eq_true, if_false] at hl ⊢
        obtain ⟨v, hv, r⟩ := hR.cell (i := 0) hg hp (by simpa using hl)
        exact ⟨v, by simp [show w.cell? ⟨p.b, p.o + off, none⟩ = some v from by simpa [Addr.add] using hv], r⟩
    · simp at hl
  · simp at hl

end
end Go.Abs
end

section
namespace Go.Abs
open Go

section
variable {P : Program} {ρ : Pm} {w : World} {K : Kp} {h : AH}

def Pm.put (ρ : Pm) (id : Nat) (p : Pl) : Pm := fun j => if j = id then some p else ρ j
theorem Pm.le_put {ρ : Pm} {id : Nat} {p : Pl} (hf : ρ id = none) : ρ.le (ρ.put id p) := fun j q hq => by
  unfold Pm.put
  split
  · rename_i e; subst e; rw [hf] at hq; cases hq
  · exact hq
theorem Ext.put {ρ : Pm} {n : Nat} {p : Pl} (hf : ρ n = none) : Ext n ρ (n + 1) (ρ.put n p) :=
  ⟨Pm.le_put hf, Nat.le_succ n, fun id hid => by
    have : id ≠ n := Nat.ne_of_lt hid
    simp [Pm.put, this]⟩
theorem Pm.put_self (ρ : Pm) (id : Nat) (p : Pl) : (ρ.put id p) id = some p := by simp [Pm.put]

theorem Rel.lt {id : Nat} {o : AO} {p : Pl} (hR : Rel K ρ h w) (hg : h.get id = some o) (hp : ρ id = some p) : p.b < w.heap.size := by
  obtain ⟨q, hq, ho, _⟩ := hR.obj id o hg
  rw [hp] at hq; cases hq
  have : (w.heap[p.b]?).isSome = true := by
    cases o with
    | cells cs own text => obtain ⟨c, e, fr, h1, _⟩ := ho; simp [h1]
    | map es bs ck => obtain ⟨c, h1, _⟩ := ho; simp [h1]
    | mit m since seen last => cases m with
      | none => obtain ⟨_, h1⟩ := ho; simp [h1]
      | some m => obtain ⟨_, q, _, h1⟩ := ho; simp [h1]
    | loop st pend fn t n params assign body d => obtain ⟨c, e, f, h1, _⟩ := ho; simp [h1]
    | defs o => simp [show w.heap[p.b]? = _ from ho]
    | sit s pos => obtain ⟨_, c, h1, _⟩ := ho; simp [h1]
  rcases Nat.lt_or_ge p.b w.heap.size with h1 | h1
  · exact h1
  · simp [Array.getElem?_eq_none h1] at this

theorem Rel.size_le (hR : Rel K ρ h w) : ∀ b o, K.at_ b = some o → b < w.heap.size := fun b o hb => by
  have := hR.keep b o hb
  rcases Nat.lt_or_ge b w.heap.size with h1 | h1
  · exact h1
  · simp [Array.getElem?_eq_none h1] at this

theorem Rel.push (hR : Rel K ρ h w) {o : AO} {co : Obj} {lim : Nat} (hown : o.own = true) (ho : OR (ρ.put h.nx ⟨w.heap.size, 0, lim⟩) ⟨w.heap.size, 0, lim⟩ o (some co)) :
    Rel K (ρ.put h.nx ⟨w.heap.size, 0, lim⟩) (h.new o) { w with heap := w.heap.push co } ∧ Ext h.nx ρ (h.new o).nx (ρ.put h.nx ⟨w.heap.size, 0, lim⟩) := by
  have hle : ρ.le (ρ.put h.nx ⟨w.heap.size, 0, lim⟩) := Pm.le_put (hR.fresh _ (Nat.le_refl _))
  have hold : ∀ b, b < w.heap.size → (w.heap.push co)[b]? = w.heap[b]? := fun b hb => by rw [Array.getElem?_push, if_neg (by omega)]
  have hKn : K.at_ w.heap.size = none := by
    cases hk : K.at_ w.heap.size with
    | none => rfl
    | some o' => have := hR.size_le _ _ hk; omega
  refine ⟨⟨hR.os, hR.tape, hR.output, by simp; have := hR.size; omega, fun b o' hb => ?_, fun id hid => ?_, fun id o' hg => ?_, ?_⟩, Ext.put (hR.fresh _ (Nat.le_refl _))⟩
  · rw [hold b (hR.size_le b o' hb)]; exact hR.keep b o' hb
  · have hne : id ≠ h.nx := by simp at hid; omega
    simp only [Pm.put, if_neg hne]
    exact hR.fresh id (by simp at hid; omega)
  · rw [AH.get_new] at hg
    by_cases e : id = h.nx
    · subst e
      simp only [if_true, Option.some.injEq] at hg
      subst hg
      refine ⟨_, Pm.put_self _ _ _, ?_, fun _ => ⟨hKn, hR.size⟩, fun hn => by rw [hown] at hn; cases hn⟩
      have : (w.heap.push co)[w.heap.size]? = some co := by simp
      rw [show ({ w with heap := w.heap.push co } : World).heap = w.heap.push co from rfl, this]
      exact ho
    · rw [if_neg e] at hg
      obtain ⟨p, hp, hor, h1, h2⟩ := hR.obj id o' hg
      refine ⟨p, hle _ _ hp, ?_, h1, h2⟩
      rw [show ({ w with heap := w.heap.push co } : World).heap = w.heap.push co from rfl, hold p.b (hR.lt hg hp)]
      exact hor.mono hle
  · intro i j oi oj pi pj hi hj ho1 ho2 hpi hpj hb
    rw [AH.get_new] at hi hj
    by_cases ei : i = h.nx <;> by_cases ej : j = h.nx
    · rw [ei, ej]
    · exfalso
      subst ei
      rw [if_neg ej] at hj
      simp only [Pm.put, if_neg ej] at hpj
      rw [Pm.put_self] at hpi; cases hpi
      have := hR.lt hj hpj
      simp at hb; omega
    · exfalso
      subst ej
      rw [if_neg ei] at hi
      simp only [Pm.put, if_neg ei] at hpi
      rw [Pm.put_self] at hpj; cases hpj
      have := hR.lt hi hpi
      simp at hb; omega
    · rw [if_neg ei] at hi
      rw [if_neg ej] at hj
      simp only [Pm.put, if_neg ei] at hpi
      simp only [Pm.put, if_neg ej] at hpj
      exact hR.inj i j oi oj pi pj hi hj ho1 ho2 hpi hpj hb

theorem Rel.change (hR : Rel K ρ h w) {id : Nat} {o o' : AO} {p : Pl} {w' : World} (hg : h.get id = some o) (hp : ρ id = some p) (hown : o.own = true) (hown' : o'.own = true)
    (hos : w'.os = w.os) (htape : w'.tape = w.tape) (hout : w'.output = w.output) (hsize : w'.heap.size = w.heap.size)
    (hother : ∀ b, b ≠ p.b → w'.heap[b]? = w.heap[b]?) (ho : OR ρ p o' w'.heap[p.b]?) : Rel K ρ (h.put id o') w' := by
  obtain ⟨q, hq, _, hK, _⟩ := hR.obj id o hg
  rw [hp] at hq; cases hq
  obtain ⟨hKn, hKs⟩ := hK hown
  refine ⟨hos.trans hR.os, htape.trans hR.tape, hout.trans hR.output, by rw [hsize]; exact hR.size, fun b ob hb => ?_, fun j hj => hR.fresh j (by simpa using hj), fun j oj hj => ?_, ?_⟩
  · rw [hother b (fun e => by rw [e, hKn] at hb; cases hb)]; exact hR.keep b ob hb
  · rw [AH.get_put] at hj
    by_cases e : j = id
    · subst e
      simp only [if_true, Option.some.injEq] at hj
      subst hj
      exact ⟨p, hp, ho, fun _ => ⟨hKn, hKs⟩, fun hn => by rw [hown'] at hn; cases hn⟩
    · rw [if_neg e] at hj
      obtain ⟨r, hr, hor, h1, h2⟩ := hR.obj j oj hj
      refine ⟨r, hr, ?_, h1, h2⟩
      have hne : r.b ≠ p.b := fun eb => by
        cases hoj : oj.own with
        | true => exact e (hR.inj j id oj o r p hj hg hoj hown hr hp eb)
        | false => have := K.roAt _ (h2 hoj); rw [eb, hKn] at this; cases this
      rw [hother _ hne]; exact hor
  · intro i j oi oj pi pj hi hj ho1 ho2 hpi hpj hb
    rw [AH.get_put] at hi hj
    have fi : ∃ o1, h.get i = some o1 ∧ o1.own = true := by
      by_cases e : i = id
      · subst e; exact ⟨o, hg, hown⟩
      · rw [if_neg e] at hi; exact ⟨oi, hi, ho1⟩
    have fj : ∃ o1, h.get j = some o1 ∧ o1.own = true := by
      by_cases e : j = id
      · subst e; exact ⟨o, hg, hown⟩
      · rw [if_neg e] at hj; exact ⟨oj, hj, ho2⟩
    obtain ⟨o1, g1, w1⟩ := fi
    obtain ⟨o2, g2, w2⟩ := fj
    exact hR.inj i j o1 o2 pi pj g1 g2 w1 w2 hpi hpj hb

theorem Rel.forget (hR : Rel K ρ h w) {h' : AH} (hsub : ∀ id o, h'.get id = some o → h.get id = some o) (hnx : h.nx ≤ h'.nx) : Rel K ρ h' w :=
  ⟨hR.os, hR.tape, hR.output, hR.size, hR.keep, fun id hid => hR.fresh id (by omega), fun id o hg => hR.obj id o (hsub id o hg),
    fun i j oi oj pi pj hi hj => hR.inj i j oi oj pi pj (hsub i oi hi) (hsub j oj hj)⟩

theorem Rel.drawn (hR : Rel K ρ h w) (n : Nat) : Rel K ρ h { w with drawn := n } :=
  ⟨hR.os, hR.tape, hR.output, hR.size, hR.keep, hR.fresh, hR.obj, hR.inj⟩

theorem Rel.newCells (hR : Rel K ρ h w) {cs : List AV} {ccs : Array Value} {e : TypeId} (hc : ∀ (i : Nat) (a : AV), cs[i]? = some a → ∃ v, ccs[i]? = some v ∧ VR ρ a v) (hle : cs.length ≤ ccs.size) {text : Bool} (hne : text = false → 0 < ccs.size) :
    Rel K (ρ.put h.nx ⟨w.heap.size, 0, ccs.size⟩) (h.new (.cells cs true text)) { w with heap := w.heap.push (.cells ccs e (0, 0)) } ∧ Ext h.nx ρ (h.new (.cells cs true text)).nx (ρ.put h.nx ⟨w.heap.size, 0, ccs.size⟩) := by
  refine hR.push rfl ⟨ccs, e, (0, 0), rfl, by simp, by simpa using hle, fun i a hi => ?_, fun _ => .inl rfl, fun _ ht => ⟨rfl, hne ht, rfl⟩⟩
  obtain ⟨v, hv, r⟩ := hc i a hi
  exact ⟨v, by simpa using hv, r.mono (Pm.le_put (hR.fresh _ (Nat.le_refl _)))⟩

theorem VRs.cells {l : List AV} {m : List Value} (hl : VRs ρ l m) : ∀ (i : Nat) (a : AV), l[i]? = some a → ∃ v, m.toArray[i]? = some v ∧ VR ρ a v := fun i a hi => by
  obtain ⟨v, hv, r⟩ := hl.get hi
  exact ⟨v, by simpa using hv, r⟩

theorem oneA_sound {a : AV} {v : Value} (hv : VR ρ a v) (ho : oneA a = true) : v.oneCell' = true := by
  cases hv <;> first | rfl | simp [oneA] at ho

theorem run_storeCells' {b : Nat} : ∀ (vs : List Value) (o i : Nat) (w : World) (c : Array Value) (e : TypeId) (fr : Nat × Nat), w.heap[b]? = some (.cells c e fr) → o + i + vs.length ≤ c.size →
    (∀ v ∈ vs, v.oneCell' = true) → (∀ j, j < c.size → ¬ (fr.1 ≤ j ∧ j < fr.2)) →
    ∃ w' c', (storeCells ⟨b, o, none⟩ vs i).run P w = .ok () w' ∧ w'.heap[b]? = some (.cells c' e fr) ∧ c'.size = c.size ∧ (∀ j, c'[j]? = if o + i ≤ j ∧ j < o + i + vs.length then vs[j - (o + i)]? else c[j]?) ∧
      w'.os = w.os ∧ w'.tape = w.tape ∧ w'.output = w.output ∧ w'.heap.size = w.heap.size ∧ ∀ b', b' ≠ b → w'.heap[b']? = w.heap[b']? := by
  intro vs
  induction vs with
  | nil =>
    intro o i w c e fr hb _ _ _
    exact ⟨w, c, rfl, hb, rfl, fun j => by rw [if_neg (by simp only [List.length_nil]; omega)], rfl, rfl, rfl, rfl, fun _ _ => rfl⟩
  | cons v vs ih =>
    intro o i w c e fr hb hlen hone hfr
    simp only [List.length_cons] at hlen
    have hadd : (⟨b, o, none⟩ : Addr).add i = ⟨b, o + i, none⟩ := by
      unfold Addr.add
      by_cases h0 : i = 0
      · subst h0; rfl
      · simp [h0]
    have hlt : o + i < c.size := by omega
    have hcell : w.cell? ⟨b, o + i, none⟩ = some c[o + i] := by simp [World.cell?, hb, hlt]
    have hfz : w.frozen? ⟨b, o + i, none⟩ = false := by
      have := hfr (o + i) hlt
      simp only [World.frozen?, hb, Bool.and_eq_false_iff, decide_eq_false_iff_not]
      omega
    let w1 := w.setCell ⟨b, o + i, none⟩ v
    have hb1 : w1.heap[b]? = some (.cells (c.setIfInBounds (o + i) v) e fr) := by
      simp only [w1, World.setCell, Array.getElem?_modify, if_true, hb]
      simp
    obtain ⟨w', c', hrun, hb', hs', hget, h1, h2, h3, h4, h5⟩ := ih o (i + 1) w1 (c.setIfInBounds (o + i) v) e fr hb1 (by simp; omega) (fun u hu => hone u (List.mem_cons_of_mem _ hu)) (by simpa using hfr)
    refine ⟨w', c', ?_, hb', by simpa using hs', fun j => ?_, h1, h2, h3, by rw [h4]; simp [w1, World.setCell], fun b' hb2 => by rw [h5 b' hb2]; simp [w1, World.setCell, Array.getElem?_modify, Ne.symm hb2]⟩
    · simp only [storeCells, Sem.run_bind, hadd]
      rw [run_store P w _ v _ (hone v List.mem_cons_self), hcell]
      simp only [hfz, Bool.false_eq_true, if_false, Result.andThen_ok]
      exact hrun
    · rw [hget j]
      simp only [List.length_cons]
      by_cases e1 : j = o + i
      · subst e1
        rw [if_neg (by omega), if_pos (by omega)]
        simp [hlt]
      · by_cases e2 : o + (i + 1) ≤ j ∧ j < o + (i + 1) + vs.length
        · rw [if_pos e2, if_pos (by omega)]
          have : j - (o + i) = (j - (o + (i + 1))) + 1 := by omega
          rw [this, List.getElem?_cons_succ]
        · rw [if_neg e2, if_neg (by omega), Array.getElem?_setIfInBounds_ne (by omega)]

theorem putCells_get (cs : List AV) (off : Nat) (vs : List AV) (hle : off + vs.length ≤ cs.length) (j : Nat) :
    (putCells cs off vs)[j]? = if off ≤ j ∧ j < off + vs.length then vs[j - off]? else cs[j]? := by
  unfold putCells
  rw [List.append_assoc, List.getElem?_append]
  simp only [List.length_take]
  have hmin : min off cs.length = off := by omega
  rw [hmin]
  by_cases h1 : j < off
  · rw [if_pos h1, if_neg (by omega), List.getElem?_take, if_pos h1]
  · rw [if_neg h1, List.getElem?_append]
    by_cases h2 : j < off + vs.length
    · rw [if_pos (by omega), if_pos (by omega)]
    · rw [if_neg (by omega), if_neg (by omega), List.getElem?_drop]
      congr 1; omega

theorem putCells_length (cs : List AV) (off : Nat) (vs : List AV) (hle : off + vs.length ≤ cs.length) : (putCells cs off vs).length = cs.length := by
  unfold putCells; simp; omega

theorem Rel.storeCells (hR : Rel K ρ h w) {id off : Nat} {cs : List AV} {text : Bool} {p : Pl} {vs : List AV} {cvs : List Value} (hg : h.get id = some (.cells cs true text)) (hp : ρ id = some p)
    (hle : off + vs.length ≤ cs.length) (hvs : VRs ρ vs cvs) (hone : ∀ v ∈ cvs, v.oneCell' = true) :
    ∃ w', (Go.storeCells ⟨p.b, p.o + off, none⟩ cvs).run P w = .ok () w' ∧ Rel K ρ (h.put id (.cells (putCells cs off vs) true text)) w' := by
  obtain ⟨q, c, e, fr, hq, hb, hsz, hlim, hget, hfr, htx, hK⟩ := hR.cells hg
  rw [hp] at hq; cases hq
  simp only [if_true] at hsz
  have hlen := hvs.length
  obtain ⟨w', c', hrun, hb', hs', hget', h1, h2, h3, h4, h5⟩ := run_storeCells' (P := P) cvs (p.o + off) 0 w c e fr hb (by omega) hone (hfr rfl).not
  refine ⟨w', hrun, hR.change hg hp rfl rfl h1 h2 h3 h4 h5 ?_⟩
  refine ⟨c', e, fr, hb', by simp [hs', hsz], by rw [putCells_length _ _ _ hle]; exact hlim, fun i a hi => ?_, fun _ => by rw [hs']; exact hfr rfl, fun _ ht => by rw [hs']; exact htx rfl ht⟩
  rw [putCells_get _ _ _ hle] at hi
  rw [hget']
  by_cases e1 : off ≤ i ∧ i < off + vs.length
  · rw [if_pos e1] at hi
    rw [if_pos (by omega)]
    obtain ⟨v, hv, r⟩ := hvs.get hi
    exact ⟨v, by rw [show p.o + i - (p.o + off + 0) = i - off by omega]; exact hv, r⟩
  · rw [if_neg e1] at hi
    rw [if_neg (by omega)]
    exact hget i a hi

theorem evStore_sound {t : TypeId} {x v : AV} {cx cv : Value} {h' : AH} (hR : Rel K ρ h w) (hx : VR ρ x cx) (hv : VR ρ v cv) (hl : evStore P h t x v = some h') :
    ∃ w', (Instr.storeAt t cx cv).run P w = .ok () w' ∧ h.nx ≤ h'.nx ∧ Rel K ρ h' w' := by
  unfold evStore at hl
  split at hl
  · rename_i id off vs hvs
    cases hx with
    | ptr hp =>
    rename_i p
    split at hl
    · rename_i cs text hg
      split at hl
      · rename_i hcond
        simp only [Bool.and_eq_true, beq_iff_eq, decide_eq_true_eq, List.all_eq_true] at hcond
        obtain ⟨⟨hsz, hle⟩, hone⟩ := hcond
        cases hl
        have hcv := cellsA_sound hv hvs
        have hone' : ∀ u ∈ cv.cells.toList, u.oneCell' = true := fun u hu => by
          obtain ⟨i, hi, rfl⟩ := List.getElem_of_mem hu
          have hil : i < vs.length := by rw [hcv.length]; exact hi
          obtain ⟨u', hu', r⟩ := hcv.get (List.getElem?_eq_getElem hil)
          rw [List.getElem?_eq_getElem hi] at hu'
          cases hu'
          exact oneA_sound r (hone _ (List.getElem_mem hil))
        obtain ⟨w', hrun, hR'⟩ := hR.storeCells (P := P) hg hp hle hcv hone'
        refine ⟨w', ?_, Nat.le_refl _, hR'⟩
        have hsz' : cv.cells.size = vs.length := by rw [hcv.length]; simp
        simp only [Instr.storeAt, Instr.sureAddr, Sem.run_bind, Sem.run_pure, Result.andThen_ok, storeVar, run_sizeOf' hsz, hsz', ne_eq, not_true, if_false]
        exact hrun
      · simp at hl
    · simp at hl
  · simp at hl

end
end Go.Abs
end

section
namespace Go.Abs
open Go

section
variable {P : Program} {ρ : Pm} {w : World} {K : Kp} {h : AH}

theorem nbeq (a b : Nat) : Nat.beq a b = decide (a = b) := by
  by_cases e : a = b
  · subst e; simp
  · cases hh : Nat.beq a b with
    | false => simp [e]
    | true => exact absurd (Nat.eq_of_beq_eq_true hh) e

theorem eqL_eq : ∀ (x y : List Nat), eqL x y = decide (x = y)
  | [], [] => rfl
  | a :: x, b :: y => by
    simp only [eqL, nbeq, eqL_eq x y, List.cons.injEq]
    by_cases h1 : a = b <;> by_cases h2 : x = y <;> simp [h1, h2]
  | [], _ :: _ => by simp [eqL]
  | _ :: _, [] => by simp [eqL]

theorem eqL_bytes (x y : ByteArray) : eqL (bytesOf x) (bytesOf y) = (x.toList == y.toList) := by
  rw [eqL_eq, ByteArray.toList_eq, ByteArray.toList_eq]
  unfold bytesOf
  have : (x.data.toList.map UInt8.toNat = y.data.toList.map UInt8.toNat) ↔ x.data.toList = y.data.toList :=
    List.map_inj_right (fun a b hab => UInt8.toNat_inj.1 hab)
  rw [Bool.eq_iff_iff]
  simp [this]

theorem eqL_bytes' (x y : ByteArray) : eqL (bytesOf x) (bytesOf y) = (x == y) := by rw [eqL_bytes, beq_toListBytes]

theorem lessA_map : ∀ (x y : List UInt8), lessA (x.map UInt8.toNat) (y.map UInt8.toNat) = Op.bytesLess x y
  | _, [] => by simp [lessA, Op.bytesLess]
  | [], _ :: _ => by simp [lessA, Op.bytesLess]
  | a :: x, b :: y => by
    simp only [List.map_cons, lessA, Op.bytesLess, lessA_map x y, nbeq]
    have h1 : Nat.blt a.toNat b.toNat = decide (a < b) := by
      rw [Bool.eq_iff_iff]; simp [Nat.blt_eq, UInt8.lt_iff_toNat_lt]
    have h2 : decide (a.toNat = b.toNat) = (a == b) := by
      rw [Bool.eq_iff_iff]; simp [UInt8.toNat_inj]
    rw [h1, h2]

theorem lessA_bytes (x y : ByteArray) : lessA (bytesOf x) (bytesOf y) = Op.bytesLess x.toList y.toList := by
  rw [ByteArray.toList_eq, ByteArray.toList_eq]; exact lessA_map _ _

theorem bytesOf_length (s : ByteArray) : (bytesOf s).length = s.size := by simp [bytesOf]
theorem bytesOf_append (x y : ByteArray) : bytesOf (x ++ y) = bytesOf x ++ bytesOf y := by
  simp [bytesOf]
theorem bytesOf_extract (s : ByteArray) (a b : Nat) : bytesOf (s.extract a b) = ((bytesOf s).drop a).take (b - a) := by
  simp [bytesOf, List.map_drop, List.map_take]

theorem intA_sound {op : BinOp} {k : IntKind} {x y : Int} {a : AV} (ha : intA op k x y = some a) :
    ∃ cv, (match op with
      | .add | .sub | .mul => Op.intArith op k x y
      | .quo | .rem => Op.intDiv op k x y
      | .and | .or | .xor | .andNot => Op.intBits op k x y
      | _ => Op.intCmp op x y).run P w = .ok cv w ∧ VR ρ a cv := by
  cases op <;> simp only [intA, Option.some.injEq, reduceCtorEq] at ha
  all_goals first
    | (subst ha; refine ⟨_, rfl, by constructor⟩)
    | (split at ha
       · simp at ha
       · rename_i hy
         simp only [Option.some.injEq] at ha
         subst ha
         refine ⟨_, by simp only [Op.intDiv, if_neg hy]; rfl, by constructor⟩)

theorem shiftA_sound {op : BinOp} {k : IntKind} {x y : Int} {a : AV} (ha : shiftA op k x y = some a) :
    ∃ cv, (∀ yk, (Op.shift op k x yk y).run P w = .ok cv w) ∧ VR ρ a cv := by
  unfold shiftA at ha
  split at ha
  · simp at ha
  · rename_i hy
    unfold Op.shift
    simp only [if_neg hy]
    cases op <;> simp only [Option.some.injEq, reduceCtorEq] at ha
    · subst ha; exact ⟨_, fun _ => rfl, by constructor⟩
    · subst ha; exact ⟨_, fun _ => rfl, by constructor⟩

theorem strA_sound {op : BinOp} {x y : ByteArray} {a : AV} (ha : strA op (bytesOf x) (bytesOf y) = some a) :
    ∃ cv, (Op.stringOp op x y).run P w = .ok cv w ∧ VR ρ a cv := by
  unfold strA at ha
  unfold Op.stringOp
  simp only [bytesOf_length, eqL_bytes, lessA_bytes, ← bytesOf_append] at ha
  cases op <;> simp only [Option.some.injEq, reduceCtorEq] at ha
  all_goals first
    | (subst ha; exact ⟨_, rfl, by constructor⟩)
    | (split at ha
       · simp at ha
       · rename_i hc
         simp only [Option.some.injEq] at ha
         subst ha
         exact ⟨_, by simp only [if_neg hc]; rfl, .str _⟩)

/-! ### Equality -/
theorem plain_cells {id : Nat} (hp : plainBlock h id = true) : ∃ cs, h.get id = some (.cells cs true false) := by
  unfold plainBlock at hp
  split at hp
  · rename_i cs hg; exact ⟨cs, hg⟩
  · simp at hp

theorem sameAddr_apart {a b : Addr} {ca cb : Array Value} {ea eb : TypeId} (ha : w.heap[a.block]? = some (.cells ca ea (0, 0))) (hb : w.heap[b.block]? = some (.cells cb eb (0, 0)))
    (hab : a.block ≠ b.block) : (sameAddr a b).run P w = .ok false w := by
  have fa : ∀ o s, w.frozen? ⟨a.block, o, s⟩ = false := fun o s => by simp [World.frozen?, ha]
  have fb : ∀ o s, w.frozen? ⟨b.block, o, s⟩ = false := fun o s => by simp [World.frozen?, hb]
  have fa' : w.frozen? a = false := fa _ _
  have fb' : w.frozen? b = false := fb _ _
  have sa : w.shape? a.block = some (ea, ca.size) := by simp [World.shape?, ha]
  have sb : w.shape? b.block = some (eb, cb.size) := by simp [World.shape?, hb]
  have hne : (a.block == b.block) = false := by simpa using hab
  simp [sameAddr, hne, fa', fb', noView, viewAt, sa, sb, mayBeOne, stringish, fa, fb]

theorem eqFs_sound {d : Nat} {D : Nat} {xs ys : List AV} {cxs cys : Array Value} (hxs : VRs ρ xs cxs.toList) (hys : VRs ρ ys cys.toList)
    (ih : ∀ (t : TypeId) (x y : AV) (cx cy : Value) (b : Bool), VR ρ x cx → VR ρ y cy → eqA P h d t x y = some b → (Op.equalIn D t cx cy).run P w = .ok b w) :
    ∀ (l : List Field) (b : Bool), eqFs P (eqA P h d) xs ys l = some b → (Op.eqFields D cxs cys l).run P w = .ok b w
  | [], b, he => by simp [eqFs] at he; subst he; rfl
  | f :: r, b, he => by
    simp only [eqFs] at he
    by_cases hn : f.name = "_"
    · rw [if_pos hn] at he
      simp only [Op.eqFields, ne_eq, hn, not_true, if_false]
      exact eqFs_sound hxs hys ih r b he
    · rw [if_neg hn] at he
      simp only [Op.eqFields, ne_eq, hn, not_false_iff, if_true]
      cases ha : partA P f.type xs f.offset with
      | none => simp [ha] at he
      | some a =>
        cases hb : partA P f.type ys f.offset with
        | none => simp [ha, hb] at he
        | some a' =>
          cases hq : eqA P h d f.type a a' with
          | none => simp [ha, hb, hq] at he
          | some e =>
            simp only [ha, hb, hq, Option.bind_eq_bind, Option.bind_some] at he
            obtain ⟨ca, r1, v1⟩ := partA_sound (P := P) (w := w) hxs ha
            obtain ⟨cb, r2, v2⟩ := partA_sound (P := P) (w := w) hys hb
            have r3 := ih _ _ _ _ _ _ v1 v2 hq
            simp only [Sem.run_bind, r1, r2, r3, Result.andThen_ok]
            cases e with
            | false => simp at he; subst he; rfl
            | true =>
              simp only [if_true] at he
              simp only [Bool.not_true, Bool.false_eq_true, if_false]
              exact eqFs_sound hxs hys ih r b he

theorem eqA_sound (hR : Rel K ρ h w) : ∀ (d D : Nat) (t : TypeId) (x y : AV) (cx cy : Value) (b : Bool), d ≤ D → VR ρ x cx → VR ρ y cy → eqA P h d t x y = some b →
    (Op.equalIn D t cx cy).run P w = .ok b w := by
  intro d
  induction d with
  | zero => intro D t x y cx cy b _ _ _ he; simp [eqA] at he
  | succ d ih =>
    intro D t x y cx cy b hD hx hy he
    obtain ⟨D, rfl⟩ : ∃ D', D = D' + 1 := ⟨D - 1, by omega⟩
    unfold eqA at he
    split at he <;> (first | (cases he; done) | skip) <;> (try (cases hx; cases hy)) <;> (try simp only [Option.some.injEq] at he)
    all_goals (first | (subst he; simp [Op.equalIn, run_underlying' ‹P.underlying t = some _›]; done) | skip)
    · -- integers
      split at he
      · rename_i hk
        simp only [Option.some.injEq] at he
        subst he
        simp [Op.equalIn, run_underlying' ‹P.underlying t = some _›, hk]
      · simp at he
    · subst he
      simp only [Op.equalIn, run_underlying' ‹P.underlying t = some _›, Sem.run_bind, Result.andThen_ok, Sem.run_pure, eqL_bytes']
    · -- pointers
      rename_i e i a j b' hd p hp q hq
      split at he
      · simp at he
      · rename_i hsz
        simp only [Bool.or_eq_true, not_or, Bool.not_eq_true, Option.isNone_eq_false_iff, beq_eq_false_iff_ne, ne_eq] at hsz
        obtain ⟨hi, hz⟩ := hsz
        have hs : ∃ n, tsize P e = some n ∧ n ≠ 0 := by
          unfold tsize at hz ⊢
          cases hinfo : P.info? e with
          | none => simp [hinfo] at hi
          | some i => simp [hinfo] at hz ⊢; exact hz
        obtain ⟨n, hn, hn0⟩ := hs
        split at he
        · rename_i hij
          subst hij
          rw [hp] at hq; cases hq
          simp only [Option.some.injEq, nbeq] at he
          subst he
          have hb : ((⟨p.b, p.o + a, none⟩ : Addr) == ⟨p.b, p.o + b', none⟩) = decide (a = b') := by
            rw [Bool.eq_iff_iff]; simp
          simp [Op.equalIn, run_underlying' hd, run_sizeOf' hn, hn0, sameAddr, hb]
        · rename_i hij
          split at he
          · rename_i hpl
            simp only [Bool.and_eq_true] at hpl
            simp only [Option.some.injEq] at he
            subst he
            obtain ⟨c1, g1⟩ := plain_cells hpl.1
            obtain ⟨c2, g2⟩ := plain_cells hpl.2
            obtain ⟨p1, cc1, e1, f1, hp1, hb1, _, _, _, _, t1, _⟩ := hR.cells g1
            obtain ⟨p2, cc2, e2, f2, hp2, hb2, _, _, _, _, t2, _⟩ := hR.cells g2
            rw [hp] at hp1; cases hp1
            rw [hq] at hp2; cases hp2
            have hne : p.b ≠ q.b := fun eb => hij (hR.inj i j _ _ p q g1 g2 rfl rfl hp hq eb)
            rw [(t1 rfl rfl).1] at hb1
            rw [(t2 rfl rfl).1] at hb2
            have := sameAddr_apart (P := P) (a := ⟨p.b, p.o + a, none⟩) (b := ⟨q.b, q.o + b', none⟩) hb1 hb2 hne
            simp only [Op.equalIn, run_underlying' hd, run_sizeOf' hn, Sem.run_bind, Result.andThen_ok, ne_eq, hn0, not_false_iff, if_true]
            exact this
          · simp at he
    · -- structs
      rename_i fs xs ys hd cxs hxs cys hys
      split at he
      · simp at he
      · rename_i hst
        have hf : P.fieldsOf t = fs := by unfold Program.fieldsOf; rw [hd]
        have hd' : P.underlying t = some (.struct (P.fieldsOf t)) := by rw [hf, hd]
        rw [run_equalIn_struct w D t _ _ hd' (by simpa using hst), hf]
        exact eqFs_sound hxs hys (fun t x y cx cy b hx hy he => ih D t x y cx cy b (by omega) hx hy he) _ _ he
    · -- arrays
      rename_i n e xs ys hd cxs hxs cys hys
      cases hsz : tsize P e with
      | none => simp [hsz] at he
      | some sz =>
        simp only [hsz, Option.bind_eq_bind, Option.bind_some] at he
        simp only [Op.equalIn, Sem.run_bind, run_underlying' hd, run_sizeOf' hsz, Result.andThen_ok, Std.Legacy.Range.forIn_eq_forIn_range', Std.Legacy.Range.size, Nat.sub_zero, Nat.add_sub_cancel, Nat.div_one]
        have key : ∀ (n i : Nat) (b : Bool), eqEs P (eqA P h d) e sz xs ys n i = some b →
            (forIn (m := Sem) (List.range' i n) ((none, ()) : Option Bool × Unit) fun i _ => do
              let a ← part e cxs (i * sz)
              let b ← part e cys (i * sz)
              let r ← Op.equalIn D e a b
              if (!r) = true then pure (ForInStep.done (some false, ())) else pure (ForInStep.yield (none, ()))).run P w = .ok (if b then none else some false, ()) w := by
          intro n
          induction n with
          | zero => intro i b he; simp [eqEs] at he; subst he; simp
          | succ n ihn =>
            intro i b he
            simp only [eqEs] at he
            cases ha : partA P e xs (i * sz) with
            | none => simp [ha] at he
            | some a =>
              cases hb : partA P e ys (i * sz) with
              | none => simp [ha, hb] at he
              | some a' =>
                cases hq : eqA P h d e a a' with
                | none => simp [ha, hb, hq] at he
                | some q =>
                  simp only [ha, hb, hq, Option.bind_eq_bind, Option.bind_some] at he
                  obtain ⟨ca, r1, v1⟩ := partA_sound (P := P) (w := w) hxs ha
                  obtain ⟨cb, r2, v2⟩ := partA_sound (P := P) (w := w) hys hb
                  have r3 := ih D _ _ _ _ _ _ (by omega) v1 v2 hq
                  rw [List.range'_succ, List.forIn_cons]
                  simp only [Sem.run_bind, r1, r2, r3, Result.andThen_ok]
                  cases q with
                  | false => simp at he; subst he; simp
                  | true =>
                    simp only [if_true] at he
                    simp only [Bool.not_true, Bool.false_eq_true, if_false, Sem.run_pure, Result.andThen_ok]
                    exact ihn (i + 1) b he
        rw [key n 0 b he]
        cases b <;> rfl

theorem eqGuard_none {op : BinOp} {t : TypeId} {cx cy : Value} {ox oy : Operand} (h1 : ¬ (cx = .nilIface ∧ cy = .nilIface)) (h2 : ¬ ∃ a b, cx = .agg a ∧ cy = .agg b) :
    (eqGuard op t ox oy cx cy).run P w = .ok () w := by
  have key : ∀ (op : BinOp), op = .eql ∨ op = .neq → (eqGuard op t ox oy cx cy).run P w = .ok () w := by
    intro op ho
    rcases ho with rfl | rfl
    all_goals
      cases cx <;> cases cy <;> first
        | rfl
        | exact absurd ⟨rfl, rfl⟩ h1
        | exact absurd ⟨_, _, rfl, rfl⟩ h2
  cases op <;> first | rfl | exact key _ (.inl rfl) | exact key _ (.inr rfl)

theorem eqGuard_other {op : BinOp} {t : TypeId} {cx cy : Value} {ox oy : Operand} (h1 : cx ≠ .nilIface) (h2 : ∀ a, cx ≠ .agg a) : (eqGuard op t ox oy cx cy).run P w = .ok () w :=
  eqGuard_none (fun hh => h1 hh.1) (fun ⟨a, _, ha, _⟩ => h2 a ha)

theorem eqOk_sound {op : BinOp} {t : TypeId} {x y : AV} {cx cy : Value} {ox oy : Operand} (hx : VR ρ x cx) (hy : VR ρ y cy) (ho : eqOk P t x y = true) :
    (eqGuard op t ox oy cx cy).run P w = .ok () w := by
  by_cases hag : (∃ a b, cx = .agg a ∧ cy = .agg b)
  · obtain ⟨a, b, rfl, rfl⟩ := hag
    refine run_eqGuard_agg w op t ox oy a b ?_
    cases hx <;> cases hy <;> simp [eqOk] at ho
    exact ho
  · by_cases hni : cx = .nilIface ∧ cy = .nilIface
    · obtain ⟨rfl, rfl⟩ := hni
      cases hx <;> cases hy <;> simp [eqOk] at ho
    · exact eqGuard_none hni hag

theorem binOp_eql {t : TypeId} {cx cy : Value} (h1 : ∀ k n k' m, cx = .int k n → cy = .int k' m → False) (h2 : ∀ a b, cx = .string a → cy = .string b → False)
    (h3 : ∀ k b k' c, cx = .float k b → cy = .float k' c → False) (h4 : ∀ k a b k' c d, cx = .complex k a b → cy = .complex k' c d → False) :
    binOp .eql t cx cy = (do pure (.bool (← Op.equal t cx cy)) : Sem Value) ∧ binOp .neq t cx cy = (do pure (.bool (!(← Op.equal t cx cy))) : Sem Value) := by
  cases cx <;> cases cy <;> first
    | exact ⟨rfl, rfl⟩
    | exact (h1 _ _ _ _ rfl rfl).elim
    | exact (h2 _ _ rfl rfl).elim
    | exact (h3 _ _ _ _ rfl rfl).elim
    | exact (h4 _ _ _ _ _ _ rfl rfl).elim

theorem eqOk_junk {t : TypeId} {x y : AV} (ho : eqOk P t x y = true) : x ≠ .junk ∧ y ≠ .junk := by
  refine ⟨?_, ?_⟩
  · rintro rfl; cases y <;> simp [eqOk] at ho
  · rintro rfl; cases x <;> simp [eqOk] at ho

theorem eql_facts {t : TypeId} {x y : AV} {cx cy : Value} (hx : VR ρ x cx) (hy : VR ρ y cy) (ho : eqOk P t x y = true)
    (h1 : ∀ (k : IntKind) (n : Int) (k' : IntKind) (m : Int), x = .int k n → y = .int k' m → False) (h2 : ∀ (a b : List Nat), x = .str a → y = .str b → False) :
    binOp .eql t cx cy = (do pure (.bool (← Op.equal t cx cy)) : Sem Value) ∧ binOp .neq t cx cy = (do pure (.bool (!(← Op.equal t cx cy))) : Sem Value) := by
  obtain ⟨j1, j2⟩ := eqOk_junk ho
  refine binOp_eql ?_ ?_ ?_ ?_
  · rintro k n k' m rfl rfl
    cases hx <;> cases hy <;> first | exact j1 rfl | exact j2 rfl | exact h1 _ _ _ _ rfl rfl
  · rintro a b rfl rfl
    cases hx <;> cases hy <;> first | exact j1 rfl | exact j2 rfl | exact h2 _ _ rfl rfl
  · rintro k n k' m rfl rfl
    cases hx; exact j1 rfl
  · rintro k n a k' m b rfl rfl
    cases hx; exact j1 rfl

theorem binA_sound (hR : Rel K ρ h w) {op : BinOp} {t : TypeId} {x y a : AV} {cx cy : Value} {ox oy : Operand} (hx : VR ρ x cx) (hy : VR ρ y cy) (hb : binA P h op t x y = some a) :
    ∃ cv, (do eqGuard op t ox oy cx cy; binOp op t cx cy : Sem Value).run P w = .ok cv w ∧ VR ρ a cv := by
  unfold binA at hb
  split at hb
  · -- shl
    cases hx; cases hy
    obtain ⟨cv, r, v⟩ := shiftA_sound (P := P) (w := w) (ρ := ρ) hb
    refine ⟨cv, ?_, v⟩
    rw [Sem.run_bind, eqGuard_other (by simp) (by simp)]
    simp only [Result.andThen_ok, binOp]
    exact r _
  · cases hx; cases hy
    obtain ⟨cv, r, v⟩ := shiftA_sound (P := P) (w := w) (ρ := ρ) hb
    refine ⟨cv, ?_, v⟩
    rw [Sem.run_bind, eqGuard_other (by simp) (by simp)]
    simp only [Result.andThen_ok, binOp]
    exact r _
  · -- integers
    cases hx; cases hy
    rename_i k n k' m hs1 hs2
    split at hb
    · rename_i hk
      subst hk
      obtain ⟨cv, r, v⟩ := intA_sound (P := P) (w := w) (ρ := ρ) hb
      refine ⟨cv, ?_, v⟩
      rw [Sem.run_bind, eqGuard_other (by simp) (by simp)]
      cases op <;> first | (simp only [Result.andThen_ok, binOp, ne_eq, not_true, if_false]; exact r) | simp [intA] at hb
    · simp at hb
  · cases hx; cases hy
    obtain ⟨cv, r, v⟩ := strA_sound (P := P) (w := w) (ρ := ρ) hb
    refine ⟨cv, ?_, v⟩
    rw [Sem.run_bind, eqGuard_other (by simp) (by simp)]
    cases op <;> first | (simp only [Result.andThen_ok, binOp]; exact r) | exact r | simp [strA] at hb
  · -- eql
    rename_i hni hns
    split at hb
    · rename_i hok
      cases he : eqA P h 12 t x y with
      | none => simp [he] at hb
      | some e =>
        simp only [he, Option.map_some, Option.some.injEq] at hb
        subst hb
        have r := eqA_sound hR 12 10000 t x y cx cy e (by omega) hx hy he
        refine ⟨.bool e, ?_, .bool e⟩
        rw [Sem.run_bind, eqOk_sound hx hy hok]
        simp only [Result.andThen_ok]
        rw [(eql_facts hx hy hok (fun k n k' m h1 h2 => hni k n k' m h1 h2) (fun a b h1 h2 => hns a b h1 h2)).1]
        simp only [Op.equal, Op.maxDepth, Sem.run_bind, r, Result.andThen_ok, Sem.run_pure]
    · simp at hb
  · -- neq
    rename_i hni hns
    split at hb
    · rename_i hok
      cases he : eqA P h 12 t x y with
      | none => simp [he] at hb
      | some e =>
        simp only [he, Option.map_some, Option.some.injEq] at hb
        subst hb
        have r := eqA_sound hR 12 10000 t x y cx cy e (by omega) hx hy he
        refine ⟨.bool !e, ?_, .bool _⟩
        rw [Sem.run_bind, eqOk_sound hx hy hok]
        simp only [Result.andThen_ok]
        rw [(eql_facts hx hy hok (fun k n k' m h1 h2 => hni k n k' m h1 h2) (fun a b h1 h2 => hns a b h1 h2)).2]
        simp only [Op.equal, Op.maxDepth, Sem.run_bind, r, Result.andThen_ok, Sem.run_pure]
    · simp at hb
  · simp at hb

theorem unA_sound {op : UnOp} {x a : AV} {cx : Value} (hx : VR ρ x cx) (hb : unA op x = some a) : ∃ cv, (Op.unary op cx).run P w = .ok cv w ∧ VR ρ a cv := by
  unfold unA at hb
  split at hb <;> (try cases hx) <;> simp only [Option.some.injEq, reduceCtorEq] at hb <;> subst hb
  · exact ⟨_, rfl, .int _ _⟩
  · exact ⟨_, rfl, .int _ _⟩
  · exact ⟨_, rfl, .bool _⟩

end
end Go.Abs
end

section
namespace Go.Abs
open Go

section
variable {P : Program} {ρ : Pm} {w : World} {K : Kp} {h : AH}

theorem foldl_set (vs : List Value) : ∀ (cs : Array Value) (off k : Nat), off + k + vs.length ≤ cs.size →
    ((vs.zipIdx k).foldl (fun cs (x : Value × Nat) => cs.setIfInBounds (off + x.2) x.1) cs).toList = cs.toList.take (off + k) ++ vs ++ cs.toList.drop (off + k + vs.length) := by
  induction vs with
  | nil => intro cs off k _; simp
  | cons v vs ih =>
    intro cs off k hle
    simp only [List.length_cons] at hle
    simp only [List.zipIdx_cons, List.foldl_cons]
    rw [ih _ off (k + 1) (by simp; omega)]
    simp only [Array.toList_setIfInBounds, List.length_cons]
    have e1 : (cs.toList.set (off + k) v).take (off + (k + 1)) = cs.toList.take (off + k) ++ [v] := by
      rw [show off + (k + 1) = off + k + 1 by omega, List.take_succ_eq_append_getElem (by simp; omega)]
      simp [List.take_set_of_le]
    have e2 : (cs.toList.set (off + k) v).drop (off + (k + 1) + vs.length) = cs.toList.drop (off + k + (vs.length + 1)) := by
      rw [List.drop_set_of_lt (by omega)]
      congr 1; omega
    rw [e1, e2]
    simp

theorem VRs.put {cs vs : List AV} {m n : List Value} (hcs : VRs ρ cs m) (hvs : VRs ρ vs n) (off : Nat) : VRs ρ (putCells cs off vs) (m.take off ++ n ++ m.drop (off + n.length)) := by
  unfold putCells
  rw [hvs.length]
  exact ((hcs.take off).append hvs).append (hcs.drop _)

theorem fillA_sound {place : Nat → Option (Nat × Nat)} : ∀ (parts : List (Nat × AV)) (cparts : List (Nat × Value)) (cells out : List AV) (ccells : Array Value),
    parts.map (·.1) = cparts.map (·.1) → VRs ρ (parts.map (·.2)) (cparts.map (·.2)) → VRs ρ cells ccells.toList → fillA place cells parts = some out →
    ∃ cout, Instr.fill place ccells cparts = some cout ∧ VRs ρ out cout.toList := by
  intro parts
  induction parts with
  | nil =>
    intro cparts cells out ccells hi _ hc hf
    cases cparts with
    | nil => simp [fillA] at hf; subst hf; exact ⟨ccells, rfl, hc⟩
    | cons _ _ => simp at hi
  | cons pa parts ih =>
    intro cparts cells out ccells hi hv hc hf
    cases cparts with
    | nil => simp at hi
    | cons cpa cparts =>
      obtain ⟨i, v⟩ := pa
      obtain ⟨ci, cv⟩ := cpa
      simp only [List.map_cons, List.cons.injEq] at hi
      obtain ⟨rfl, hi⟩ := hi
      simp only [List.map_cons] at hv
      cases hv with
      | cons hv hvs =>
      simp only [fillA] at hf
      cases hp : place i with
      | none => simp [hp] at hf
      | some os =>
        obtain ⟨off, size⟩ := os
        cases hcl : cellsA v with
        | none => simp [hp, hcl] at hf
        | some vs =>
          simp only [hp, hcl, Option.bind_eq_bind, Option.bind_some] at hf
          split at hf
          · rename_i hcond
            simp only [Bool.and_eq_true, decide_eq_true_eq] at hcond
            have hcv := cellsA_sound hv hcl
            have hl := hcv.length
            have hcl' := hc.length
            have hsz : cv.cells.size = size := by rw [← hcond.1, hl]; simp
            have hfill := foldl_set cv.cells.toList ccells off 0 (by simp at hcl' hl ⊢; omega)
            obtain ⟨cout, h1, h2⟩ := ih cparts (putCells cells off vs) out ((cv.cells.toList.zipIdx 0).foldl (fun cs (x : Value × Nat) => cs.setIfInBounds (off + x.2) x.1) ccells) hi hvs
              (by rw [hfill, Nat.add_zero]; exact hc.put hcv off) hf
            refine ⟨cout, ?_, h2⟩
            simp only [Instr.fill, hp, hsz, ne_eq, not_true]
            rw [if_neg (by simp at hcl'; simp; omega)]
            rw [← h1]
            congr 1
            rw [← Array.foldl_toList, Array.toList_zipIdx]
          · simp at hf

theorem fieldsA_sound : ∀ (fs : List Field) (l : List (Nat × Nat)), fieldsA P fs = some l → (fs.mapM (m := Sem) fun f => do pure (f.offset, ← sizeOf f.type)).run P w = .ok l w
  | [], l, he => by simp [fieldsA] at he; subst he; rfl
  | f :: fs, l, he => by
    simp only [fieldsA, List.mapM_cons] at he
    cases hs : tsize P f.type with
    | none => simp [hs] at he
    | some n =>
      cases hr : fieldsA P fs with
      | none =>
        have hr' : (fs.mapM fun f => (tsize P f.type).map fun n => (f.offset, n)) = none := hr
        simp [hs, hr'] at he
      | some r =>
        have hr' : (fs.mapM fun f => (tsize P f.type).map fun n => (f.offset, n)) = some r := hr
        simp only [hs, hr', Option.map_some, Option.bind_eq_bind, Option.bind_some, Option.pure_def, Option.some.injEq] at he
        subst he
        have ih := fieldsA_sound fs r hr
        simp only [List.mapM_cons, Sem.run_bind, run_sizeOf' hs, Result.andThen_ok, Sem.run_pure]
        rw [ih]
        rfl

theorem zero_cells {z : Value} {zc : List AV} (hc : cellsA (toAV z) = some zc) : VRs ρ zc z.cells.toList := cellsA_sound (toAV_sound z) hc

theorem evBuild_sound {t : TypeId} {parts : List (Nat × AV)} {cparts : Array (Nat × Value)} {a : AV} (hi : parts.map (·.1) = cparts.toList.map (·.1)) (hv : VRs ρ (parts.map (·.2)) (cparts.toList.map (·.2)))
    (hb : evBuild P t parts = some a) : ∃ cv, (Instr.build t cparts).run P w = .ok cv w ∧ VR ρ a cv := by
  unfold evBuild at hb
  cases hz : tzero P t with
  | none => simp [hz] at hb
  | some z =>
    cases hzc : cellsA (toAV z) with
    | none => simp [hz, hzc] at hb
    | some zc =>
      simp only [hz, hzc, Option.bind_eq_bind, Option.bind_some] at hb
      have hzr := zero_cells (ρ := ρ) hzc
      unfold Instr.build
      rw [Sem.run_bind, run_zeroValue' hz]
      simp only [Result.andThen_ok]
      split at hb
      · rename_i fs hd
        cases hf : fieldsA P fs.toList with
        | none => simp [hf] at hb
        | some places =>
          simp only [hf, Option.bind_some] at hb
          cases hfill : fillA (fun x => places[x]?) zc parts with
          | none => simp [hfill] at hb
          | some out =>
            simp only [hfill, Option.bind_some, Option.some.injEq] at hb
            subst hb
            obtain ⟨cout, h1, h2⟩ := fillA_sound parts cparts.toList zc out z.cells hi hv hzr hfill
            have hm := fieldsA_sound (w := w) fs.toList places hf
            refine ⟨.agg cout, ?_, .agg h2⟩
            rw [Sem.run_bind, run_underlying' hd]
            simp only [Result.andThen_ok, Sem.run_bind]
            have hm' : (Array.mapM (m := Sem) (fun f : Field => do pure (f.offset, ← sizeOf f.type)) fs).run P w = .ok places.toArray w := by
              rw [Array.mapM_eq_mapM_toList, Sem.run_map, hm]; rfl
            rw [hm']
            simp only [Result.andThen_ok]
            have : (fun x : Nat => places.toArray[x]?) = fun x : Nat => places[x]? := by funext x; simp
            rw [this, h1]
            rfl
      · rename_i n e hd
        cases hs : tsize P e with
        | none => simp [hs] at hb
        | some sz =>
          simp only [hs, Option.bind_some] at hb
          cases hfill : fillA (fun i => some (i * sz, sz)) zc parts with
          | none => simp [hfill] at hb
          | some out =>
            simp only [hfill, Option.bind_some, Option.some.injEq] at hb
            subst hb
            obtain ⟨cout, h1, h2⟩ := fillA_sound parts cparts.toList zc out z.cells hi hv hzr hfill
            refine ⟨.agg cout, ?_, .agg h2⟩
            rw [Sem.run_bind, run_underlying' hd]
            simp only [Result.andThen_ok, Sem.run_bind, run_sizeOf' hs, h1, Sem.run_pure]
      · simp at hb

theorem repCells_length (zc : List AV) (n : Nat) : (repCells zc n).length = n * zc.length := by
  induction n with
  | zero => simp [repCells]
  | succ n ih => simp [repCells, ih, Nat.succ_mul]; omega

theorem VRs.rep {zc : List AV} {z : Array Value} (hz : VRs ρ zc z.toList) : ∀ n, VRs ρ (repCells zc n) ((Array.range (n * z.size)).map fun i => z[i % z.size]!).toList := by
  intro n
  have hl : zc.length = z.size := by rw [hz.length]; simp
  refine VRs.of_get (by simp [repCells_length, hl]) fun i a v h1 h2 => ?_
  simp only [Array.toList_map, Array.toList_range, List.getElem?_map] at h2
  have hi : i < n * z.size := by
    have := (List.getElem?_eq_some_iff.1 h1).1
    rwa [repCells_length, hl] at this
  rw [List.getElem?_range hi] at h2
  simp only [Option.map_some, Option.some.injEq] at h2
  have hzpos : 0 < z.size := by
    rcases Nat.eq_zero_or_pos z.size with h0 | h0
    · rw [h0] at hi; omega
    · exact h0
  have key : ∀ n i, i < n * zc.length → (repCells zc n)[i]? = zc[i % zc.length]? := by
    intro n
    induction n with
    | zero => intro i hi; omega
    | succ n ih =>
      intro i hi
      simp only [repCells]
      by_cases hlt : i < zc.length
      · rw [List.getElem?_append_left hlt, Nat.mod_eq_of_lt hlt]
      · rw [List.getElem?_append_right (by omega), ih (i - zc.length) (by rw [Nat.succ_mul] at hi; omega)]
        have : i % zc.length = (i - zc.length) % zc.length := Nat.mod_eq_sub_mod (by omega)
        rw [this]
  rw [key n i (by rw [hl]; exact hi), hl] at h1
  have hmod : i % z.size < z.size := Nat.mod_lt _ hzpos
  obtain ⟨u, hu, r⟩ := hz.get h1
  have : z[i % z.size]! = u := by
    rw [getElem!_pos z (i % z.size) hmod]
    have h3 : z[i % z.size]? = some u := by simpa using hu
    rw [Array.getElem?_eq_getElem hmod] at h3
    exact Option.some.inj h3
  rw [this] at h2
  subst h2
  exact r

theorem VRs.toCells {l : List AV} {m : Array Value} (hl : VRs ρ l m.toList) : ∀ (i : Nat) (a : AV), l[i]? = some a → ∃ v, m[i]? = some v ∧ VR ρ a v := fun i a hi => by
  obtain ⟨v, hv, r⟩ := hl.get hi
  exact ⟨v, by simpa using hv, r⟩

theorem newSlice {cs : List AV} {ccs : Array Value} {e : TypeId} {len cap sz : Nat} {c : Option Nat} {text : Bool} (hR : Rel K ρ h w) (hc : ∀ (i : Nat) (a : AV), cs[i]? = some a → ∃ v, ccs[i]? = some v ∧ VR ρ a v) (hle : cs.length ≤ ccs.size)
    (hne : text = false → 0 < ccs.size) (hl : len ≤ cap) (hx : cap * sz ≤ ccs.size) (hcap : ∀ n, c = some n → cap = n) :
    ∃ ρ', Ext h.nx ρ (h.new (.cells cs true text)).nx ρ' ∧ VR ρ' (.sl h.nx 0 len sz c) (.slice (some ⟨w.heap.size, 0, none⟩) len cap) ∧ Rel K ρ' (h.new (.cells cs true text)) { w with heap := w.heap.push (.cells ccs e (0, 0)) } := by
  obtain ⟨h1, h2⟩ := hR.newCells (e := e) hc hle hne
  exact ⟨_, h2, .sl (Pm.put_self _ _ _) hl (.inr rfl) (.inr (by simpa using hx)) hcap, h1⟩

def AllocOk (P : Program) (ρ : Pm) (s : Sem Value) (ob : AO) (mk : Nat → AV) : Prop :=
  ob.own = true ∧ ∀ w : World, ∃ co lim cv, s.run P w = .ok cv { w with heap := w.heap.push co } ∧
    ∀ (ρ' : Pm) (id : Nat), ρ.le ρ' → ρ' id = some ⟨w.heap.size, 0, lim⟩ → OR ρ' ⟨w.heap.size, 0, lim⟩ ob (some co) ∧ VR ρ' (mk id) cv

theorem newOR {cs : List AV} {ccs : Array Value} {e : TypeId} {text : Bool} {b : Nat} {ρ' : Pm} (hle' : ρ.le ρ') (hc : ∀ (i : Nat) (a : AV), cs[i]? = some a → ∃ v, ccs[i]? = some v ∧ VR ρ a v) (hle : cs.length ≤ ccs.size)
    (hne : text = false → 0 < ccs.size) : OR ρ' ⟨b, 0, ccs.size⟩ (.cells cs true text) (some (.cells ccs e (0, 0))) :=
  ⟨ccs, e, (0, 0), rfl, by simp, by simpa using hle, fun i a hi => let ⟨v, hv, r⟩ := hc i a hi; ⟨v, by simpa using hv, r.mono hle'⟩, fun _ => .inl rfl, fun _ ht => ⟨rfl, hne ht, rfl⟩⟩

theorem bsA_sound {t : TypeId} {len : Nat} {parts : List (Nat × AV)} {cparts : Array (Nat × Value)} {ob : AO} {mk : Nat → AV} (hi : parts.map (·.1) = cparts.toList.map (·.1)) (hv : VRs ρ (parts.map (·.2)) (cparts.toList.map (·.2)))
    (hb : bsA P t len parts = some (ob, mk)) : AllocOk P ρ (Instr.buildSlice t len cparts) ob mk := by
  unfold bsA at hb
  split at hb
  · rename_i e hd
    cases hs : tsize P e with
    | none => simp [hs] at hb
    | some sz =>
      simp only [hs, Option.bind_eq_bind, Option.bind_some] at hb
      split at hb
      · simp at hb
      · rename_i hbig
        cases hz : tzero P e with
        | none => simp [hz] at hb
        | some z =>
          cases hzc : cellsA (toAV z) with
          | none => simp [hz, hzc] at hb
          | some zc =>
            simp only [hz, hzc, Option.bind_some] at hb
            split at hb
            · rename_i hzs
              cases hfill : fillA (fun i => some (i * sz, sz)) (repCells zc len) parts with
              | none => simp [hfill] at hb
              | some out =>
                simp only [hfill, Option.bind_some, Option.some.injEq, Prod.mk.injEq] at hb
                obtain ⟨rfl, rfl⟩ := hb
                have hzr := zero_cells (ρ := ρ) hzc
                have hzn : z.cells.size = sz := by rw [← hzs, hzr.length]; simp
                -- the zeros that the model writes
                have hrow : ∃ zs : Array Value, ((len * sz = 0 ∧ zs = #[]) ∨ (len * sz ≠ 0 ∧ zs = z.cells)) ∧
                    VRs ρ (repCells zc len) ((Array.range (len * sz)).map (zs[· % zs.size]!)).toList := by
                  by_cases h0 : len * sz = 0
                  · refine ⟨#[], .inl ⟨h0, rfl⟩, ?_⟩
                    rw [h0]
                    have : repCells zc len = [] := List.length_eq_zero_iff.1 (by rw [repCells_length, hzs]; exact h0)
                    rw [this]; simp; exact .nil
                  · refine ⟨z.cells, .inr ⟨h0, rfl⟩, ?_⟩
                    have := hzr.rep len
                    rw [hzn] at this
                    rw [hzn]
                    exact this
                obtain ⟨zs, hzs', hrow⟩ := hrow
                obtain ⟨cout, h1, h2⟩ := fillA_sound parts cparts.toList (repCells zc len) out _ hi hv hrow hfill
                have hlen : out.length = cout.size := by rw [h2.length]; simp
                have hfl : cout.size = len * sz := by
                  have : ∀ (l : List (Nat × Value)) (c c' : Array Value) (pl : Nat → Option (Nat × Nat)), Instr.fill pl c l = some c' → c'.size = c.size := by
                    intro l
                    induction l with
                    | nil => intro c c' pl he; simp [Instr.fill] at he; rw [he]
                    | cons x l ih =>
                      intro c c' pl he
                      obtain ⟨i, v⟩ := x
                      simp only [Instr.fill] at he
                      split at he
                      · simp at he
                      · split at he
                        · simp at he
                        · rw [ih _ _ _ he]
                          have : ∀ (l : List (Value × Nat)) (c : Array Value) (off : Nat), (l.foldl (fun cs (x : Value × Nat) => cs.setIfInBounds (off + x.2) x.1) c).size = c.size := by
                            intro l
                            induction l with
                            | nil => intro c off; rfl
                            | cons x l ih => intro c off; simp only [List.foldl_cons]; rw [ih]; simp
                          rw [← Array.foldl_toList]
                          exact this _ _ _
                  rw [this _ _ _ _ h1]; simp
                refine ⟨rfl, fun w => ⟨.cells cout e (0, 0), cout.size, .slice (some ⟨w.heap.size, 0, none⟩) len len, ?_, fun ρ' id hle' hid => ⟨newOR hle' h2.toCells (by omega) (fun ht => by rw [hfl]; simp at ht; exact Nat.pos_of_ne_zero (by simpa using ht)), .sl hid (Nat.le_refl _) (.inr rfl) (.inr (by simp [hfl])) (fun n hn => by cases hn; rfl)⟩⟩⟩
                unfold Instr.buildSlice
                rw [Sem.run_bind, run_underlying' hd]
                simp only [Result.andThen_ok]
                rw [Sem.run_bind, run_sizeOf' hs]
                simp only [Result.andThen_ok]
                rw [Sem.run_ite, if_neg hbig]
                rcases hzs' with ⟨h0, rfl⟩ | ⟨h0, rfl⟩
                · rw [Sem.run_ite, if_pos h0]
                  simp only [Sem.run_bind, Sem.run_pure, Result.andThen_ok, h1]
                  simp [newRow]
                · rw [Sem.run_ite, if_neg h0]
                  simp only [Sem.run_bind, Sem.run_pure, Result.andThen_ok, run_zeroValue' hz, h1]
                  simp [newRow]
            · simp at hb
  · simp at hb

end
end Go.Abs
end
