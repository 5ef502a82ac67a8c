/- The abstract layer, part 1: tries, abstract values and heaps, and how they relate to the model's world. -/
import Derived.RangeFuncLeaves
import Derived.RangeFuncIn
import Derived.Below
import Derived.Orders
import Derived.MapKept
namespace Go.Abs
open Go Go.RowKit

/-! ### Tries, binary -/
inductive Ot (α : Type) where
  | nil
  | node (l : Ot α) (v : Option α) (r : Ot α)

noncomputable def Ot.get {α : Type} (t : Ot α) : Nat → Option α :=
  @Ot.rec α (fun _ => Nat → Option α) (fun _ => none) (fun _ v _ gl gr n => @Bool.rec (fun _ => Option α) (@Bool.rec (fun _ => Option α) (gr (Nat.sub (Nat.div n 2) 1)) (gl (Nat.div n 2)) (Nat.beq (Nat.mod n 2) 1)) v (Nat.beq n 0)) t

theorem bool_rec_cond {α : Type} (x y : α) (b : Bool) : @Bool.rec (fun _ => α) x y b = cond b y x := by cases b <;> rfl

@[simp] theorem Ot.get_nil {α : Type} (n : Nat) : (Ot.nil : Ot α).get n = none := rfl
theorem Ot.get_node {α : Type} (l : Ot α) (v : Option α) (r : Ot α) (n : Nat) :
    (Ot.node l v r).get n = cond (Nat.beq n 0) v (cond (Nat.beq (n % 2) 1) (l.get (n / 2)) (r.get (n / 2 - 1))) := by
  rw [← bool_rec_cond, ← bool_rec_cond]; rfl

noncomputable def Ot.mkF {α : Type} (x : Option α) (f : Nat) : Nat → Ot α :=
  @Nat.rec (fun _ => Nat → Ot α) (fun _ => .nil) (fun _ ih n => @Bool.rec (fun _ => Ot α) (@Bool.rec (fun _ => Ot α) (.node .nil none (ih (Nat.sub (Nat.div n 2) 1))) (.node (ih (Nat.div n 2)) none .nil) (Nat.beq (Nat.mod n 2) 1)) (.node .nil x .nil) (Nat.beq n 0)) f

noncomputable def Ot.set {α : Type} (t : Ot α) (n : Nat) (x : Option α) : Ot α :=
  @Ot.rec α (fun _ => Nat → Ot α) (fun n => Ot.mkF x (Nat.succ n) n) (fun l v r sl sr n => @Bool.rec (fun _ => Ot α) (@Bool.rec (fun _ => Ot α) (.node l v (sr (Nat.sub (Nat.div n 2) 1))) (.node (sl (Nat.div n 2)) v r) (Nat.beq (Nat.mod n 2) 1)) (.node l x r) (Nat.beq n 0)) t n

theorem nat_beq_dec (a b : Nat) : Nat.beq a b = decide (a = b) := by
  by_cases e : a = b
  · subst e; simp
  · cases hh : Nat.beq a b with
    | false => simp [e]
    | true => exact absurd (Nat.eq_of_beq_eq_true hh) e

theorem Ot.mkF_succ {α : Type} (x : Option α) (f n : Nat) : Ot.mkF x (f + 1) n = cond (Nat.beq n 0) (.node .nil x .nil) (cond (Nat.beq (n % 2) 1) (.node (Ot.mkF x f (n / 2)) none .nil) (.node .nil none (Ot.mkF x f (n / 2 - 1)))) := by
  rw [← bool_rec_cond, ← bool_rec_cond]; rfl
theorem Ot.set_nil {α : Type} (x : Option α) (n : Nat) : (Ot.nil : Ot α).set n x = Ot.mkF x (n + 1) n := rfl
theorem Ot.set_node {α : Type} (x : Option α) (n : Nat) (l : Ot α) (v : Option α) (r : Ot α) : (Ot.node l v r).set n x = cond (Nat.beq n 0) (.node l x r) (cond (Nat.beq (n % 2) 1) (.node (l.set (n / 2) x) v r) (.node l v (r.set (n / 2 - 1) x))) := by
  rw [← bool_rec_cond, ← bool_rec_cond]; rfl

theorem Ot.get_mkF {α : Type} (x : Option α) : ∀ (f n m : Nat), n < f → (Ot.mkF x f n).get m = if m = n then x else none := by
  intro f
  induction f with
  | zero => intro n m h; omega
  | succ f ih =>
    intro n m h
    rw [Ot.mkF_succ]
    by_cases h0 : n = 0
    · subst h0
      simp only [nat_beq_dec, decide_true, cond_true, Ot.get_node, Ot.get_nil]
      by_cases hm : m = 0 <;> simp [hm]
    · by_cases h1 : n % 2 = 1
      · simp only [nat_beq_dec, h0, h1, decide_false, decide_true, cond_true, cond_false, Ot.get_node, Ot.get_nil]
        by_cases hm : m = 0
        · subst hm; simp; omega
        · by_cases hm1 : m % 2 = 1
          · simp only [hm, hm1, decide_false, decide_true, cond_true, cond_false]
            rw [ih (n / 2) (m / 2) (by omega)]
            have : (m / 2 = n / 2) ↔ m = n := by omega
            simp [this]
          · simp only [hm, hm1, decide_false, cond_false]
            have : m ≠ n := by omega
            simp [this]
      · simp only [nat_beq_dec, h0, h1, decide_false, cond_false, Ot.get_node, Ot.get_nil]
        by_cases hm : m = 0
        · subst hm; simp; omega
        · by_cases hm1 : m % 2 = 1
          · simp only [hm, hm1, decide_false, decide_true, cond_true, cond_false]
            have : m ≠ n := by omega
            simp [this]
          · simp only [hm, hm1, decide_false, cond_false]
            rw [ih (n / 2 - 1) (m / 2 - 1) (by omega)]
            have : (m / 2 - 1 = n / 2 - 1) ↔ m = n := by omega
            simp [this]

theorem Ot.get_set {α : Type} (t : Ot α) (n m : Nat) (x : Option α) : (t.set n x).get m = if m = n then x else t.get m := by
  induction t generalizing n m with
  | nil => rw [Ot.set_nil, Ot.get_mkF x (n + 1) n m (Nat.lt_succ_self n), Ot.get_nil]
  | node l v r ihl ihr =>
    rw [Ot.set_node]
    by_cases h0 : n = 0
    · subst h0
      simp only [nat_beq_dec, decide_true, cond_true, Ot.get_node]
      by_cases hm : m = 0 <;> simp [hm]
    · by_cases h1 : n % 2 = 1
      · simp only [nat_beq_dec, h0, h1, decide_false, decide_true, cond_true, cond_false, Ot.get_node]
        by_cases hm : m = 0
        · subst hm
          have : (0 : Nat) ≠ n := by omega
          simp [this]
        · by_cases hm1 : m % 2 = 1
          · simp only [hm, hm1, decide_false, decide_true, cond_true, cond_false]
            rw [ihl (n / 2) (m / 2)]
            have : (m / 2 = n / 2) ↔ m = n := by omega
            simp [this]
          · simp only [hm, hm1, decide_false, cond_false]
            have : m ≠ n := by omega
            simp [this]
      · simp only [nat_beq_dec, h0, h1, decide_false, cond_false, Ot.get_node]
        by_cases hm : m = 0
        · subst hm
          have : (0 : Nat) ≠ n := by omega
          simp [this]
        · by_cases hm1 : m % 2 = 1
          · simp only [hm, hm1, decide_false, decide_true, cond_true, cond_false]
            have : m ≠ n := by omega
            simp [this]
          · simp only [hm, hm1, decide_false, cond_false]
            rw [ihr (n / 2 - 1) (m / 2 - 1)]
            have : (m / 2 - 1 = n / 2 - 1) ↔ m = n := by omega
            simp [this]

/-! ### Tries, sixteen ways -/
structure N16 (α : Type) where
  c0 : α
  c1 : α
  c2 : α
  c3 : α
  c4 : α
  c5 : α
  c6 : α
  c7 : α
  c8 : α
  c9 : α
  c10 : α
  c11 : α
  c12 : α
  c13 : α
  c14 : α
  c15 : α
structure SelN (α : Type) where run : N16 α → α
structure ModN (α : Type) where run : (α → α) → N16 α → N16 α
noncomputable def selN (α : Type) (d : Nat) : SelN α := @Nat.rec (fun _ => SelN α) ⟨fun t => t.c0⟩ (fun d _ => @Nat.rec (fun _ => SelN α) ⟨fun t => t.c1⟩ (fun d _ => @Nat.rec (fun _ => SelN α) ⟨fun t => t.c2⟩ (fun d _ => @Nat.rec (fun _ => SelN α) ⟨fun t => t.c3⟩ (fun d _ => @Nat.rec (fun _ => SelN α) ⟨fun t => t.c4⟩ (fun d _ => @Nat.rec (fun _ => SelN α) ⟨fun t => t.c5⟩ (fun d _ => @Nat.rec (fun _ => SelN α) ⟨fun t => t.c6⟩ (fun d _ => @Nat.rec (fun _ => SelN α) ⟨fun t => t.c7⟩ (fun d _ => @Nat.rec (fun _ => SelN α) ⟨fun t => t.c8⟩ (fun d _ => @Nat.rec (fun _ => SelN α) ⟨fun t => t.c9⟩ (fun d _ => @Nat.rec (fun _ => SelN α) ⟨fun t => t.c10⟩ (fun d _ => @Nat.rec (fun _ => SelN α) ⟨fun t => t.c11⟩ (fun d _ => @Nat.rec (fun _ => SelN α) ⟨fun t => t.c12⟩ (fun d _ => @Nat.rec (fun _ => SelN α) ⟨fun t => t.c13⟩ (fun d _ => @Nat.rec (fun _ => SelN α) ⟨fun t => t.c14⟩ (fun d _ => ⟨fun t => t.c15⟩) d) d) d) d) d) d) d) d) d) d) d) d) d) d) d
noncomputable def modN (α : Type) (d : Nat) : ModN α := @Nat.rec (fun _ => ModN α) ⟨fun f t => @N16.rec α (fun _ => N16 α) (fun c0 c1 c2 c3 c4 c5 c6 c7 c8 c9 c10 c11 c12 c13 c14 c15 => N16.mk (f c0) c1 c2 c3 c4 c5 c6 c7 c8 c9 c10 c11 c12 c13 c14 c15) t⟩ (fun d _ => @Nat.rec (fun _ => ModN α) ⟨fun f t => @N16.rec α (fun _ => N16 α) (fun c0 c1 c2 c3 c4 c5 c6 c7 c8 c9 c10 c11 c12 c13 c14 c15 => N16.mk c0 (f c1) c2 c3 c4 c5 c6 c7 c8 c9 c10 c11 c12 c13 c14 c15) t⟩ (fun d _ => @Nat.rec (fun _ => ModN α) ⟨fun f t => @N16.rec α (fun _ => N16 α) (fun c0 c1 c2 c3 c4 c5 c6 c7 c8 c9 c10 c11 c12 c13 c14 c15 => N16.mk c0 c1 (f c2) c3 c4 c5 c6 c7 c8 c9 c10 c11 c12 c13 c14 c15) t⟩ (fun d _ => @Nat.rec (fun _ => ModN α) ⟨fun f t => @N16.rec α (fun _ => N16 α) (fun c0 c1 c2 c3 c4 c5 c6 c7 c8 c9 c10 c11 c12 c13 c14 c15 => N16.mk c0 c1 c2 (f c3) c4 c5 c6 c7 c8 c9 c10 c11 c12 c13 c14 c15) t⟩ (fun d _ => @Nat.rec (fun _ => ModN α) ⟨fun f t => @N16.rec α (fun _ => N16 α) (fun c0 c1 c2 c3 c4 c5 c6 c7 c8 c9 c10 c11 c12 c13 c14 c15 => N16.mk c0 c1 c2 c3 (f c4) c5 c6 c7 c8 c9 c10 c11 c12 c13 c14 c15) t⟩ (fun d _ => @Nat.rec (fun _ => ModN α) ⟨fun f t => @N16.rec α (fun _ => N16 α) (fun c0 c1 c2 c3 c4 c5 c6 c7 c8 c9 c10 c11 c12 c13 c14 c15 => N16.mk c0 c1 c2 c3 c4 (f c5) c6 c7 c8 c9 c10 c11 c12 c13 c14 c15) t⟩ (fun d _ => @Nat.rec (fun _ => ModN α) ⟨fun f t => @N16.rec α (fun _ => N16 α) (fun c0 c1 c2 c3 c4 c5 c6 c7 c8 c9 c10 c11 c12 c13 c14 c15 => N16.mk c0 c1 c2 c3 c4 c5 (f c6) c7 c8 c9 c10 c11 c12 c13 c14 c15) t⟩ (fun d _ => @Nat.rec (fun _ => ModN α) ⟨fun f t => @N16.rec α (fun _ => N16 α) (fun c0 c1 c2 c3 c4 c5 c6 c7 c8 c9 c10 c11 c12 c13 c14 c15 => N16.mk c0 c1 c2 c3 c4 c5 c6 (f c7) c8 c9 c10 c11 c12 c13 c14 c15) t⟩ (fun d _ => @Nat.rec (fun _ => ModN α) ⟨fun f t => @N16.rec α (fun _ => N16 α) (fun c0 c1 c2 c3 c4 c5 c6 c7 c8 c9 c10 c11 c12 c13 c14 c15 => N16.mk c0 c1 c2 c3 c4 c5 c6 c7 (f c8) c9 c10 c11 c12 c13 c14 c15) t⟩ (fun d _ => @Nat.rec (fun _ => ModN α) ⟨fun f t => @N16.rec α (fun _ => N16 α) (fun c0 c1 c2 c3 c4 c5 c6 c7 c8 c9 c10 c11 c12 c13 c14 c15 => N16.mk c0 c1 c2 c3 c4 c5 c6 c7 c8 (f c9) c10 c11 c12 c13 c14 c15) t⟩ (fun d _ => @Nat.rec (fun _ => ModN α) ⟨fun f t => @N16.rec α (fun _ => N16 α) (fun c0 c1 c2 c3 c4 c5 c6 c7 c8 c9 c10 c11 c12 c13 c14 c15 => N16.mk c0 c1 c2 c3 c4 c5 c6 c7 c8 c9 (f c10) c11 c12 c13 c14 c15) t⟩ (fun d _ => @Nat.rec (fun _ => ModN α) ⟨fun f t => @N16.rec α (fun _ => N16 α) (fun c0 c1 c2 c3 c4 c5 c6 c7 c8 c9 c10 c11 c12 c13 c14 c15 => N16.mk c0 c1 c2 c3 c4 c5 c6 c7 c8 c9 c10 (f c11) c12 c13 c14 c15) t⟩ (fun d _ => @Nat.rec (fun _ => ModN α) ⟨fun f t => @N16.rec α (fun _ => N16 α) (fun c0 c1 c2 c3 c4 c5 c6 c7 c8 c9 c10 c11 c12 c13 c14 c15 => N16.mk c0 c1 c2 c3 c4 c5 c6 c7 c8 c9 c10 c11 (f c12) c13 c14 c15) t⟩ (fun d _ => @Nat.rec (fun _ => ModN α) ⟨fun f t => @N16.rec α (fun _ => N16 α) (fun c0 c1 c2 c3 c4 c5 c6 c7 c8 c9 c10 c11 c12 c13 c14 c15 => N16.mk c0 c1 c2 c3 c4 c5 c6 c7 c8 c9 c10 c11 c12 (f c13) c14 c15) t⟩ (fun d _ => @Nat.rec (fun _ => ModN α) ⟨fun f t => @N16.rec α (fun _ => N16 α) (fun c0 c1 c2 c3 c4 c5 c6 c7 c8 c9 c10 c11 c12 c13 c14 c15 => N16.mk c0 c1 c2 c3 c4 c5 c6 c7 c8 c9 c10 c11 c12 c13 (f c14) c15) t⟩ (fun d _ => ⟨fun f t => @N16.rec α (fun _ => N16 α) (fun c0 c1 c2 c3 c4 c5 c6 c7 c8 c9 c10 c11 c12 c13 c14 c15 => N16.mk c0 c1 c2 c3 c4 c5 c6 c7 c8 c9 c10 c11 c12 c13 c14 (f c15)) t⟩) d) d) d) d) d) d) d) d) d) d) d) d) d) d) d
/-- The number, in the form of a number. -/
noncomputable def frc {β : Sort _} (x : Nat) (k : Nat → β) : β := @Nat.rec (fun _ => β) (k 0) (fun n _ => k (Nat.succ n)) x
theorem frc_eq {β : Sort _} (x : Nat) (k : Nat → β) : frc x k = k x := by cases x <;> rfl
noncomputable def emp (α : Type) (x : α) : N16 α := N16.mk x x x x x x x x x x x x x x x x

theorem sel_mod {α : Type} {d e : Nat} (hd : d < 16) (he : e < 16) (f : α → α) (t : N16 α) : (selN α e).run ((modN α d).run f t) = if e = d then f ((selN α d).run t) else (selN α e).run t := by
  have h1 : d = 0 ∨ d = 1 ∨ d = 2 ∨ d = 3 ∨ d = 4 ∨ d = 5 ∨ d = 6 ∨ d = 7 ∨ d = 8 ∨ d = 9 ∨ d = 10 ∨ d = 11 ∨ d = 12 ∨ d = 13 ∨ d = 14 ∨ d = 15 := by omega
  have h2 : e = 0 ∨ e = 1 ∨ e = 2 ∨ e = 3 ∨ e = 4 ∨ e = 5 ∨ e = 6 ∨ e = 7 ∨ e = 8 ∨ e = 9 ∨ e = 10 ∨ e = 11 ∨ e = 12 ∨ e = 13 ∨ e = 14 ∨ e = 15 := by omega
  rcases h1 with rfl | rfl | rfl | rfl | rfl | rfl | rfl | rfl | rfl | rfl | rfl | rfl | rfl | rfl | rfl | rfl <;> rcases h2 with rfl | rfl | rfl | rfl | rfl | rfl | rfl | rfl | rfl | rfl | rfl | rfl | rfl | rfl | rfl | rfl <;> rfl
theorem sel_emp {α : Type} {d : Nat} (hd : d < 16) (x : α) : (selN α d).run (emp α x) = x := by
  have h1 : d = 0 ∨ d = 1 ∨ d = 2 ∨ d = 3 ∨ d = 4 ∨ d = 5 ∨ d = 6 ∨ d = 7 ∨ d = 8 ∨ d = 9 ∨ d = 10 ∨ d = 11 ∨ d = 12 ∨ d = 13 ∨ d = 14 ∨ d = 15 := by omega
  rcases h1 with rfl | rfl | rfl | rfl | rfl | rfl | rfl | rfl | rfl | rfl | rfl | rfl | rfl | rfl | rfl | rfl <;> rfl

/-! ### Tries -/
structure Tr (α : Type) where
  a : N16 (N16 (Option α))
  b : N16 (N16 (N16 (N16 (Option α))))
  o : Ot α
noncomputable def Tr.nil {α : Type} : Tr α := ⟨emp _ (emp _ none), emp _ (emp _ (emp _ (emp _ none))), .nil⟩

structure GetT (α : Type) where run : Tr α → Option α
structure SetT (α : Type) where run : Tr α → Option α → Tr α
noncomputable def getA (α : Type) (n : Nat) : GetT α :=
  frc (Nat.div n 16) fun i => frc (Nat.mod n 16) fun j =>
    @SelN.rec _ (fun _ => GetT α) (fun f => @SelN.rec _ (fun _ => GetT α) (fun g => ⟨fun t => g (f t.a)⟩) (selN _ j)) (selN _ i)
noncomputable def getB (α : Type) (n : Nat) : GetT α :=
  frc (Nat.div n 4096) fun i => frc (Nat.mod (Nat.div n 256) 16) fun j => frc (Nat.mod (Nat.div n 16) 16) fun k => frc (Nat.mod n 16) fun l =>
    @SelN.rec _ (fun _ => GetT α) (fun f => @SelN.rec _ (fun _ => GetT α) (fun g => @SelN.rec _ (fun _ => GetT α) (fun p => @SelN.rec _ (fun _ => GetT α) (fun q => ⟨fun t => q (p (g (f t.b)))⟩) (selN _ l)) (selN _ k)) (selN _ j)) (selN _ i)
noncomputable def getT (α : Type) (n : Nat) : GetT α :=
  @Bool.rec (fun _ => GetT α) (@Bool.rec (fun _ => GetT α) ⟨fun t => t.o.get (Nat.sub n 65792)⟩ (getB α (Nat.sub n 256)) (Nat.blt n 65792)) (getA α n) (Nat.blt n 256)
noncomputable def setA (α : Type) (n : Nat) : SetT α :=
  frc (Nat.div n 16) fun i => frc (Nat.mod n 16) fun j =>
    @ModN.rec _ (fun _ => SetT α) (fun f => @ModN.rec _ (fun _ => SetT α) (fun g => ⟨fun t x => @Tr.rec α (fun _ => Tr α) (fun a b o => ⟨f (fun s => g (fun _ => x) s) a, b, o⟩) t⟩) (modN _ j)) (modN _ i)
noncomputable def setB (α : Type) (n : Nat) : SetT α :=
  frc (Nat.div n 4096) fun i => frc (Nat.mod (Nat.div n 256) 16) fun j => frc (Nat.mod (Nat.div n 16) 16) fun k => frc (Nat.mod n 16) fun l =>
    @ModN.rec _ (fun _ => SetT α) (fun f => @ModN.rec _ (fun _ => SetT α) (fun g => @ModN.rec _ (fun _ => SetT α) (fun p => @ModN.rec _ (fun _ => SetT α) (fun q =>
      ⟨fun t x => @Tr.rec α (fun _ => Tr α) (fun a b o => ⟨a, f (fun s => g (fun s => p (fun s => q (fun _ => x) s) s) s) b, o⟩) t⟩) (modN _ l)) (modN _ k)) (modN _ j)) (modN _ i)
noncomputable def setT (α : Type) (n : Nat) : SetT α :=
  @Bool.rec (fun _ => SetT α) (@Bool.rec (fun _ => SetT α) ⟨fun t x => @Tr.rec α (fun _ => Tr α) (fun a b o => ⟨a, b, o.set (Nat.sub n 65792) x⟩) t⟩ (setB α (Nat.sub n 256)) (Nat.blt n 65792)) (setA α n) (Nat.blt n 256)
noncomputable def Tr.get {α : Type} (t : Tr α) (n : Nat) : Option α := frc n fun n => (getT α n).run t
noncomputable def Tr.set {α : Type} (t : Tr α) (n : Nat) (x : Option α) : Tr α := frc n fun n => (setT α n).run t x

theorem getA_run {α : Type} (n : Nat) (t : Tr α) : (getA α n).run t = (selN _ (n % 16)).run ((selN _ (n / 16)).run t.a) := by
  unfold getA
  rw [frc_eq, frc_eq]
  rfl
theorem getB_run {α : Type} (n : Nat) (t : Tr α) : (getB α n).run t = (selN _ (n % 16)).run ((selN _ (n / 16 % 16)).run ((selN _ (n / 256 % 16)).run ((selN _ (n / 4096)).run t.b))) := by
  unfold getB
  rw [frc_eq, frc_eq, frc_eq, frc_eq]
  rfl
theorem setA_run {α : Type} (n : Nat) (t : Tr α) (x : Option α) : (setA α n).run t x = ⟨(modN _ (n / 16)).run (fun s => (modN _ (n % 16)).run (fun _ => x) s) t.a, t.b, t.o⟩ := by
  unfold setA
  rw [frc_eq, frc_eq]
  rfl
theorem setB_run {α : Type} (n : Nat) (t : Tr α) (x : Option α) : (setB α n).run t x =
    ⟨t.a, (modN _ (n / 4096)).run (fun s => (modN _ (n / 256 % 16)).run (fun s => (modN _ (n / 16 % 16)).run (fun s => (modN _ (n % 16)).run (fun _ => x) s) s) s) t.b, t.o⟩ := by
  unfold setB
  rw [frc_eq, frc_eq, frc_eq, frc_eq]
  rfl
theorem nat_blt_dec (a b : Nat) : Nat.blt a b = decide (a < b) := by
  by_cases h : a < b
  · rw [decide_eq_true h, Nat.blt_eq]; exact h
  · rw [decide_eq_false h]; cases hh : Nat.blt a b with
    | false => rfl
    | true => rw [Nat.blt_eq] at hh; exact absurd hh h
theorem getT_run {α : Type} (n : Nat) (t : Tr α) : (getT α n).run t =
    if n < 256 then (selN _ (n % 16)).run ((selN _ (n / 16)).run t.a)
    else if n < 65792 then (selN _ ((n - 256) % 16)).run ((selN _ ((n - 256) / 16 % 16)).run ((selN _ ((n - 256) / 256 % 16)).run ((selN _ ((n - 256) / 4096)).run t.b)))
    else t.o.get (n - 65792) := by
  unfold getT
  rw [bool_rec_cond, bool_rec_cond, nat_blt_dec, nat_blt_dec]
  by_cases h : n < 256
  · simp only [h, decide_true, cond_true, if_true]; exact getA_run n t
  · by_cases h2 : n < 65792
    · simp only [h, h2, decide_true, decide_false, cond_true, cond_false, if_true, if_false]; exact getB_run (n - 256) t
    · simp only [h, h2, decide_false, cond_false, if_false]; rfl
theorem setT_run {α : Type} (n : Nat) (t : Tr α) (x : Option α) : (setT α n).run t x =
    if n < 256 then ⟨(modN _ (n / 16)).run (fun s => (modN _ (n % 16)).run (fun _ => x) s) t.a, t.b, t.o⟩
    else if n < 65792 then ⟨t.a, (modN _ ((n - 256) / 4096)).run (fun s => (modN _ ((n - 256) / 256 % 16)).run (fun s => (modN _ ((n - 256) / 16 % 16)).run (fun s => (modN _ ((n - 256) % 16)).run (fun _ => x) s) s) s) t.b, t.o⟩
    else ⟨t.a, t.b, t.o.set (n - 65792) x⟩ := by
  unfold setT
  rw [bool_rec_cond, bool_rec_cond, nat_blt_dec, nat_blt_dec]
  by_cases h : n < 256
  · simp only [h, decide_true, cond_true, if_true]; exact setA_run n t x
  · by_cases h2 : n < 65792
    · simp only [h, h2, decide_true, decide_false, cond_true, cond_false, if_true, if_false]; exact setB_run (n - 256) t x
    · simp only [h, h2, decide_false, cond_false, if_false]; rfl
theorem Tr.get_eq {α : Type} (t : Tr α) (n : Nat) : t.get n = (getT α n).run t := frc_eq n _
theorem Tr.set_eq {α : Type} (t : Tr α) (n : Nat) (x : Option α) : t.set n x = (setT α n).run t x := frc_eq n _

@[simp] theorem Tr.get_nil {α : Type} (n : Nat) : (Tr.nil : Tr α).get n = none := by
  rw [Tr.get_eq, getT_run]
  unfold Tr.nil
  simp only
  split
  · rw [sel_emp (by omega), sel_emp (by omega)]
  · split
    · rw [sel_emp (by omega), sel_emp (by omega), sel_emp (by omega), sel_emp (by omega)]
    · rfl

theorem Tr.get_set {α : Type} (t : Tr α) (n m : Nat) (x : Option α) : (t.set n x).get m = if m = n then x else t.get m := by
  rw [Tr.set_eq, Tr.get_eq, Tr.get_eq, getT_run, getT_run, setT_run]
  by_cases hm : m < 256
  · simp only [hm, if_true]
    by_cases hn : n < 256
    · simp only [hn, if_true]
      rw [sel_mod (by omega) (by omega)]
      by_cases h1 : m / 16 = n / 16
      · rw [if_pos h1, sel_mod (by omega) (by omega), h1]
        by_cases h2 : m % 16 = n % 16
        · rw [if_pos h2, if_pos (by omega)]
        · rw [if_neg h2, if_neg (fun e => h2 (by rw [e]))]
      · rw [if_neg h1, if_neg (fun e => h1 (by rw [e]))]
    · simp only [hn, if_false]
      by_cases h2 : n < 65792
      · simp only [h2, if_true]; rw [if_neg (by omega)]
      · simp only [h2, if_false]; rw [if_neg (by omega)]
  · simp only [hm, if_false]
    by_cases hm2 : m < 65792
    · simp only [hm2, if_true]
      by_cases hn : n < 256
      · simp only [hn, if_true]; rw [if_neg (by omega)]
      · simp only [hn, if_false]
        by_cases hn2 : n < 65792
        · simp only [hn2, if_true]
          rw [sel_mod (by omega) (by omega)]
          by_cases h1 : (m - 256) / 4096 = (n - 256) / 4096
          · rw [if_pos h1, h1, sel_mod (by omega) (by omega)]
            by_cases h2 : (m - 256) / 256 % 16 = (n - 256) / 256 % 16
            · rw [if_pos h2, h2, sel_mod (by omega) (by omega)]
              by_cases h3 : (m - 256) / 16 % 16 = (n - 256) / 16 % 16
              · rw [if_pos h3, h3, sel_mod (by omega) (by omega)]
                by_cases h4 : (m - 256) % 16 = (n - 256) % 16
                · rw [if_pos h4, if_pos (by omega)]
                · rw [if_neg h4, if_neg (fun e => h4 (by rw [e]))]
              · rw [if_neg h3, if_neg (fun e => h3 (by rw [e]))]
            · rw [if_neg h2, if_neg (fun e => h2 (by rw [e]))]
          · rw [if_neg h1, if_neg (fun e => h1 (by rw [e]))]
        · simp only [hn2, if_false]; rw [if_neg (by omega)]
    · simp only [hm2, if_false]
      by_cases hn : n < 256
      · simp only [hn, if_true]; rw [if_neg (by omega)]
      · simp only [hn, if_false]
        by_cases hn2 : n < 65792
        · simp only [hn2, if_true]; rw [if_neg (by omega)]
        · simp only [hn2, if_false]
          rw [Ot.get_set]
          by_cases h : m = n
          · rw [if_pos h, if_pos (by omega)]
          · rw [if_neg h, if_neg (by omega)]

/-! ### Values -/
inductive AV where
  | junk
  | bool (b : Bool)
  | int (k : IntKind) (n : Int)
  | str (s : List Nat)
  | nilptr
  | ptr (id off : Nat)
  | nilsl
  | sl (id off len sz : Nat) (cap : Option Nat)
  | nilmap
  | map (id : Nat)
  | func (fn : Fn) (first captured : List AV)
  | yld (id : Nat)
  | nilfunc
  | iface (t : TypeId) (v : AV)
  | nilif
  | agg (l : List AV)
  | tup (l : List AV)

abbrev Env := Tr AV

/-- Where a block lies: its number, from which cell on, and how many cells it has. -/
structure Pl where
  b : Nat
  o : Nat
  lim : Nat

abbrev Pm := Nat → Option Pl

def bytesOf (s : ByteArray) : List Nat := s.data.toList.map UInt8.toNat

/-- Which function values are the same in both layers. -/
def plainFn : Fn → Bool
  | .yield _ => false
  | _ => true

mutual
inductive VR (ρ : Pm) : AV → Value → Prop
  | junk (v : Value) : VR ρ .junk v
  | bool (b : Bool) : VR ρ (.bool b) (.bool b)
  | int (k : IntKind) (n : Int) : VR ρ (.int k n) (.int k n)
  | str (s : ByteArray) : VR ρ (.str (bytesOf s)) (.string s)
  | nilptr : VR ρ .nilptr (.pointer none)
  | ptr {id off : Nat} {p : Pl} (h : ρ id = some p) : VR ρ (.ptr id off) (.pointer (some ⟨p.b, p.o + off, none⟩))
  | nilsl : VR ρ .nilsl (.slice none 0 0)
  | sl {id off len sz : Nat} {c : Option Nat} {p : Pl} {a : Addr} {cap : Nat} (h : ρ id = some p) (hl : len ≤ cap) (ha : cap = 0 ∨ a = ⟨p.b, p.o + off, none⟩)
      (hx : cap = 0 ∨ p.o + off + cap * sz ≤ p.lim) (hc : ∀ n, c = some n → cap = n) : VR ρ (.sl id off len sz c) (.slice (some a) len cap)
  | nilmap : VR ρ .nilmap (.map none)
  | map {id : Nat} {p : Pl} (h : ρ id = some p) : VR ρ (.map id) (.map (some p.b))
  | func {fn : Fn} {l m : List AV} {first captured : Array Value} (hp : plainFn fn = true) (hl : VRs ρ l first.toList) (hm : VRs ρ m captured.toList) : VR ρ (.func fn l m) (.func fn first captured)
  | yld {id : Nat} {p : Pl} (h : ρ id = some p) : VR ρ (.yld id) (.func (.yield p.b) #[] #[])
  | nilfunc : VR ρ .nilfunc .nilFunc
  | iface {t : TypeId} {v : AV} {cv : Value} (h : VR ρ v cv) : VR ρ (.iface t v) (.iface t cv)
  | nilif : VR ρ .nilif .nilIface
  | agg {l : List AV} {cs : Array Value} (h : VRs ρ l cs.toList) : VR ρ (.agg l) (.agg cs)
  | tup {l : List AV} {cs : Array Value} (h : VRs ρ l cs.toList) : VR ρ (.tup l) (.tuple cs)
inductive VRs (ρ : Pm) : List AV → List Value → Prop
  | nil : VRs ρ [] []
  | cons {a : AV} {v : Value} {l : List AV} {m : List Value} (h : VR ρ a v) (t : VRs ρ l m) : VRs ρ (a :: l) (v :: m)
end

/-- ρ' knows all that ρ knows. -/
def Pm.le (ρ ρ' : Pm) : Prop := ∀ id p, ρ id = some p → ρ' id = some p
theorem Pm.le_refl (ρ : Pm) : ρ.le ρ := fun _ _ h => h
theorem Pm.le_trans {a b c : Pm} (h : a.le b) (k : b.le c) : a.le c := fun id p hp => k id p (h id p hp)

mutual
theorem VR.mono {ρ ρ' : Pm} (hle : ρ.le ρ') : ∀ {a : AV} {v : Value}, VR ρ a v → VR ρ' a v
  | _, _, .junk v => .junk v
  | _, _, .bool b => .bool b
  | _, _, .int k n => .int k n
  | _, _, .str s => .str s
  | _, _, .nilptr => .nilptr
  | _, _, .ptr h => .ptr (hle _ _ h)
  | _, _, .nilsl => .nilsl
  | _, _, .sl h hl ha hx hc => .sl (hle _ _ h) hl ha hx hc
  | _, _, .nilmap => .nilmap
  | _, _, .map h => .map (hle _ _ h)
  | _, _, .func hp hl hm => .func hp (hl.mono hle) (hm.mono hle)
  | _, _, .yld h => .yld (hle _ _ h)
  | _, _, .nilfunc => .nilfunc
  | _, _, .iface h => .iface (h.mono hle)
  | _, _, .nilif => .nilif
  | _, _, .agg h => .agg (h.mono hle)
  | _, _, .tup h => .tup (h.mono hle)
theorem VRs.mono {ρ ρ' : Pm} (hle : ρ.le ρ') : ∀ {l : List AV} {m : List Value}, VRs ρ l m → VRs ρ' l m
  | _, _, .nil => .nil
  | _, _, .cons h t => .cons (h.mono hle) (t.mono hle)
end

theorem VRs.length {ρ : Pm} {l : List AV} {m : List Value} (h : VRs ρ l m) : l.length = m.length := by
  induction l generalizing m with
  | nil => cases h; rfl
  | cons a l ih => cases h with | cons h t => simp [ih t]

theorem VRs.get {ρ : Pm} {l : List AV} {m : List Value} (h : VRs ρ l m) {i : Nat} {a : AV} (hi : l[i]? = some a) : ∃ v, m[i]? = some v ∧ VR ρ a v := by
  induction l generalizing m i with
  | nil => simp at hi
  | cons x l ih =>
    cases h with
    | cons h t =>
      cases i with
      | zero => simp at hi; subst hi; exact ⟨_, rfl, h⟩
      | succ i => simpa using ih t (by simpa using hi)

theorem VRs.append {ρ : Pm} {l l' : List AV} {m m' : List Value} (h : VRs ρ l m) (h' : VRs ρ l' m') : VRs ρ (l ++ l') (m ++ m') := by
  induction l generalizing m with
  | nil => cases h; exact h'
  | cons a l ih => cases h with | cons h t => exact .cons h (ih t)

theorem VRs.of_get {ρ : Pm} : ∀ {l : List AV} {m : List Value}, l.length = m.length → (∀ (i : Nat) (a : AV) (v : Value), l[i]? = some a → m[i]? = some v → VR ρ a v) → VRs ρ l m
  | [], [], _, _ => .nil
  | [], _ :: _, h, _ => by simp at h
  | _ :: _, [], h, _ => by simp at h
  | a :: l, v :: m, h, hg => .cons (hg 0 a v rfl rfl) (VRs.of_get (by simpa using h) fun i a' v' h1 h2 => hg (i + 1) a' v' (by simpa using h1) (by simpa using h2))

theorem VRs.take {ρ : Pm} {l : List AV} {m : List Value} (h : VRs ρ l m) (n : Nat) : VRs ρ (l.take n) (m.take n) := by
  induction n generalizing l m with
  | zero => simp; exact .nil
  | succ n ih => cases h with
    | nil => simp; exact .nil
    | cons h t => simp only [List.take_succ_cons]; exact .cons h (ih t)

theorem VRs.drop {ρ : Pm} {l : List AV} {m : List Value} (h : VRs ρ l m) (n : Nat) : VRs ρ (l.drop n) (m.drop n) := by
  induction n generalizing l m with
  | zero => simpa using h
  | succ n ih => cases h with
    | nil => simp; exact .nil
    | cons h t => simpa using ih t

theorem VRs.set {ρ : Pm} {l : List AV} {m : List Value} (h : VRs ρ l m) (i : Nat) {a : AV} {v : Value} (hv : VR ρ a v) : VRs ρ (l.set i a) (m.set i v) := by
  induction l generalizing m i with
  | nil => cases h; simp; exact .nil
  | cons x l ih => cases h with
    | cons h t => cases i with
      | zero => exact .cons hv t
      | succ i => exact .cons h (ih t i)

/-! ### Objects and heaps -/
inductive AO where
  /-- a row of cells; own: it may be written; text: its end may be marked by a conversion between strings and bytes -/
  | cells (cs : List AV) (own text : Bool)
  /-- a map: its entries, when each came, how many came -/
  | map (es : List (AV × AV)) (bs : List Nat) (ck : Nat)
  /-- a walk over a map: the map, when it began, the entries it met, when it met the last -/
  | mit (m : Option Nat) (since : Nat) (seen : List Nat) (last : Nat)
  | loop (st : LoopState) (pend : Option Code) (fn : FuncId) (t : Env) (n : Nat) (params : Array Tmp) (assign body : Code) (defers : Nat)
  | defs (open_ : Bool)
  | sit (s : List Nat) (pos : Nat)

def AO.own : AO → Bool
  | .cells _ o _ => o
  | _ => true

structure AH where
  tr : Tr AO
  nx : Nat

noncomputable def AH.get (h : AH) (id : Nat) : Option AO := h.tr.get id
noncomputable def AH.put (h : AH) (id : Nat) (o : AO) : AH := { h with tr := h.tr.set id (some o) }
noncomputable def AH.del (h : AH) (id : Nat) : AH := { h with tr := h.tr.set id none }
noncomputable def AH.new (h : AH) (o : AO) : AH := { tr := h.tr.set h.nx (some o), nx := h.nx + 1 }

theorem AH.get_put (h : AH) (id : Nat) (o : AO) (j : Nat) : (h.put id o).get j = if j = id then some o else h.get j := Tr.get_set _ _ _ _
theorem AH.get_del (h : AH) (id j : Nat) : (h.del id).get j = if j = id then none else h.get j := Tr.get_set _ _ _ _
theorem AH.get_new (h : AH) (o : AO) (j : Nat) : (h.new o).get j = if j = h.nx then some o else h.get j := Tr.get_set _ _ _ _
@[simp] theorem AH.nx_put (h : AH) (id : Nat) (o : AO) : (h.put id o).nx = h.nx := rfl
@[simp] theorem AH.nx_del (h : AH) (id : Nat) : (h.del id).nx = h.nx := rfl
@[simp] theorem AH.nx_new (h : AH) (o : AO) : (h.new o).nx = h.nx + 1 := rfl

/-- More places are known, beyond those that were used. -/
structure Ext (n : Nat) (ρ : Pm) (n' : Nat) (ρ' : Pm) : Prop where
  le : ρ.le ρ'
  nx : n ≤ n'
  old : ∀ id, id < n → ρ' id = ρ id
theorem Ext.refl (n : Nat) (ρ : Pm) : Ext n ρ n ρ := ⟨Pm.le_refl ρ, Nat.le_refl n, fun _ _ => rfl⟩
theorem Ext.trans {n n1 n2 : Nat} {a b c : Pm} (h : Ext n a n1 b) (k : Ext n1 b n2 c) : Ext n a n2 c :=
  ⟨Pm.le_trans h.le k.le, Nat.le_trans h.nx k.nx, fun id hid => (k.old id (Nat.lt_of_lt_of_le hid h.nx)).trans (h.old id hid)⟩

/-- A frame's temporaries. -/
def ER (ρ : Pm) (t : Env) (n : Nat) (tmps : Array Value) : Prop :=
  tmps.size = n ∧ ∀ i a, t.get i = some a → ∃ v, tmps[i]? = some v ∧ VR ρ a v

theorem ER.mono {ρ ρ' : Pm} (hle : ρ.le ρ') {t : Env} {n : Nat} {tmps : Array Value} (h : ER ρ t n tmps) : ER ρ' t n tmps :=
  ⟨h.1, fun i a hi => let ⟨v, hv, r⟩ := h.2 i a hi; ⟨v, hv, r.mono hle⟩⟩

theorem ER.set {ρ : Pm} {t : Env} {n : Nat} {tmps : Array Value} (h : ER ρ t n tmps) {d : Nat} (hd : d < n) {a : AV} {v : Value} (hv : VR ρ a v) :
    ER ρ (t.set d (some a)) n (tmps.setIfInBounds d v) := by
  refine ⟨by simp [h.1], fun i b hi => ?_⟩
  rw [Tr.get_set] at hi
  by_cases e : i = d
  · subst e
    simp at hi; subst hi
    exact ⟨v, by simp [h.1, hd], hv⟩
  · rw [if_neg e] at hi
    obtain ⟨u, hu, r⟩ := h.2 i b hi
    exact ⟨u, by rw [Array.getElem?_setIfInBounds_ne (Ne.symm e)]; exact hu, r⟩

def MR (ρ : Pm) : List (AV × AV) → List MapEntry → Prop
  | [], [] => True
  | (k, v) :: l, e :: m => VR ρ k e.key ∧ VR ρ v e.val ∧ MR ρ l m
  | _, _ => False

theorem MR.mono {ρ ρ' : Pm} (hle : ρ.le ρ') : ∀ {l : List (AV × AV)} {m : List MapEntry}, MR ρ l m → MR ρ' l m
  | [], [], _ => trivial
  | (_, _) :: _, _ :: _, ⟨h1, h2, h3⟩ => ⟨h1.mono hle, h2.mono hle, MR.mono hle h3⟩
  | [], _ :: _, h => h.elim
  | (_, _) :: _, [], h => h.elim

/-- Which cells of a block are marked as a string's: none, or the one behind its end. -/
def FrOk (fr : Nat × Nat) (n : Nat) : Prop := fr = (0, 0) ∨ fr = (n, n + 1)
theorem FrOk.not {fr : Nat × Nat} {n : Nat} (h : FrOk fr n) : ∀ i, i < n → ¬ (fr.1 ≤ i ∧ i < fr.2) := by
  rcases h with rfl | rfl
  · intro i _ hh; exact absurd hh.2 (Nat.not_lt_zero i)
  · intro i hi hh; exact absurd hh.1 (Nat.not_le.2 hi)

/-- What the model's heap holds at a place, for an object. -/
def OR (ρ : Pm) (p : Pl) : AO → Option Obj → Prop
  | .cells cs own text, x => ∃ c e fr, x = some (.cells c e fr) ∧ (if own then c.size = p.lim else p.lim ≤ c.size) ∧ p.o + cs.length ≤ p.lim ∧
      (∀ i a, cs[i]? = some a → ∃ v, c[p.o + i]? = some v ∧ VR ρ a v) ∧ (own = true → FrOk fr c.size) ∧ (own = true → text = false → fr = (0, 0) ∧ 0 < c.size ∧ p.o = 0)
  | .map es bs ck, x => ∃ ces, x = some (.map ces ck) ∧ MR ρ es ces.toList ∧ bs = ces.toList.map (·.born) ∧ MapKept.Stamped ces ck
  | .mit none since seen last, x => p.o = 0 ∧ x = some (.mapIter none since seen.toArray last)
  | .mit (some m) since seen last, x => p.o = 0 ∧ ∃ q, ρ m = some q ∧ x = some (.mapIter (some q.b) since seen.toArray last)
  | .loop st pend _ t n params assign body d, x => ∃ tmps pd fn, x = some (.loop { state := st, pending := pend, fn, tmps, params, assign, body, defers := pd }) ∧ ER ρ t n tmps ∧ ∃ q, ρ d = some q ∧ q.b = pd
  | .defs o, x => x = some (.deferred (if o then some [] else none))
  | .sit s pos, x => p.o = 0 ∧ ∃ bs, x = some (.stringIter bs pos) ∧ bytesOf bs = s

theorem OR.mono {ρ ρ' : Pm} (hle : ρ.le ρ') {p : Pl} {o : AO} {x : Option Obj} (h : OR ρ p o x) : OR ρ' p o x := by
  cases o with
  | cells cs own text =>
    obtain ⟨c, e, fr, h1, h2, h3, h4, h5⟩ := h
    exact ⟨c, e, fr, h1, h2, h3, fun i a hi => let ⟨v, hv, r⟩ := h4 i a hi; ⟨v, hv, r.mono hle⟩, h5⟩
  | map es bs ck => obtain ⟨ces, h1, h2, h3, h4⟩ := h; exact ⟨ces, h1, h2.mono hle, h3, h4⟩
  | mit m since seen last => cases m with
    | none => exact h
    | some m => obtain ⟨h0, q, h1, h2⟩ := h; exact ⟨h0, q, hle _ _ h1, h2⟩
  | loop st pend fn t n params assign body d =>
    obtain ⟨tmps, pd, fn, h1, h2, q, h3, h4⟩ := h
    exact ⟨tmps, pd, fn, h1, h2.mono hle, q, hle _ _ h3, h4⟩
  | defs o => exact h
  | sit s pos => exact h

theorem or_none {ρ : Pm} {p : Pl} {o : AO} (h : OR ρ p o none) : False := by
  cases o with
  | cells cs own text => obtain ⟨c, e, fr, h1, _⟩ := h; cases h1
  | map es bs ck => obtain ⟨c, h1, _⟩ := h; cases h1
  | mit m since seen last => cases m with
    | none => obtain ⟨_, h1⟩ := h; cases h1
    | some m => obtain ⟨_, q, _, h1⟩ := h; cases h1
  | loop st pend fn t n params assign body d => obtain ⟨c, e, f, h1, _⟩ := h; cases h1
  | defs o => exact absurd (show none = some _ from h) (by simp)
  | sit s pos => obtain ⟨_, c, h1, _⟩ := h; cases h1

/-- What stays as it is: the streams, and the blocks that nobody may write. -/
structure Kp where
  os : Os
  tape : Nat → Question → Nat
  output : Array (Nat × ByteArray)
  size : Nat
  at_ : Nat → Option Obj
  /-- where what nobody may write lies -/
  ro : Nat → Bool
  roAt : ∀ b, ro b = true → (at_ b).isSome = true

structure Rel (K : Kp) (ρ : Pm) (h : AH) (w : World) : Prop where
  os : w.os = K.os
  tape : w.tape = K.tape
  output : w.output = K.output
  size : K.size ≤ w.heap.size
  keep : ∀ b o, K.at_ b = some o → w.heap[b]? = some o
  fresh : ∀ id, h.nx ≤ id → ρ id = none
  obj : ∀ id o, h.get id = some o → ∃ p, ρ id = some p ∧ OR ρ p o w.heap[p.b]? ∧ (o.own = true → K.at_ p.b = none ∧ K.size ≤ p.b) ∧ (o.own = false → K.ro p.b = true)
  inj : ∀ i j oi oj pi pj, h.get i = some oi → h.get j = some oj → oi.own = true → oj.own = true → ρ i = some pi → ρ j = some pj → pi.b = pj.b → i = j

end Go.Abs
