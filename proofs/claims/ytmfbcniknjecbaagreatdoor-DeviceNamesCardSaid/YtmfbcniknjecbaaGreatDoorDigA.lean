/- The functions of the digest that need an argument: the product of two words, and the first primes, in the document's answer and in the program. Conditions: none. -/
import Derived.Test.YtmfbcniknjecbaaGreatDoorSeat
import Derived.Test.YtmfbcniknjecbaaGreatDoorFacts
import Derived.Test.YtmfbcniknjecbaaGreatDoorAb6
namespace Go.Proofs.YtmfbcniknjecbaaGreatDoor
open Go Go.Abs Go.Proofs
set_option maxRecDepth 100000
set_option linter.unusedSimpArgs false
set_option linter.unusedVariables false
theorem wrapU (n : Int) : IntKind.u64.wrap n = n % 18446744073709551616 := by
  simp [IntKind.wrap, IntKind.bits, IntKind.signed]
theorem andLow (n : Nat) : ((BitVec.ofInt IntKind.u64.bits (n : Int) &&& BitVec.ofInt IntKind.u64.bits 4294967295).toNat : Int) = ((n % 4294967296 : Nat) : Int) := by
  congr 1
  rw [BitVec.toNat_and]
  have h1 : (BitVec.ofInt IntKind.u64.bits (n : Int)).toNat = n % 2 ^ 64 := bv_ofInt _ _
  have h2 : (BitVec.ofInt IntKind.u64.bits 4294967295).toNat = 2 ^ 32 - 1 := by decide
  rw [h1, h2, Nat.and_two_pow_sub_one_eq_mod]
  exact Nat.mod_mod_of_dvd _ (by decide)
theorem shr32 (n : Nat) : (n : Int).fdiv (2 ^ min 32 64) = ((n / 4294967296 : Nat) : Int) := by
  rw [Int.fdiv_eq_ediv_of_nonneg _ (by decide)]
  exact (Int.natCast_ediv n 4294967296).symm
theorem modU (n : Nat) : (n : Int) % 18446744073709551616 = ((n % 18446744073709551616 : Nat) : Int) := (Int.natCast_emod n 18446744073709551616).symm
theorem small_mul {a b : Nat} (ha : a < 4294967296) (hb : b < 4294967296) : a * b ≤ 18446744065119617025 := Nat.le_trans (Nat.mul_le_mul (Nat.le_of_lt_succ ha) (Nat.le_of_lt_succ hb)) (by decide)
theorem mul64 {S : Sums} (hS : ∀ args h, S 521 args h = none) (x y : Nat) (hx : x < 18446744073709551616) (hy : y < 18446744073709551616) (h : AH) :
    RnC Tryz.prog S 521 [.int .u64 (x : Nat), .int .u64 (y : Nat)] h fun v _ => v = .tup [.int .u64 ((x * y / 18446744073709551616 : Nat) : Int), .int .u64 ((x * y % 18446744073709551616 : Nat) : Int)] := by
  refine RnC.enter' Tryz.f521 _ 51 [.tmp 4, .tmp 5] (hS _ _) bd521 Tryz.func521 rfl rfl rfl ?_
  simp (maxSteps := 1000000) -dsimp (disch := (repeat first | rw [AH.nx_new] | rw [AH.nx_put]); first | done | omega) only [go_sem, evLen, Tryz.underlying41, wrapU, intA, andLow, shr32, modU, ← Int.natCast_mul, ← Int.natCast_add, AV.tup.injEq, List.cons.injEq, AV.int.injEq, Int.natCast_inj, and_true, true_and, and_self]
  have ha : x / 4294967296 < 4294967296 := by omega
  have hb : x % 4294967296 < 4294967296 := by omega
  have hc : y / 4294967296 < 4294967296 := by omega
  have hd : y % 4294967296 < 4294967296 := by omega
  have hxe : x = x / 4294967296 * 4294967296 + x % 4294967296 := by omega
  have hye : y = y / 4294967296 * 4294967296 + y % 4294967296 := by omega
  generalize hA : x / 4294967296 = a at *
  generalize hB : x % 4294967296 = b at *
  generalize hC : y / 4294967296 = c at *
  generalize hD : y % 4294967296 = d at *
  have h1 := small_mul ha hc
  have h2 := small_mul ha hd
  have h3 := small_mul hb hc
  have h4 := small_mul hb hd
  have he : x * y = a * c * 18446744073709551616 + a * d * 4294967296 + b * c * 4294967296 + b * d := by
    rw [hxe, hye, Nat.add_mul, Nat.mul_add, Nat.mul_add]
    have e1 : a * 4294967296 * (c * 4294967296) = a * c * 18446744073709551616 := by rw [Nat.mul_mul_mul_comm]
    have e2 : a * 4294967296 * d = a * d * 4294967296 := by rw [Nat.mul_right_comm]
    have e3 : b * (c * 4294967296) = b * c * 4294967296 := by rw [Nat.mul_assoc]
    omega
  rw [he]
  have m1 : b % 18446744073709551616 = b := Nat.mod_eq_of_lt (by omega)
  have m2 : d % 18446744073709551616 = d := Nat.mod_eq_of_lt (by omega)
  have m3 : a * c % 18446744073709551616 = a * c := Nat.mod_eq_of_lt (by omega)
  have m4 : a * d % 18446744073709551616 = a * d := Nat.mod_eq_of_lt (by omega)
  have m5 : b * c % 18446744073709551616 = b * c := Nat.mod_eq_of_lt (by omega)
  have m6 : b * d % 18446744073709551616 = b * d := Nat.mod_eq_of_lt (by omega)
  simp only [m1, m2, m3, m4, m5, m6]
  clear he m1 m2 m3 m4 m5 m6 hxe hye hx hy hA hB hC hD
  generalize a * c = p at *
  generalize a * d = q at *
  generalize b * c = r at *
  generalize b * d = s at *
  omega

/-! ### Primes -/
/-- The primes below a number, one number more. -/
def pst : Nat → List Nat × Nat
  | 0 => ([], 2)
  | i + 1 => (cond ((pst i).1.all fun q => !Nat.beq ((pst i).2 % q) 0) ((pst i).1 ++ [(pst i).2]) (pst i).1, (pst i).2 + 1)
theorem pst2 : ∀ i, (pst i).2 = i + 2
  | 0 => rfl
  | i + 1 => by show (pst i).2 + 1 = _; rw [pst2 i]
theorem pst_pos : ∀ i q, q ∈ (pst i).1 → 0 < q ∧ q < i + 2
  | 0, q, h => by cases h
  | i + 1, q, h => by
    have h' : q ∈ cond ((pst i).1.all fun q => !Nat.beq ((pst i).2 % q) 0) ((pst i).1 ++ [(pst i).2]) (pst i).1 := h
    cases hc : (pst i).1.all fun q => !Nat.beq ((pst i).2 % q) 0 with
    | true =>
      rw [hc, cond_true, List.mem_append] at h'
      rcases h' with h1 | h1
      · have := pst_pos i q h1; omega
      · rw [List.mem_singleton] at h1; rw [h1, pst2]; omega
    | false =>
      rw [hc, cond_false] at h'
      have := pst_pos i q h'; omega
def u64s (l : List Nat) : List AV := l.map fun q => AV.int .u64 (q : Nat)
theorem u64s_get {l : List Nat} {j : Nat} (hj : j < l.length) : (u64s l)[j]? = some (.int .u64 (l[j] : Nat)) := by
  unfold u64s
  rw [List.getElem?_map, List.getElem?_eq_getElem hj]
  rfl
/-- A list of primes in memory. -/
def PS (h : AH) (v : AV) (L : List Nat) : Prop := ∃ id, v = .sl id 0 L.length 1 none ∧ h.get id = some (.cells (u64s L) true false) ∧ id < h.nx
theorem ps_fr {h h' : AH} {v : AV} {L : List Nat} (hp : PS h v L) (hf : Fr h h') : PS h' v L := by
  obtain ⟨id, h1, h2, h3⟩ := hp
  exact ⟨id, h1, (hf.get id h3).trans h2, Nat.lt_of_lt_of_le h3 hf.nx⟩

theorem ai64 : appI Tryz.prog 41 = some (1, 8) := by kernel_rfl
theorem pApp0 {h : AH} {p id : Nat} (hid : h.get id = some (.cells [.int .u64 (p : Nat)] true false)) :
    evAppend Tryz.prog h #[355, 355] .nilsl (.sl id 0 1 1 (some 1)) = some (.val (.sl h.nx 0 1 1 none) (h.new (.cells [.int .u64 (p : Nat)] true false))) := by
  have hnew : firstA h 1 1 (.sl id 0 1 1 (some 1)) = some [.int .u64 (p : Nat)] := by
    rw [firstA_sl hid (Nat.le_refl _) (by simp)]; simp
  rw [evAppend_eq Tryz.underlying355 Tryz.underlying355 rfl ai64 (len := 0) (old := []) rfl hnew rfl (by simp [firstA]) rfl (by omega) (by omega) rfl]
  rw [if_neg (by omega)]
  rfl
theorem pApp {h : AH} {v : AV} {L : List Nat} {p id : Nat} (hp : PS h v L) (hl : L.length ≤ 1000) (hid : h.get id = some (.cells [.int .u64 (p : Nat)] true false)) :
    ∃ v' h', evAppend Tryz.prog h #[355, 355] v (.sl id 0 1 1 (some 1)) = some (.val v' h') ∧ PS h' v' (L ++ [p]) ∧ h.nx ≤ h'.nx ∧ ∀ j o, h.get j = some o → (∀ c, v ≠ .sl j 0 L.length 1 c) → j < h.nx → h'.get j = some o := by
  have hnew : firstA h 1 1 (.sl id 0 1 1 (some 1)) = some [.int .u64 (p : Nat)] := by
    rw [firstA_sl hid (Nat.le_refl _) (by simp)]; simp
  obtain ⟨i, rfl, hg, hi⟩ := hp
  have hold : firstA h 1 L.length (.sl i 0 L.length 1 none) = some (u64s L) := by
    rw [firstA_sl hg (Nat.le_refl _) (by simp [u64s])]; simp [u64s, List.take_of_length_le]
  rw [evAppend_eq Tryz.underlying355 Tryz.underlying355 rfl ai64 rfl hnew rfl hold rfl (by omega) (by omega) rfl]
  rw [if_neg (by omega)]
  simp only
  have ho : ownBlock h i = true := by unfold ownBlock; rw [hg]
  have ht : textBlock h i = false := by unfold textBlock; rw [hg]
  rw [if_pos ho, ht]
  refine ⟨_, _, rfl, ⟨_, by rw [List.length_append]; rfl, ?_, ?_⟩, ?_, fun j o hj hne hjn => ?_⟩
  · rw [AH.get_new_eq rfl]
    simp [u64s]
  · simp [AH.nx_new]
  · simp [AH.nx_new, AH.del]
  · have h1 : j ≠ i := fun e => by subst e; exact hne none rfl
    have h2 : j ≠ (h.del i).nx := by show j ≠ h.nx; omega
    rw [AH.get_new_ne h2, AH.get_del, if_neg h1]
    exact hj

theorem tmodN (p q : Nat) : ((p : Int).tmod (q : Int)) = ((p % q : Nat) : Int) := by
  rw [Int.tmod_eq_emod_of_nonneg (by omega)]; rfl
theorem all_take_succ {α : Type} (f : α → Bool) (l : List α) (j : Nat) (hj : j < l.length) : (l.take (j + 1)).all f = ((l.take j).all f && f l[j]) := by
  rw [List.take_succ_eq_append_getElem hj, List.all_append]; simp
theorem decN (p q : Nat) : (decide ¬((p % q : Nat) : Int) = 0) = !Nat.beq (p % q) 0 := by
  rw [nat_beq_dec]; by_cases h : p % q = 0
  · rw [h]; rfl
  · have : ¬ ((p % q : Nat) : Int) = 0 := by omega
    simp only [h, this, not_false_eq_true, decide_true, decide_false, Bool.not_false]

/-! ### The program's primes -/
def CP (h : AH) (c p : Nat) : Prop := h.get c = some (.cells [.int .u64 (p : Nat)] true false)
theorem decZ (p q : Nat) : (decide (((p % q : Nat) : Int) = 0)) = Nat.beq (p % q) 0 := by
  rw [nat_beq_dec]; by_cases h : p % q = 0
  · rw [h]; rfl
  · have : ¬ ((p % q : Nat) : Int) = 0 := by omega
    simp only [h, this, decide_false]
theorem divides {S : Sums} (hS : ∀ args h, S 570 args h = none) {c p q : Nat} {h : AH} (hc : CP h c p) (hq : q ≠ 0) :
    RnC Tryz.prog S 570 [.int .u64 (q : Nat), .ptr c 0] h fun v h' => v = .bool (Nat.beq (p % q) 0) ∧ h' = h := by
  refine RnC.enter' Tryz.f570 _ 8 [.tmp 3] (hS _ _) bd570 Tryz.func570 rfl rfl rfl ?_
  unfold CP at hc
  simp (maxSteps := 1000000) -dsimp (disch := (repeat first | rw [AH.nx_new] | rw [AH.nx_put]); first | done | omega) only [go_sem, evLen, hc, Tryz.underlying41, intA, tmodN, Int.natCast_eq_zero, hq, decZ]
  exact ⟨by rw [nat_beq_dec], trivial⟩
theorem any_take_succ {α : Type} (f : α → Bool) (l : List α) (j : Nat) (hj : j < l.length) : (l.take (j + 1)).any f = ((l.take j).any f || f l[j]) := by
  rw [List.take_succ_eq_append_getElem hj, List.any_append]; simp
def prS (S : Sums) : Prop := (∀ args h, S 570 args h = none) ∧ (∀ args h, S 605 args h = none) ∧ (∀ args h, S 569 args h = none) ∧ ∀ args h, S 518 args h = none
abbrev clo (c : Nat) : AV := .func (.func 570) [] [.ptr c 0]
set_option maxHeartbeats 4000000 in
theorem index {S : Sums} (hS : prS S) {c p id : Nat} {L : List Nat} {h : AH} (hg : h.get id = some (.cells (u64s L) true false)) (hc : CP h c p) (hl : L.length ≤ 1000) (hpos : ∀ q ∈ L, 0 < q) :
    RnC Tryz.prog S 605 [.sl id 0 L.length 1 none, clo c] h fun u h' => h' = h ∧ ∃ k : Int, u = .int .i64 k ∧ decide (k ≥ 0) = L.any fun q => Nat.beq (p % q) 0 := by
  refine RnC.enter' Tryz.f605 _ 19 [.tmp 4] (hS.2.1 _ _) bd605 Tryz.func605 rfl rfl rfl ?_
  simp (maxSteps := 1000000) -dsimp (disch := (repeat first | rw [AH.nx_new] | rw [AH.nx_put]); first | done | omega) only [go_sem, evLen]
  refine loopK_of (RnL.rounds (Q := fun ex s => s.h = h ∧ s.d = [] ∧ ((ex = .exit 0 ∧ (L.any fun q => Nat.beq (p % q) 0) = false) ∨ (ex = .ret ∧ (L.any fun q => Nat.beq (p % q) 0) = true ∧ ∃ k : Nat, s.t.get 4 = some (.int .i64 (k : Nat)))))
    (fun m s => s.h = h ∧ s.d = [] ∧ ∃ j, m = L.length - j ∧ j ≤ L.length ∧ s.t.get 0 = some (.sl id 0 L.length 1 none) ∧ s.t.get 1 = some (clo c) ∧ s.t.get 7 = some (.int .i64 (L.length : Nat)) ∧ s.t.get 8 = some (.int .i64 (j : Nat)) ∧ ((L.take j).any fun q => Nat.beq (p % q) 0) = false) ?_ L.length ?_) ?_
  · rintro m ⟨t, h2, d⟩ ⟨e1, e2, j, rfl, hj, g0, g1, g7, g8, gb⟩
    dsimp only at e1 e2 g0 g1 g7 g8
    subst e1 e2
    by_cases hjl : j < L.length
    · have c2 : (j : Int) < L.length := by omega
      have hq := u64s_get hjl
      have hq0 : L[j] ≠ 0 := by have := hpos _ (List.getElem_mem hjl); omega
      have hat := any_take_succ (fun q => Nat.beq (p % q) 0) L j hjl
      simp (maxSteps := 1000000) -dsimp (disch := (repeat first | rw [AH.nx_new] | rw [AH.nx_put]); first | done | omega) only [go_sem, evLen, g0, g1, g7, g8, c2, hg, hq, hjl, Nat.mul_one]
      refine callK_of (divides hS.1 hc hq0) ?_
      rintro u h' ⟨rfl, rfl⟩
      cases hb : Nat.beq (p % L[j]) 0 with
      | true =>
        simp (maxSteps := 1000000) -dsimp (disch := (repeat first | rw [AH.nx_new] | rw [AH.nx_put]); first | done | omega) only [go_sem, evLen]
        refine ⟨trivial, trivial, .inr ⟨trivial, ?_, j, rfl⟩⟩
        rw [List.any_eq_true]
        exact ⟨L[j], List.getElem_mem hjl, hb⟩
      | false =>
        simp (maxSteps := 1000000) -dsimp (disch := (repeat first | rw [AH.nx_new] | rw [AH.nx_put]); first | done | omega) only [go_sem, evLen, g8]
        exact ⟨L.length - (j + 1), by omega, trivial, trivial, j + 1, rfl, by omega, g0, g1, g7, rfl, by rw [hat, gb, hb]; rfl⟩
    · have hje : j = L.length := by omega
      subst hje
      have c2 : ¬ ((L.length : Nat) : Int) < L.length := by omega
      rw [List.take_length] at gb
      simp (maxSteps := 1000000) -dsimp (disch := (repeat first | rw [AH.nx_new] | rw [AH.nx_put]); first | done | omega) only [go_sem, evLen, g0, g1, g7, g8, c2]
      exact ⟨trivial, trivial, .inl ⟨trivial, gb⟩⟩
  · simp (maxSteps := 1000000) -dsimp (disch := (repeat first | rw [AH.nx_new] | rw [AH.nx_put]); first | done | omega) only [go_sem, evLen]
    exact ⟨trivial, trivial, 0, rfl, Nat.zero_le _, trivial, trivial, trivial, rfl, rfl⟩
  · rintro ex ⟨t, h1, d⟩ ⟨e1, e2, h3⟩
    dsimp only at e1 e2 h3
    subst e1 e2
    rcases h3 with ⟨rfl, ha⟩ | ⟨rfl, ha, k, g4⟩
    · simp (maxSteps := 1000000) -dsimp (disch := (repeat first | rw [AH.nx_new] | rw [AH.nx_put]); first | done | omega) only [go_sem, evLen]
      exact ⟨trivial, _, rfl, by rw [ha]; decide⟩
    · simp (maxSteps := 1000000) -dsimp (disch := (repeat first | rw [AH.nx_new] | rw [AH.nx_put]); first | done | omega) only [go_sem, evLen, g4]
      exact ⟨trivial, _, rfl, by rw [ha]; simp⟩
theorem index0 {S : Sums} (hS : prS S) {c : Nat} {h : AH} :
    RnC Tryz.prog S 605 [.nilsl, clo c] h fun u h' => h' = h ∧ u = .int .i64 (-1) := by
  refine RnC.enter' Tryz.f605 _ 19 [.tmp 4] (hS.2.1 _ _) bd605 Tryz.func605 rfl rfl rfl ?_
  simp (maxSteps := 1000000) -dsimp (disch := (repeat first | rw [AH.nx_new] | rw [AH.nx_put]); first | done | omega) only [go_sem, evLen]
  refine loopK_of (Q := fun ex s => s.h = h ∧ s.d = [] ∧ ex = .exit 0) (RnL.unroll ?_) ?_
  · simp (maxSteps := 1000000) -dsimp (disch := (repeat first | rw [AH.nx_new] | rw [AH.nx_put]); first | done | omega) only [go_sem, evLen]
    exact ⟨trivial, trivial, trivial⟩
  · rintro ex ⟨t, h1, d⟩ ⟨e1, e2, rfl⟩
    dsimp only at e1 e2
    subst e1 e2
    simp (maxSteps := 1000000) -dsimp (disch := (repeat first | rw [AH.nx_new] | rw [AH.nx_put]); first | done | omega) only [go_sem, evLen]
    exact ⟨trivial, trivial⟩
theorem contains {S : Sums} (hS : prS S) {c p id : Nat} {L : List Nat} {h : AH} (hg : h.get id = some (.cells (u64s L) true false)) (hc : CP h c p) (hl : L.length ≤ 1000) (hpos : ∀ q ∈ L, 0 < q) :
    RnC Tryz.prog S 569 [.sl id 0 L.length 1 none, clo c] h fun u h' => h' = h ∧ u = .bool (L.any fun q => Nat.beq (p % q) 0) := by
  refine RnC.enter' Tryz.f569 _ 9 [.tmp 4] (hS.2.2.1 _ _) bd569 Tryz.func569 rfl rfl rfl ?_
  simp (maxSteps := 1000000) -dsimp (disch := (repeat first | rw [AH.nx_new] | rw [AH.nx_put]); first | done | omega) only [go_sem, evLen]
  refine callK_of (index hS hg hc hl hpos) ?_
  rintro u h' ⟨rfl, k, rfl, hk⟩
  simp (maxSteps := 1000000) -dsimp (disch := (repeat first | rw [AH.nx_new] | rw [AH.nx_put]); first | done | omega) only [go_sem, evLen]
  exact ⟨trivial, by rw [← hk]⟩
theorem contains0 {S : Sums} (hS : prS S) {c : Nat} {h : AH} :
    RnC Tryz.prog S 569 [.nilsl, clo c] h fun u h' => h' = h ∧ u = .bool false := by
  refine RnC.enter' Tryz.f569 _ 9 [.tmp 4] (hS.2.2.1 _ _) bd569 Tryz.func569 rfl rfl rfl ?_
  simp (maxSteps := 1000000) -dsimp (disch := (repeat first | rw [AH.nx_new] | rw [AH.nx_put]); first | done | omega) only [go_sem, evLen]
  refine callK_of (index0 hS) ?_
  rintro u h' ⟨rfl, rfl⟩
  simp (maxSteps := 1000000) -dsimp (disch := (repeat first | rw [AH.nx_new] | rw [AH.nx_put]); first | done | omega) only [go_sem, evLen]
  exact ⟨trivial, trivial⟩
theorem all_not_any (L : List Nat) (p : Nat) : (L.all fun q => !Nat.beq (p % q) 0) = !(L.any fun q => Nat.beq (p % q) 0) := by
  induction L with
  | nil => rfl
  | cons a l ih => rw [List.all_cons, List.any_cons, ih]; cases Nat.beq (p % a) 0 <;> rfl
set_option maxHeartbeats 4000000 in
/-- The program's first primes. -/
theorem primesP {S : Sums} (hS : prS S) (n N : Nat) (hlen : (pst N).1.length = n) (hlt : ∀ i, i < N → (pst i).1.length < n) (hn : n ≤ 1000) (hN : 0 < N) (hN2 : N ≤ 100000) (h : AH) :
    RnC Tryz.prog S 518 [.int .i64 (n : Nat)] h fun v h' => PS h' v (pst N).1 := by
  refine RnC.enter' Tryz.f518 _ 21 [.tmp 2] (hS.2.2.2 _ _) bd518 Tryz.func518 rfl rfl rfl ?_
  simp (maxSteps := 1000000) -dsimp (disch := (repeat first | rw [AH.nx_new] | rw [AH.nx_put]); first | done | omega) only [go_sem, evLen]
  have hn0 : 0 < n := by have := hlt 0 (by omega); omega
  have c0 : (0 : Int) < n := by omega
  refine loopK_of (RnL.unroll ?_) (Q := fun ex s => ex = .exit 0 ∧ s.d = [] ∧ ∃ v, s.t.get 3 = some v ∧ PS s.h v (pst N).1) ?_
  · simp (maxSteps := 1000000) -dsimp (disch := (repeat first | rw [AH.nx_new] | rw [AH.nx_put]); first | done | omega) only [go_sem, evLen, c0]
    refine callK_of (contains0 hS) ?_
    rintro u h' ⟨rfl, rfl⟩
    have ha : evAppend Tryz.prog (((h.new (.cells [.int .u64 0] true false)).put h.nx (.cells [.int .u64 2] true false)).new (.cells [.int .u64 2] true false)) #[355, 355] .nilsl (.sl (h.nx + 1) 0 1 1 (some 1)) =
        some (.val (.sl (h.nx + 2) 0 1 1 none) ((((h.new (.cells [.int .u64 0] true false)).put h.nx (.cells [.int .u64 2] true false)).new (.cells [.int .u64 2] true false)).new (.cells [.int .u64 2] true false))) := pApp0 (p := 2) (AH.get_new_eq rfl)
    simp (maxSteps := 1000000) -dsimp (disch := (repeat first | rw [AH.nx_new] | rw [AH.nx_put]); first | done | omega) only [go_sem, evLen, ha, Tryz.underlying355, Tryz.underlying41, intA]
    refine RnL.rounds (fun m s => s.d = [] ∧ ∃ i id c, m = N - i ∧ i ≤ N ∧ s.t.get 0 = some (.int .i64 (n : Nat)) ∧ s.t.get 3 = some (.sl id 0 (pst i).1.length 1 none) ∧ s.t.get 4 = some (.ptr c 0) ∧ s.h.get id = some (.cells (u64s (pst i).1) true false) ∧ id < s.h.nx ∧ CP s.h c (i + 2) ∧ c < s.h.nx) ?_ (N - 1) ?_
    · rintro m ⟨t, h1, d⟩ ⟨e1, i, id, c, rfl, hi, g0, g3, g4, hg, hid, hc, hcn⟩
      dsimp only at e1 g0 g3 g4 hg hid hc hcn
      subst e1
      by_cases hiN : i < N
      · have c1 : (((pst i).1.length : Nat) : Int) < n := by have := hlt i hiN; omega
        have hl1 : (pst i).1.length ≤ 1000 := by have := hlt i hiN; omega
        have hpos := pst_pos i
        have hs1 : (pst (i + 1)).1 = cond ((pst i).1.all fun q => !Nat.beq ((i + 2) % q) 0) ((pst i).1 ++ [i + 2]) (pst i).1 := by rw [← pst2 i]; rfl
        rw [all_not_any] at hs1
        have hw : IntKind.u64.wrap (((i + 2 : Nat) : Int) + 1) = ((i + 1 + 2 : Nat) : Int) := by rw [wrapU]; omega
        have hne : c ≠ id := fun e => by
          subst e
          have h3 := hc.symm.trans hg
          injection h3 with h3
          injection h3 with h3
          cases hl : (pst i).1 with
          | nil => rw [hl] at h3; cases h3
          | cons a l =>
            rw [hl] at h3
            have h4 : AV.int .u64 ((i + 2 : Nat) : Int) = AV.int .u64 (a : Nat) := by injection h3
            injection h4 with _ h4
            have := (hpos a (by rw [hl]; exact List.mem_cons_self ..)).2
            omega
        generalize hL : (pst i).1 = L at *
        simp (maxSteps := 1000000) -dsimp (disch := (repeat first | rw [AH.nx_new] | rw [AH.nx_put]); first | done | omega) only [go_sem, evLen, g0, g3, g4, c1]
        refine callK_of (contains hS hg hc hl1 (fun q hq => (hpos q hq).1)) ?_
        rintro u h' ⟨rfl, rfl⟩
        unfold CP at hc
        cases hb : L.any fun q => Nat.beq ((i + 2) % q) 0 with
        | false =>
          rw [hb] at hs1
          have hf := Fr.new h' (.cells [.int .u64 ((i + 2 : Nat) : Int)] true false)
          obtain ⟨v', h2, ha2, ⟨id', rfl, hg', hid'⟩, hnx, hk⟩ := pApp (p := i + 2) (ps_fr ⟨id, rfl, hg, hid⟩ hf) hl1 (id := h'.nx) (AH.get_new_eq rfl)
          have hc2 := hk c _ ((hf.get c hcn).trans hc) (fun q e => by injection e with e; exact hne e.symm) (by show c < h'.nx + 1; omega)
          have hn2 : h'.nx + 1 ≤ h2.nx := hnx
          simp (maxSteps := 1000000) -dsimp (disch := (repeat first | rw [AH.nx_new] | rw [AH.nx_put]); first | done | omega) only [go_sem, evLen, g0, g3, g4, hc, ha2, hc2, Tryz.underlying355, Tryz.underlying41, intA, hw]
          exact ⟨N - (i + 1), by omega, trivial, i + 1, id', h2.nx, rfl, by omega, trivial, by rw [hs1]; rfl, rfl, by rw [hs1]; rw [AH.get_put_ne (by omega), AH.get_put_ne (by omega), AH.get_new_ne (by omega)]; exact hg', by first | omega | (simp only [AH.nx_put, AH.nx_new]; omega), AH.get_put_eq rfl, by first | omega | simp [AH.nx_put, AH.nx_new]⟩
        | true =>
          rw [hb] at hs1
          simp (maxSteps := 1000000) -dsimp (disch := (repeat first | rw [AH.nx_new] | rw [AH.nx_put]); first | done | omega) only [go_sem, evLen, g0, g3, g4, hc, Tryz.underlying41, intA, hw]
          exact ⟨N - (i + 1), by omega, trivial, i + 1, id, h'.nx, rfl, by omega, trivial, by rw [hs1]; rfl, rfl, by rw [hs1]; rw [AH.get_put_ne (by omega), AH.get_put_ne (by omega), AH.get_new_ne (by omega)]; exact hg, by first | omega | (simp only [AH.nx_put, AH.nx_new]; omega), AH.get_put_eq rfl, by first | omega | simp [AH.nx_put, AH.nx_new]⟩
      · have hie : i = N := by omega
        subst hie
        have c1 : ¬ (((pst i).1.length : Nat) : Int) < n := by omega
        simp (maxSteps := 1000000) -dsimp (disch := (repeat first | rw [AH.nx_new] | rw [AH.nx_put]); first | done | omega) only [go_sem, evLen, g0, g3, g4, c1]
        exact ⟨trivial, trivial, _, rfl, id, rfl, hg, hid⟩
    · simp (maxSteps := 1000000) -dsimp (disch := (repeat first | rw [AH.nx_new] | rw [AH.nx_put]); first | done | omega) only [go_sem, evLen]
      exact ⟨trivial, 1, h.nx + 2, h.nx + 3, rfl, by omega, trivial, rfl, rfl, by rw [AH.get_put_ne (by omega), AH.get_put_ne (by omega), AH.get_new_ne (by simp only [AH.nx_new, AH.nx_put]; omega), AH.get_new_eq (by simp only [AH.nx_new, AH.nx_put])]; rfl, by omega, by unfold CP; rw [AH.get_put_eq (by omega)]; rfl, by omega⟩
  · rintro ex ⟨t, h1, d⟩ ⟨rfl, e1, v, g3, hp⟩
    dsimp only at e1 g3 hp
    subst e1
    simp (maxSteps := 1000000) -dsimp (disch := (repeat first | rw [AH.nx_new] | rw [AH.nx_put]); first | done | omega) only [go_sem, evLen, g3]
    exact hp
end Go.Proofs.YtmfbcniknjecbaaGreatDoor
