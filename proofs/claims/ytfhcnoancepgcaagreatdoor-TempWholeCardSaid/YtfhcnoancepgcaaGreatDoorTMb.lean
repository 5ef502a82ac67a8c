/- Lists of blocks, continued: what At and Fits answer, in the program and in the document's answer: both the same. Conditions: the digest's constants are summaries; none else. -/
import Derived.Test.YtfhcnoancepgcaaGreatDoorTMa
namespace Go.Proofs.YtfhcnoancepgcaaGreatDoor.dig
open Go Go.Abs Go.Proofs
set_option maxRecDepth 100000
set_option linter.unusedVariables false
set_option linter.unusedSimpArgs false

theorem chk_0 {s ln : Int} {n : Nat} (h : chk s ln n = 0) : 0 ≤ ln ∧ ln ≤ 4194304 ∧ 1 ≤ s ∧ s ≤ 65536 ∧ n ≤ 1024 ∧ cnt ln s = n := by
  unfold chk at h
  split at h
  · cases h
  · split at h
    · cases h
    · omega
/-- Where a block begins and ends, if it is one. -/
def isB (s ln : Int) (m : Nat) (n : Int) : Prop := chk s ln m = 0 ∧ 0 ≤ n ∧ n < m
instance (s ln : Int) (m : Nat) (n : Int) : Decidable (isB s ln m n) := inferInstanceAs (Decidable (_ ∧ _ ∧ _))
def frm (s n : Int) : Int := n * s
def too (s ln n : Int) : Int := min ln ((n + 1) * s)
def atV (s ln : Int) (m : Nat) (n : Int) : AV := if isB s ln m n then .tup [.int .i64 (frm s n), .int .i64 (too s ln n), .bool true] else .tup [.int .i64 0, .int .i64 0, .bool false]
theorem mul_b {s n : Int} (h1 : 0 ≤ n) (h2 : n ≤ 1025) (h3 : 1 ≤ s) (h4 : s ≤ 65536) : 0 ≤ n * s ∧ n * s ≤ 67174400 := by
  have h5 := Int.mul_nonneg h1 (show 0 ≤ s by omega)
  have h6 : n * s ≤ 1025 * 65536 := Int.mul_le_mul h2 h4 (by omega) (by omega)
  omega

section
variable {S : Sums}
def Nt (S : Sums) : Prop := ∀ f args h, f = 9 ∨ f = 23 ∨ f = 25 ∨ f = 30 ∨ f = 28 ∨ f = 63 ∨ f = 64 ∨ f = 88 → S f args h = none

theorem at49 (hS : Nt S) {h : AH} {s ln : Int} {dv : AV} {D : List (List Nat)} {n : Int} (hD : Ds h dv D) (hb : isB s ln D.length n) : RnC Tryz.prog S 88 [.agg [.int .i64 s, .int .i64 ln, dv], .int .i64 n] h fun r h' => r = .tup [.int .i64 (frm s n), .int .i64 (too s ln n)] ∧ Fr h h' := by
  refine RnC.enter' Tryz.f88 _ 18 [.tmp 4, .tmp 5] (hS _ _ _ (by simp)) bd88 Tryz.func88 rfl rfl rfl ?_
  obtain ⟨ldv, sdv, odv⟩ := hD.len
  obtain ⟨h0, h1, h2⟩ := hb
  obtain ⟨k1, k2, k3, k4, k5, k6⟩ := chk_0 h0
  have b1 := mul_b (s := s) (n := n) h1 (by omega) k3 k4
  have b2 := mul_b (s := s) (n := n + 1) (by omega) (by omega) k3 k4
  have w1 : IntKind.i64.wrap (n * s) = frm s n := wrap64_id (by show _ ≤ n * s; omega) (by show n * s ≤ _; omega)
  have w2 : IntKind.i64.wrap ((n + 1) * s) = (n + 1) * s := wrap64_id (by omega) (by omega)
  simp (maxSteps := 1000000) -dsimp (disch := (repeat first | rw [nxn] | rw [nxp]); try omega) only [go_sem, sv_int, sv_bool, ldv, sdv, Nat.mul_one, true_and, implies_true]
  refine syDraw.keep (fun id => id < h.nx + 1) (by kernel_rfl) (by kernel_rfl) ?_
  have rng : h.nx < h.nx + 1 := Nat.lt_succ_self _
  simp (maxSteps := 1000000) -dsimp (disch := (repeat first | rw [nxn] | rw [nxp]); try omega) only [go_sem, w1, w2, rng, sv_int, sv_bool, ldv, sdv, Nat.mul_one, true_and, implies_true]
  exact ⟨rfl, (Fr.new h _).more _ (by rw [AH.nx_new]; omega)⟩

set_option maxHeartbeats 4000000 in
theorem at42 (hS : Nt S) {h : AH} {s ln : Int} {dv : AV} {D : List (List Nat)} {n : Int} (hD : Ds h dv D) : RnC Tryz.prog S 64 [.agg [.int .i64 s, .int .i64 ln, dv], .int .i64 n] h fun r h' => r = atV s ln D.length n ∧ Fr h h' := by
  refine RnC.enter' Tryz.f64 _ 29 [.tmp 4, .tmp 5, .tmp 6] (hS _ _ _ (by simp)) bd64 Tryz.func64 rfl rfl rfl ?_
  obtain ⟨ldv, sdv, odv⟩ := hD.len
  simp (maxSteps := 1000000) -dsimp (disch := (repeat first | rw [nxn] | rw [nxp]); try omega) only [go_sem, sv_int, sv_bool, ldv, sdv, Nat.mul_one, true_and, implies_true]
  refine callK_of (check27 (fun f _ _ hf => hS _ _ _ (by rcases hf with h | h <;> simp [h])) (hD.fr (Fr.new _ _))) ?_
  rintro r h2 ⟨rfl, hf2⟩
  have hn2 : h.nx + 1 ≤ h2.nx := hf2.nx
  have hg2 : ∀ j, j < h.nx + 1 → h2.get j = (h.new (.cells [.int .i64 s, .int .i64 ln, dv] true false)).get j := hf2.get
  have fr2 : Fr h h2 := (Fr.new h _).trans hf2
  by_cases c1 : ((chk s ln D.length : Nat) : Int) = 0
  · by_cases c2 : n < 0
    · simp (maxSteps := 1000000) -dsimp (disch := (repeat first | rw [nxn] | rw [nxp]); try omega) only [go_sem, c1, c2, hg2, sv_int, sv_bool, ldv, sdv, Nat.mul_one, true_and, implies_true]
      exact ⟨by rw [atV, if_neg (fun hb => by have := hb.2.1; omega)], fr2⟩
    by_cases c3 : (D.length : Int) ≤ n
    · simp (maxSteps := 1000000) -dsimp (disch := (repeat first | rw [nxn] | rw [nxp]); try omega) only [go_sem, c1, c2, c3, hg2, sv_int, sv_bool, ldv, sdv, Nat.mul_one, true_and, implies_true]
      exact ⟨by rw [atV, if_neg (fun hb => by have := hb.2.2; omega)], fr2⟩
    have hb : isB s ln D.length n := ⟨by omega, by omega, by omega⟩
    simp (maxSteps := 1000000) -dsimp (disch := (repeat first | rw [nxn] | rw [nxp]); try omega) only [go_sem, c1, c2, c3, hg2, sv_int, sv_bool, ldv, sdv, Nat.mul_one, true_and, implies_true]
    refine callK_of (at49 hS (hD.fr fr2) hb) ?_
    rintro r h3 ⟨rfl, hf3⟩
    simp (maxSteps := 1000000) -dsimp (disch := (repeat first | rw [nxn] | rw [nxp]); try omega) only [go_sem]
    exact ⟨by rw [atV, if_pos hb], fr2.trans hf3⟩
  · simp (maxSteps := 1000000) -dsimp (disch := (repeat first | rw [nxn] | rw [nxp]); try omega) only [go_sem, c1, hg2, sv_int, sv_bool, ldv, sdv, Nat.mul_one, true_and, implies_true]
    exact ⟨by rw [atV, if_neg (fun hb => by have := hb.1; omega)], fr2⟩

set_option maxHeartbeats 4000000 in
theorem at9 (hS : Nt S) {h : AH} {s ln : Int} {dv : AV} {D : List (List Nat)} {n : Int} (hD : Ds h dv D) : RnC Tryz.prog S 9 [.agg [.int .i64 s, .int .i64 ln, dv], .int .i64 n] h fun r h' => r = atV s ln D.length n ∧ Fr h h' := by
  refine RnC.enter' Tryz.f9 _ 33 [.tmp 4, .tmp 5, .tmp 6] (hS _ _ _ (by simp)) bd9 Tryz.func9 rfl rfl rfl ?_
  obtain ⟨ldv, sdv, odv⟩ := hD.len
  simp (maxSteps := 1000000) -dsimp (disch := (repeat first | rw [nxn] | rw [nxp]); try omega) only [go_sem, sv_int, sv_bool, ldv, sdv, Nat.mul_one, true_and, implies_true]
  refine callK_of (check29 (fun f _ _ hf => hS _ _ _ (by rcases hf with h | h <;> simp [h])) (hD.fr (Fr.new _ _))) ?_
  rintro r h2 ⟨rfl, hf2⟩
  have hn2 : h.nx + 1 ≤ h2.nx := hf2.nx
  have hg2 : ∀ j, j < h.nx + 1 → h2.get j = (h.new (.cells [.int .i64 s, .int .i64 ln, dv] true false)).get j := hf2.get
  have fr2 : Fr h h2 := (Fr.new h _).trans hf2
  by_cases c1 : ((chk s ln D.length : Nat) : Int) = 0
  · by_cases c2 : n < 0
    · simp (maxSteps := 1000000) -dsimp (disch := (repeat first | rw [nxn] | rw [nxp]); try omega) only [go_sem, c1, c2, hg2, sv_int, sv_bool, ldv, sdv, Nat.mul_one, true_and, implies_true]
      exact ⟨by rw [atV, if_neg (fun hb => by have := hb.2.1; omega)], fr2⟩
    by_cases c3 : (D.length : Int) ≤ n
    · simp (maxSteps := 1000000) -dsimp (disch := (repeat first | rw [nxn] | rw [nxp]); try omega) only [go_sem, c1, c2, c3, hg2, sv_int, sv_bool, ldv, sdv, Nat.mul_one, true_and, implies_true]
      exact ⟨by rw [atV, if_neg (fun hb => by have := hb.2.2; omega)], fr2⟩
    have hb : isB s ln D.length n := ⟨by omega, by omega, by omega⟩
    have hb0 := hb
    obtain ⟨h0, h1, h2'⟩ := hb0
    obtain ⟨k1, k2, k3, k4, k5, k6⟩ := chk_0 h0
    have b1 := mul_b (s := s) (n := n) h1 (by omega) k3 k4
    have b2 := mul_b (s := s) (n := n + 1) (by omega) (by omega) k3 k4
    have w1 : IntKind.i64.wrap (n * s) = frm s n := wrap64_id (by show _ ≤ n * s; omega) (by show n * s ≤ _; omega)
    have w2 : IntKind.i64.wrap ((n + 1) * s) = (n + 1) * s := wrap64_id (by omega) (by omega)
    simp (maxSteps := 1000000) -dsimp (disch := (repeat first | rw [nxn] | rw [nxp]); try omega) only [go_sem, c1, c2, c3, hg2, sv_int, sv_bool, ldv, sdv, Nat.mul_one, true_and, implies_true]
    refine syDraw.keep (fun id => id < h.nx + 1) (by kernel_rfl) (by kernel_rfl) ?_
    have rng : h.nx < h.nx + 1 := Nat.lt_succ_self _
    simp (maxSteps := 1000000) -dsimp (disch := (repeat first | rw [nxn] | rw [nxp]); try omega) only [go_sem, w1, w2, rng, hg2, sv_int, sv_bool, ldv, sdv, Nat.mul_one, true_and, implies_true]
    exact ⟨by rw [atV, if_pos hb]; rfl, fr2.more _ (by omega)⟩
  · simp (maxSteps := 1000000) -dsimp (disch := (repeat first | rw [nxn] | rw [nxp]); try omega) only [go_sem, c1, hg2, sv_int, sv_bool, ldv, sdv, Nat.mul_one, true_and, implies_true]
    exact ⟨by rw [atV, if_neg (fun hb => by have := hb.1; omega)], fr2⟩

/-! ### Digests compared -/
theorem eqEs_byC (h : AH) : ∀ (n i : Nat) (a b : List Nat), a.length = i + n → b.length = i + n → eqEs Tryz.prog (eqA Tryz.prog h 11) 5 1 (byC a) (byC b) n i = some (decide (a.drop i = b.drop i))
  | 0, i, a, b, ha, hb => by
    rw [List.drop_of_length_le (by omega), List.drop_of_length_le (by omega)]
    simp [eqEs]
  | n + 1, i, a, b, ha, hb => by
    have hai : i < a.length := by omega
    have hbi : i < b.length := by omega
    have p1 : partA Tryz.prog 5 (byC a) (i * 1) = some (.int .u8 (a[i] : Int)) := by
      simp [partA, Tryz.underlying5, aggT, byC, hai]
    have p2 : partA Tryz.prog 5 (byC b) (i * 1) = some (.int .u8 (b[i] : Int)) := by
      simp [partA, Tryz.underlying5, aggT, byC, hbi]
    have e : eqA Tryz.prog h 11 5 (.int .u8 (a[i] : Int)) (.int .u8 (b[i] : Int)) = some ((a[i] : Int) == (b[i] : Int)) := by
      show eqA Tryz.prog h (10 + 1) 5 _ _ = _
      unfold eqA
      rw [Tryz.underlying5]
      simp
    have ih := eqEs_byC h n (i + 1) a b (by omega) (by omega)
    unfold eqEs
    simp only [p1, p2, e, Option.bind_eq_bind, Option.bind_some, ih]
    have hda := List.drop_eq_getElem_cons hai
    have hdb := List.drop_eq_getElem_cons hbi
    by_cases hab : a[i] = b[i]
    · have h1 : (a.drop (i + 1) = b.drop (i + 1)) ↔ (a.drop i = b.drop i) := by
        rw [hda, hdb, hab]
        exact ⟨fun hh => by rw [hh], fun hh => (List.cons.inj hh).2⟩
      have h2 : ((a[i] : Int) == (b[i] : Int)) = true := by rw [hab]; simp
      simp only [h2, if_true]
      exact congrArg some (decide_eq_decide.2 h1)
    · have h1 : ¬ (a.drop i = b.drop i) := by
        intro hh
        rw [hda, hdb] at hh
        exact hab (List.cons.inj hh).1
      have h2 : ((a[i] : Int) == (b[i] : Int)) = false := by
        simp only [beq_eq_false_iff_ne, ne_eq]
        omega
      simp [h2, h1]
theorem ne56 (h : AH) {a b : List Nat} (ha : a.length = 32) (hb : b.length = 32) : binA Tryz.prog h .neq 62 (.agg (byC a)) (.agg (byC b)) = some (.bool (decide (a ≠ b))) := by
  have hg : Tryz.prog.eqGuardType Tryz.prog.depth 62 = false := by kernel_rfl
  have h1 : binA Tryz.prog h .neq 62 (.agg (byC a)) (.agg (byC b)) = (eqA Tryz.prog h 12 62 (.agg (byC a)) (.agg (byC b))).map fun e => .bool !e := by
    simp [binA, eqOk, hg]
  rw [h1]
  have h2 : eqA Tryz.prog h 12 62 (.agg (byC a)) (.agg (byC b)) = some (decide (a = b)) := by
    show eqA Tryz.prog h (11 + 1) 62 _ _ = _
    unfold eqA
    rw [Tryz.underlying62]
    simp only [tz5, Option.bind_eq_bind, Option.bind_some]
    have := eqEs_byC h 32 0 a b (by omega) (by omega)
    rw [List.drop_zero, List.drop_zero] at this
    exact this
  rw [h2]
  simp

/-- Whether bytes are a block's. -/
def fit (s ln : Int) (D : List (List Nat)) (n : Int) (l : List Nat) : Nat :=
  if chk s ln D.length ≠ 0 then chk s ln D.length else if ¬ isB s ln D.length n then 6 else if (l.length : Int) ≠ too s ln n - frm s n ∨ ofS l ≠ D.getD n.toNat [] then 13 else 0
theorem ofS_len (l : List Nat) : (ofS l).length = 32 := rfl

set_option maxHeartbeats 8000000 in
theorem fits31 (hS : Nt S) (hd : Dg S) {h : AH} {s ln : Int} {dv bv : AV} {D : List (List Nat)} {n : Int} {l : List Nat} (hD : Ds h dv D) (hD32 : ∀ d ∈ D, d.length = 32) (hb : Bs h bv l) (hl : ∀ b ∈ l, b < 256) (hln : l.length ≤ 137438953472) :
    RnC Tryz.prog S 28 [.agg [.int .i64 s, .int .i64 ln, dv], .int .i64 n, bv] h fun r h' => r = .int .i64 (fit s ln D n l : Nat) ∧ Fr h h' := by
  refine RnC.enter' Tryz.f28 _ 43 [.tmp 6] (hS _ _ _ (by simp)) bd28 Tryz.func28 rfl rfl rfl ?_
  obtain ⟨ldv, sdv, odv⟩ := hD.len
  obtain ⟨lbv, obv⟩ := conv_len hb
  simp (maxSteps := 1000000) -dsimp (disch := (repeat first | rw [nxn] | rw [nxp]); try omega) only [go_sem, sv_int, sv_bool, ldv, sdv, Nat.mul_one, true_and, implies_true]
  refine callK_of (check27 (fun f _ _ hf => hS _ _ _ (by rcases hf with h | h <;> simp [h])) (hD.fr (Fr.new _ _))) ?_
  rintro r h2 ⟨rfl, hf2⟩
  have hn2 : h.nx + 1 ≤ h2.nx := hf2.nx
  have hg2 : ∀ j, j < h.nx + 1 → h2.get j = (h.new (.cells [.int .i64 s, .int .i64 ln, dv] true false)).get j := hf2.get
  have fr2 : Fr h h2 := (Fr.new h _).trans hf2
  by_cases c1 : ((chk s ln D.length : Nat) : Int) = 0
  · have c1' : chk s ln D.length = 0 := by omega
    simp (maxSteps := 1000000) -dsimp (disch := (repeat first | rw [nxn] | rw [nxp]); try omega) only [go_sem, c1, hg2, sv_int, sv_bool, ldv, sdv, Nat.mul_one, true_and, implies_true]
    refine callK_of (at42 hS (hD.fr fr2)) ?_
    rintro r h3 ⟨rfl, hf3⟩
    have hn3 := hf3.nx
    have hg3 : ∀ j, j < h.nx + 1 → h3.get j = (h.new (.cells [.int .i64 s, .int .i64 ln, dv] true false)).get j := fun j hj => (hf3.get j (by omega)).trans (hg2 j hj)
    have fr3 : Fr h h3 := fr2.trans hf3
    by_cases hB : isB s ln D.length n
    · rw [atV, if_pos hB]
      simp (maxSteps := 1000000) -dsimp (disch := (repeat first | rw [nxn] | rw [nxp]); try omega) only [go_sem, hg3, sv_int, sv_bool, ldv, sdv, Nat.mul_one, true_and, implies_true]
      refine syDraw.keep (fun id => id < h.nx + 1) (by kernel_rfl) (by kernel_rfl) ?_
      have rng : h.nx < h.nx + 1 := Nat.lt_succ_self _
      obtain ⟨k, hk⟩ : ∃ k : Nat, n = (k : Int) := ⟨n.toNat, by have := hB.2.1; omega⟩
      subst hk
      have hkl : k < D.length := by have := hB.2.2; omega
      obtain ⟨k0, k1, k2⟩ := hB
      obtain ⟨q1, q2, q3, q4, q5, q6⟩ := chk_0 k0
      have b1 := mul_b (s := s) (n := (k : Int)) k1 (by omega) q3 q4
      have b2 := mul_b (s := s) (n := (k : Int) + 1) (by omega) (by omega) q3 q4
      have w3 : IntKind.i64.wrap (too s ln (k : Int) - frm s (k : Int)) = too s ln (k : Int) - frm s (k : Int) := wrap64_id (by unfold too frm; omega) (by unfold too frm; omega)
      have hgetD : D.getD ((k : Int)).toNat [] = D[k] := by simp [hkl]
      by_cases c4 : ((l.length : Nat) : Int) = too s ln (k : Int) - frm s (k : Int)
      · simp (maxSteps := 1000000) -dsimp (disch := (repeat first | rw [nxn] | rw [nxp]); try omega) only [go_sem, w3, c4, rng, hg3, lbv, sv_int, sv_bool, ldv, sdv, Nat.mul_one, true_and, implies_true]
        refine callK_of (of43 hd (hb.fr (fr3.more _ (by omega))) hl hln) ?_
        rintro r h4 ⟨rfl, hf4⟩
        have hn4 : h3.nx + 17 ≤ h4.nx := hf4.nx
        have hg4 : ∀ j, j < h.nx + 1 → h4.get j = (h.new (.cells [.int .i64 s, .int .i64 ln, dv] true false)).get j := fun j hj => (hf4.get j (by show j < h3.nx + 17; omega)).trans (hg3 j hj)
        have fr4 : Fr h h4 := (fr3.more (h3.nx + 17) (by omega)).trans hf4
        rcases hD with ⟨rfl, rfl⟩ | ⟨id, off, c, cs, ow, tx, rfl, hg, hid, hlen, hel⟩
        · simp at hkl
        · have hgd : h4.get id = some (.cells cs ow tx) := (fr4.get id hid).trans hg
          have hdk := hel k D[k] (List.getElem?_eq_getElem hkl)
          have hl32 : off + k * 32 + 32 ≤ cs.length := by omega
          have hid1 : id < h.nx + 1 := by omega
          by_cases c5 : ofS l = D[k]
          · have nf : ¬ (((l.length : Nat) : Int) ≠ too s ln (k : Int) - frm s (k : Int) ∨ ofS l ≠ D.getD ((k : Int)).toNat []) := by
              rw [hgetD]
              exact fun hh => hh.elim (fun q => q c4) (fun q => q c5)
            have hne : ∀ g, binA Tryz.prog g .neq 62 (.agg (byC (ofS l))) (.agg (byC D[k])) = some (.bool false) := fun g => by rw [ne56 g (ofS_len l) (hD32 D[k] (List.getElem_mem hkl))]; simp [c5]
            simp (maxSteps := 1000000) -dsimp (disch := (repeat first | rw [nxn] | rw [nxp]); try omega) only [go_sem, rng, hg4, hgd, hg, hdk, hl32, hid1, hne, sv_byC, sv_int, sv_bool, ldv, sdv, Nat.mul_one, true_and, implies_true]
            first
              | exact ⟨fun id hid => by rw [hg4 id hid, hg3 id hid], by rw [fit, if_neg (by simp [c1']), if_neg (fun hh => hh ⟨k0, k1, k2⟩), if_neg nf]; rfl, fr4⟩
              | exact ⟨by rw [fit, if_neg (by simp [c1']), if_neg (fun hh => hh ⟨k0, k1, k2⟩), if_neg nf]; rfl, fr4⟩
          · have hne : ∀ g, binA Tryz.prog g .neq 62 (.agg (byC (ofS l))) (.agg (byC D[k])) = some (.bool true) := fun g => by rw [ne56 g (ofS_len l) (hD32 D[k] (List.getElem_mem hkl))]; simp [c5]
            simp (maxSteps := 1000000) -dsimp (disch := (repeat first | rw [nxn] | rw [nxp]); try omega) only [go_sem, rng, hg4, hgd, hg, hdk, hl32, hid1, hne, sv_byC, sv_int, sv_bool, ldv, sdv, Nat.mul_one, true_and, implies_true]
            first
              | exact ⟨fun id hid => by rw [hg4 id hid, hg3 id hid], by rw [fit, if_neg (by simp [c1']), if_neg (fun hh => hh ⟨k0, k1, k2⟩), if_pos (.inr (by rw [hgetD]; exact c5))]; rfl, fr4⟩
              | exact ⟨by rw [fit, if_neg (by simp [c1']), if_neg (fun hh => hh ⟨k0, k1, k2⟩), if_pos (.inr (by rw [hgetD]; exact c5))]; rfl, fr4⟩
      · simp (maxSteps := 1000000) -dsimp (disch := (repeat first | rw [nxn] | rw [nxp]); try omega) only [go_sem, w3, c4, rng, hg3, lbv, sv_int, sv_bool, ldv, sdv, Nat.mul_one, true_and, implies_true]
        exact ⟨by rw [fit, if_neg (by simp [c1']), if_neg (fun hh => hh ⟨k0, k1, k2⟩), if_pos (.inl c4)]; rfl, fr3.more _ (by omega)⟩
    · rw [atV, if_neg hB]
      simp (maxSteps := 1000000) -dsimp (disch := (repeat first | rw [nxn] | rw [nxp]); try omega) only [go_sem]
      exact ⟨by rw [fit, if_neg (by simp [c1']), if_pos hB]; rfl, fr3⟩
  · simp (maxSteps := 1000000) -dsimp (disch := (repeat first | rw [nxn] | rw [nxp]); try omega) only [go_sem, c1, hg2, sv_int, sv_bool, ldv, sdv, Nat.mul_one, true_and, implies_true]
    exact ⟨by rw [fit, if_pos (by omega)], fr2⟩

end
end Go.Proofs.YtfhcnoancepgcaaGreatDoor.dig
