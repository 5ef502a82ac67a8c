/- The document's paths: names, what may be a path, a temporary file's path. Conditions: those of its summaries. -/
import Derived.Test.YthkdhdcbhpknnaaGreatDoorTPb
import Derived.Test.YthkdhdcbhpknnaaGreatDoorAb7
namespace Go.Proofs.YthkdhdcbhpknnaaGreatDoor.tre
open Go Go.Abs Go.Proofs
set_option maxRecDepth 100000
set_option linter.unusedVariables false
set_option linter.unusedSimpArgs false

/-! ### Parts between the slashes, as plain data -/
theorem splF_none : ∀ (n : Nat) {s : List Nat}, idxA 47 s 0 < 0 → splF n s = [s]
 | 0, s, _ => rfl
 | n + 1, s, h => by unfold splF; rw [if_pos h]
theorem beq47 (a : Nat) : Nat.beq a 47 = decide (a = 47) := by
 by_cases h : a = 47
 ·subst h; rfl
 ·rw [decide_eq_false h]
  cases hb : Nat.beq a 47
  ·rfl
  ·exact absurd (Nat.eq_of_beq_eq_true hb) h
/-- The first slash. -/
theorem idx_at : ∀ {s : List Nat} (i k : Nat), (∀ j, j < k → s[j]? ≠ some 47) → s[k]? = some 47 → idxA 47 s i = ((i + k : Nat) : Int) ∧ cntA 47 s = cntA 47 (s.drop (k + 1)) + 1
 | [], i, k, _, h => by simp at h
 | a :: l, i, 0, _, h => by
  have : a = 47 := by simpa using h
  subst this
  have e1 : idxA 47 (47 :: l) i = cond (Nat.beq 47 47) (Int.ofNat i) (idxA 47 l (i + 1)) := rfl
  have e2 : cntA 47 (47 :: l) = cond (Nat.beq 47 47) (cntA 47 l + 1) (cntA 47 l) := rfl
  rw [e1, e2, beq47]
  simp
 | a :: l, i, k + 1, hn, h => by
  have ha : a ≠ 47 := fun hh => hn 0 (by omega) (by simp [hh])
  have ih := idx_at (s := l) (i + 1) k (fun j hj hh => hn (j + 1) (by omega) (by simpa using hh)) (by simpa using h)
  have e1 : idxA 47 (a :: l) i = cond (Nat.beq a 47) (Int.ofNat i) (idxA 47 l (i + 1)) := rfl
  have e2 : cntA 47 (a :: l) = cond (Nat.beq a 47) (cntA 47 l + 1) (cntA 47 l) := rfl
  rw [e1, e2, beq47, decide_eq_false ha]
  simp only [cond_false]
  rw [ih.1, ih.2]
  refine ⟨by omega, by simp⟩
theorem idx_no : ∀ {s : List Nat} (i : Nat), (∀ j, j < s.length → s[j]? ≠ some 47) → idxA 47 s i = -1
 | [], i, _ => rfl
 | a :: l, i, hn => by
  have ha : a ≠ 47 := fun hh => hn 0 (by simp) (by simp [hh])
  unfold idxA
  rw [beq47, decide_eq_false ha]
  simp only [cond_false]
  exact idx_no (i + 1) fun j hj hh => hn (j + 1) (by simp; omega) (by simpa using hh)
theorem spl_at {s : List Nat} {k : Nat} (hn : ∀ j, j < k → s[j]? ≠ some 47) (h : s[k]? = some 47) : splS s = s.take k :: splS (s.drop (k + 1)) := by
 obtain ⟨h1, h2⟩ := idx_at 0 k hn h
 unfold splS
 rw [h2]
 have e1 : splF (cntA 47 (s.drop (k + 1)) + 1) s = if idxA 47 s 0 < 0 then [s] else s.take (idxA 47 s 0).toNat :: splF (cntA 47 (s.drop (k + 1))) (s.drop ((idxA 47 s 0).toNat + 1)) := rfl
 rw [e1, h1, Nat.zero_add, if_neg (by omega), Int.toNat_natCast]
theorem spl_no {s : List Nat} (hn : ∀ j, j < s.length → s[j]? ≠ some 47) : splS s = [s] := by
 have h := idx_no 0 hn
 exact splF_none _ (by rw [h]; decide)
theorem slMid {t : TypeId} (ht : Tryz.prog.underlying t = some .string) (h : AH) {s : List Nat} {a b : Nat} {k k2 : IntKind} (hab : a ≤ b) (hb : b ≤ s.length) : evSlice Tryz.prog h t (.str s) (some (.int k (a : Nat))) (some (.int k2 (b : Nat))) none = some (.str ((s.take b).drop a)) := by
 have hu : upTo ((b : Nat) : Int) s.length = some b := by rw [upTo_of (by omega) (by omega)]; simp
 have hu2 : upTo ((a : Nat) : Int) b = some a := by rw [upTo_of (by omega) (by omega)]; simp
 simp [evSlice, ht, boundsA, boundA, hu, hu2, List.drop_take]
section
variable {S : Sums}
/-- What the document's paths ask. -/
structure Rp (S : Sums) : Prop extends Sp S where
 nr : ∀ f args h, f ∈ [104, 103, 63, 62, 19, 75] → S f args h = none
set_option maxHeartbeats 8000000 in
theorem rNameC (hS : Rp S) {h : AH} {s : List Nat} (hl : s.length ≤ 1000000) : RnC Tryz.prog S 104 [.str s] h fun r h' => r = .bool (nameOK s) ∧ h' = h := by
 refine RnC.enter' Tryz.f104 _ 52 [.tmp 2] (hS.nr _ _ _ (by simp)) bd104 Tryz.func104 rfl rfl rfl ?_
 have ls : ∀ g s, evLen Tryz.prog g #[9] (.str s) = some (.int .i64 ((s.length : Nat) : Int)) := fun g s => by simp [evLen, Tryz.underlying9]
 simp (maxSteps := 1000000) -dsimp (disch := (repeat first | rw [nxn] | rw [nxp]); try omega) only [go_sem]
 refine loopK_of (RnL.rounds (Q := fun ex u => u.h = h ∧ u.d = [] ∧ (ex = .exit 0 ∧ u.t.get 0 = some (.str s) ∧ s.all chOK = true ∧ s[0]? ≠ some 46 ∨ ex = .ret ∧ nameOK s = false ∧ u.t.get 2 = some (.bool false)))
  (fun m u => u.h = h ∧ u.d = [] ∧ u.t.get 0 = some (.str s) ∧ ∃ i : Nat, u.t.get 3 = some (.int .i64 (i : Nat)) ∧ i ≤ s.length ∧ (s.take i).all chOK = true ∧ (0 < i → s[0]? ≠ some 46) ∧ m = s.length - i) ?_ s.length ?_) ?_
 ·rintro m ⟨t, h1, d⟩ ⟨e1, e2, g0, i, g3, hi, hall, h0, rfl⟩
  dsimp only at e1 e2 g0 g3
  subst e1 e2
  by_cases c4 : (i : Int) < (s.length : Nat)
  ·have hil : i < s.length := by omega
   obtain ⟨a, ha⟩ : ∃ a, s[i]? = some a := ⟨_, List.getElem?_eq_getElem hil⟩
   have ixa := ixS (k := .i64) Tryz.underlying9 ha
   have htk : s.take (i + 1) = s.take i ++ [a] := by rw [List.take_add_one, ha]; rfl
   have hone : chOK a = true → (s.take (i + 1)).all chOK = true := fun hc => by rw [htk, List.all_append, hall]; simp [hc]
   have hnone : chOK a = false → nameOK s = false := fun hc => by
    have : s.all chOK = false := by
     rw [List.all_eq_false]
     exact ⟨a, List.mem_iff_getElem?.2 ⟨i, ha⟩, by simp [hc]⟩
    simp [nameOK, this]
   by_cases c5 : chOK a = true
   ·by_cases c6 : (a : Int) = 46 ∧ i = 0
    ·obtain ⟨c6, hi0⟩ := c6
     have h46 : a = 46 := by omega
     have hbad : nameOK s = false := by rw [hi0, h46] at ha; simp [nameOK, ha]
     have c8 : (((i : Nat) : Int) = 0) = True := eq_true (by omega)
     simp (maxSteps := 1000000) -dsimp (disch := (repeat first | rw [nxn] | rw [nxp]); try omega) only [go_sem, ls, c4, g0, g3, ixa, c6, c8]
     exact ⟨trivial, trivial, .inr ⟨trivial, hbad, trivial⟩⟩
    ·have hst : 0 < i + 1 → s[0]? ≠ some 46 := fun _ hh => by
      by_cases hi0 : i = 0
      ·subst hi0
       rw [ha] at hh
       cases hh
       exact c6 ⟨rfl, rfl⟩
      ·exact h0 (by omega) hh
     have fin : ∃ m, m < s.length - i ∧ m = s.length - (i + 1) := ⟨_, by omega, rfl⟩
     by_cases q7 : (a : Int) = 46
     ·have q8 : ¬ ((i : Nat) : Int) = 0 := fun hh => c6 ⟨q7, by omega⟩
      simp (maxSteps := 1000000) -dsimp (disch := (repeat first | rw [nxn] | rw [nxp]); try omega) only [go_sem, ls, c4, g0, g3, ixa, q7, q8]
      exact ⟨s.length - (i + 1), by omega, trivial, trivial, trivial, i + 1, rfl, by omega, hone c5, hst, rfl⟩
     ·have c5b := c5
      simp only [chOK, Bool.or_eq_true, Bool.and_eq_true, decide_eq_true_eq] at c5
      by_cases q1 : (a : Int) < 97 <;> by_cases q2 : (122 : Int) < (a : Int) <;> by_cases q3 : (a : Int) < 48 <;> by_cases q4 : (57 : Int) < (a : Int) <;> by_cases q5 : (a : Int) = 45 <;> by_cases q6 : (a : Int) = 95
      all_goals first
       | (exfalso; omega)
       | skip
      all_goals simp (maxSteps := 1000000) -dsimp (disch := (repeat first | rw [nxn] | rw [nxp]); try omega) only [go_sem, ls, c4, g0, g3, ixa, q1, q2, q3, q4, q5, q6, q7]
      all_goals exact ⟨s.length - (i + 1), by omega, trivial, trivial, trivial, i + 1, rfl, by omega, hone c5b, hst, rfl⟩
   ·have c5' : chOK a = false := by simpa using c5
    have hno := hnone c5'
    simp only [chOK, Bool.or_eq_true, Bool.and_eq_true, decide_eq_true_eq, not_or, not_and] at c5
    by_cases q1 : (a : Int) < 97 <;> by_cases q2 : (122 : Int) < (a : Int) <;> by_cases q3 : (a : Int) < 48 <;> by_cases q4 : (57 : Int) < (a : Int)
    all_goals first
     | (exfalso; omega)
     | skip
    all_goals
     have q5 : ¬ (a : Int) = 45 := by omega
     have q6 : ¬ (a : Int) = 95 := by omega
     have q7 : ¬ (a : Int) = 46 := by omega
     simp (maxSteps := 1000000) -dsimp (disch := (repeat first | rw [nxn] | rw [nxp]); try omega) only [go_sem, ls, c4, g0, g3, ixa, q1, q2, q3, q4, q5, q6, q7]
     exact ⟨trivial, trivial, .inr ⟨trivial, hno, trivial⟩⟩
  ·have : i = s.length := by omega
   subst this
   rw [List.take_length] at hall
   simp (maxSteps := 1000000) -dsimp (disch := (repeat first | rw [nxn] | rw [nxp]); try omega) only [go_sem, ls, c4, g0, g3]
   refine ⟨trivial, trivial, .inl ⟨trivial, trivial, hall, fun hh => ?_⟩⟩
   by_cases h00 : 0 < s.length
   ·exact h0 h00 hh
   ·have : s = [] := List.length_eq_zero_iff.1 (by omega)
    rw [this] at hh; cases hh
 ·simp (maxSteps := 1000000) -dsimp (disch := (repeat first | rw [nxn] | rw [nxp]); try omega) only [go_sem]
  exact ⟨trivial, trivial, trivial, 0, rfl, Nat.zero_le _, by simp, fun hh => absurd hh (by omega), rfl⟩
 ·rintro ex ⟨t, h1, d⟩ ⟨e1, e2, ⟨rfl, g0, hh, h46⟩ | ⟨rfl, hh, g2⟩⟩
  ·dsimp only at e1 e2 g0
   subst e1 e2
   by_cases l1 : (1 : Int) ≤ (s.length : Nat)
   ·by_cases l2 : ((s.length : Nat) : Int) ≤ 24
    ·have l1' : 1 ≤ s.length := by omega
     have l2' : s.length ≤ 24 := by omega
     simp (maxSteps := 1000000) -dsimp (disch := (repeat first | rw [nxn] | rw [nxp]); try omega) only [go_sem, ls, g0, l1, l2]
     simp [nameOK, hh, h46, l1', l2']
    ·have l2' : ¬ s.length ≤ 24 := by omega
     simp (maxSteps := 1000000) -dsimp (disch := (repeat first | rw [nxn] | rw [nxp]); try omega) only [go_sem, ls, g0, l1, l2]
     simp [nameOK, l2']
   ·have l1' : ¬ 1 ≤ s.length := by omega
    simp (maxSteps := 1000000) -dsimp (disch := (repeat first | rw [nxn] | rw [nxp]); try omega) only [go_sem, ls, g0, l1]
    simp [nameOK, l1']
  ·dsimp only at e1 e2 g2
   subst e1 e2
   simp (maxSteps := 1000000) -dsimp (disch := (repeat first | rw [nxn] | rw [nxp]); try omega) only [go_sem, g2]
   rw [hh]
   exact ⟨by first | trivial | rfl, by first | trivial | rfl⟩
set_option maxHeartbeats 8000000 in
theorem rNamesC (hS : Rp S) {h : AH} {s : List Nat} (hl : s.length ≤ 1000000) : RnC Tryz.prog S 103 [.str s] h fun r h' => Ss h.nx h' r (splS s) ∧ Fr h h' := by
 refine RnC.enter' Tryz.f103 _ 32 [.tmp 2] (hS.nr _ _ _ (by simp)) bd103 Tryz.func103 rfl rfl rfl ?_
 have ls : ∀ g s, evLen Tryz.prog g #[9] (.str s) = some (.int .i64 ((s.length : Nat) : Int)) := fun g s => by simp [evLen, Tryz.underlying9]
 have a9 : appI Tryz.prog 9 = some (1, 16) := by kernel_rfl
 simp (maxSteps := 1000000) -dsimp (disch := (repeat first | rw [nxn] | rw [nxp]); try omega) only [go_sem]
 refine loopK_of (RnL.rounds (Q := fun ex u => ex = .exit 0 ∧ u.d = [] ∧ Fr h u.h ∧ ∃ v, u.t.get 3 = some v ∧ Ss h.nx u.h v (splS s))
  (fun m u => u.d = [] ∧ Fr h u.h ∧ u.t.get 0 = some (.str s) ∧ ∃ (v : AV) (acc : List (List Nat)) (i k : Nat), u.t.get 3 = some v ∧ Ss h.nx u.h v acc ∧ u.t.get 4 = some (.int .i64 (k : Nat)) ∧ u.t.get 5 = some (.int .i64 (i : Nat)) ∧ i ≤ s.length + 1 ∧ acc.length ≤ i ∧
   ((k ≤ i ∧ i ≤ s.length ∧ acc ++ splS (s.drop k) = splS s ∧ ∀ j, k ≤ j → j < i → s[j]? ≠ some 47) ∨ (i = s.length + 1 ∧ acc = splS s)) ∧ m = s.length + 1 - i) ?_ (s.length + 1) ?_) ?_
 ·rintro m ⟨t, g, d⟩ ⟨e2, e1, g0, v, acc, i, k, g3, hs, g4, g5, hi, hac, hh, rfl⟩
  dsimp only at e1 e2 g0 g3 hs g4 g5
  subst e2
  have ov := hs.cs.one.1
  have nid : ∀ id off n sz c, v = .sl id off n sz c → id ≠ g.nx := fun id off n sz c hv => by
   rcases hs with ⟨h1, _⟩ | ⟨id', h1, _, h3, _⟩
   ·rw [hv] at h1; cases h1
   ·rw [hv] at h1; cases h1; omega
  rcases hh with ⟨hki, his, hac2, hno⟩ | ⟨hi2, hac2⟩
  ·have c1 : (i : Int) ≤ (s.length : Nat) := by omega
   have hdl : (s.drop k).length = s.length - k := by simp
   have sm := fun h2 => slMid (t := 9) (k := .i64) (k2 := .i64) Tryz.underlying9 h2 (s := s) (a := k) (b := i) hki his
   obtain ⟨v', h', ha, hf', hs', ov'⟩ := Ss.app (P := Tryz.prog) (h0 := h) (h := g.new (.cells [.str ((s.take i).drop k)] true false)) (id1 := g.nx) (c := some 1) (o := true) (t := false) (p := (s.take i).drop k) Tryz.underlying55 a9 (by decide) (hs.fr (Fr.new _ _)) (e1.news _) (by omega) (AH.get_new_eq rfl) (Nat.lt_succ_self _) nid
   have ei : (s.take i).drop k = (s.drop k).take (i - k) := by rw [List.drop_take]
   by_cases c2 : (i : Int) = (s.length : Nat)
   ·have hie : i = s.length := by omega
    have hlast : acc ++ [(s.take i).drop k] = splS s := by
     have h9 : splS (s.drop k) = [s.drop k] := spl_no fun j hj => by
      rw [List.getElem?_drop]
      exact hno _ (by omega) (by omega)
     rw [← hac2, h9, hie, List.take_length]
    subst hie
    have c2' : (((s.length : Nat) : Int) = ((s.length : Nat) : Int)) = True := eq_self _
    clear c2
    simp (maxSteps := 1000000) -dsimp (disch := (repeat first | rw [nxn] | rw [nxp]); try omega) only [go_sem, ls, c1, c2', g0, g3, g4, g5, ov, sm, ha, ov']
    refine ⟨s.length + 1 - (s.length + 1), by omega, trivial, hf', trivial, v', acc ++ [(s.take s.length).drop k], s.length + 1, s.length + 1, rfl, hs', rfl, rfl, by omega, by simp; omega, .inr ⟨by omega, hlast⟩, rfl⟩
   ·have hil : i < s.length := by omega
    obtain ⟨a, ha1⟩ : ∃ a, s[i]? = some a := ⟨_, List.getElem?_eq_getElem hil⟩
    have ixa := ixS (k := .i64) Tryz.underlying9 ha1
    by_cases c3 : (a : Int) = 47
    ·have ha47 : a = 47 := by omega
     subst ha47
     have hcut : acc ++ [(s.take i).drop k] ++ splS (s.drop (i + 1)) = splS s := by
      have h9 : splS (s.drop k) = (s.drop k).take (i - k) :: splS ((s.drop k).drop (i - k + 1)) := spl_at (fun j hj => by
       rw [List.getElem?_drop]
       exact hno _ (by omega) (by omega)) (by rw [List.getElem?_drop, show k + (i - k) = i from by omega]; exact ha1)
      rw [← hac2, h9, List.drop_drop, show k + (i - k + 1) = i + 1 from by omega, ei]
      simp
     simp (maxSteps := 1000000) -dsimp (disch := (repeat first | rw [nxn] | rw [nxp]); try omega) only [go_sem, ls, c1, c2, g0, g3, g4, g5, ixa, ov, sm, ha, ov']
     exact ⟨s.length + 1 - (i + 1), by omega, trivial, hf', trivial, v', acc ++ [(s.take i).drop k], i + 1, i + 1, rfl, hs', rfl, rfl, by omega, by simp; omega, .inl ⟨Nat.le_refl _, by omega, hcut, fun j h1 h2 => absurd h1 (by omega)⟩, rfl⟩
    ·simp (maxSteps := 1000000) -dsimp (disch := (repeat first | rw [nxn] | rw [nxp]); try omega) only [go_sem, ls, c1, c2, c3, g0, g3, g4, g5, ixa]
     refine ⟨s.length + 1 - (i + 1), by omega, trivial, e1, trivial, v, acc, i + 1, k, rfl, hs, rfl, rfl, by omega, by omega, .inl ⟨by omega, by omega, hac2, fun j h1 h2 => ?_⟩, rfl⟩
     by_cases hji : j = i
     ·rw [hji, ha1]
      intro hh
      cases hh
      exact c3 rfl
     ·exact hno j h1 (by omega)
  ·have c1 : ¬ (i : Int) ≤ (s.length : Nat) := by omega
   simp (maxSteps := 1000000) -dsimp (disch := (repeat first | rw [nxn] | rw [nxp]); try omega) only [go_sem, ls, c1, g0, g3, g5]
   rw [hac2] at hs
   exact ⟨trivial, trivial, e1, v, rfl, hs⟩
 ·simp (maxSteps := 1000000) -dsimp (disch := (repeat first | rw [nxn] | rw [nxp]); try omega) only [go_sem]
  exact ⟨trivial, Fr.refl _, trivial, .nilsl, [], 0, 0, rfl, .inl ⟨rfl, rfl⟩, rfl, rfl, Nat.zero_le _, Nat.le_refl _, .inl ⟨Nat.le_refl _, Nat.zero_le _, by simp, fun j h1 h2 => absurd h2 (by omega)⟩, rfl⟩
 ·rintro ex ⟨t, g, d⟩ ⟨rfl, rfl, e1, v, g3, hs⟩
  dsimp only at e1 g3 hs
  have ov := hs.cs.one.1
  simp (maxSteps := 1000000) -dsimp (disch := (repeat first | rw [nxn] | rw [nxp]); try omega) only [go_sem, g3, ov]
  exact ⟨hs, e1⟩
theorem spl_mem_len {s : List Nat} : ∀ x ∈ splS s, x.length ≤ s.length := (splF_len (cntA 47 s) s).1
set_option maxHeartbeats 8000000 in
theorem rCheckC (hS : Rp S) {h : AH} {s : List Nat} : RnC Tryz.prog S 63 [.str s] h fun r h' => r = .int .i64 (checkS s : Nat) ∧ Fr h h' := by
 refine RnC.enter' Tryz.f63 _ 25 [.tmp 2] (hS.nr _ _ _ (by simp)) bd63 Tryz.func63 rfl rfl rfl ?_
 have ls : ∀ g s, evLen Tryz.prog g #[9] (.str s) = some (.int .i64 ((s.length : Nat) : Int)) := fun g s => by simp [evLen, Tryz.underlying9]
 by_cases c1 : (64 : Int) < ((s.length : Nat) : Int)
 ·simp (maxSteps := 1000000) -dsimp (disch := (repeat first | rw [nxn] | rw [nxp]); try omega) only [go_sem, ls, c1]
  have : checkS s = 3 := by unfold checkS; rw [if_pos (by omega)]
  rw [this]
  exact ⟨rfl, Fr.refl _⟩
 ·simp (maxSteps := 1000000) -dsimp (disch := (repeat first | rw [nxn] | rw [nxp]); try omega) only [go_sem, ls, c1]
  refine callK_of (rNamesC hS (by omega)) ?_
  rintro r h2 ⟨hs, f2⟩
  have lr : ∀ g, evLen Tryz.prog g #[55] r = some (.int .i64 ((splS s).length : Nat)) := fun g => by have := hs.cs.len Tryz.underlying55 g; rwa [List.length_map] at this
  have or_ := hs.cs.one.1
  have hck : checkS s = if (splS s).all nameOK = true ∧ (splS s).length ≤ 4 then 0 else 2 := by
   unfold checkS
   rw [if_neg (by omega)]
   unfold rightS
   by_cases q1 : (splS s).all nameOK = true <;> by_cases q2 : (splS s).length ≤ 4 <;> simp [q1, q2]
   omega
  have hsl := (splF_len (cntA 47 s) s).2
  have hcl := cntA_le 47 s
  have hsl2 : (splS s).length ≤ 65 := by
   have : (splS s).length ≤ cntA 47 s + 1 := hsl
   omega
  have sml := spl_mem_len (s := s)
  generalize splS s = l at hs lr hck hsl2 sml
  try simp (maxSteps := 1000000) -dsimp (disch := (repeat first | rw [nxn] | rw [nxp]); try omega) only [go_sem, lr, or_]
  refine loopK_of (RnL.rounds (Q := fun ex u => u.d = [] ∧ Fr h u.h ∧ u.t.get 3 = some r ∧ (ex = .exit 0 ∧ l.all nameOK = true ∨ ex = .ret ∧ l.all nameOK = false ∧ u.t.get 2 = some (.int .i64 2)))
   (fun m u => u.d = [] ∧ Fr h2 u.h ∧ u.t.get 3 = some r ∧ ∃ i : Nat, u.t.get 4 = some (.int .i64 (i : Nat)) ∧ i ≤ l.length ∧ (l.take i).all nameOK = true ∧ m = l.length - i) ?_ l.length ?_) ?_
  ·rintro m ⟨t, g, d⟩ ⟨e2, e1, g3, i, g4, hi, hall, rfl⟩
   dsimp only at e1 e2 g3 g4
   subst e2
   by_cases c4 : (i : Int) < (l.length : Nat)
   ·have hil : i < l.length := by omega
    obtain ⟨a, ha⟩ : ∃ a, l[i]? = some a := ⟨_, List.getElem?_eq_getElem hil⟩
    have ham := List.mem_iff_getElem?.2 ⟨i, ha⟩
    obtain ⟨id, off, cp, cs, o, tx, rfl, hg, hid, hcs⟩ := Tx.get (K := fun _ => 0) ⟨(hs.fr e1).cs, fun _ _ _ _ _ _ => rfl⟩ ha
    have htk : l.take (i + 1) = l.take i ++ [a] := by rw [List.take_add_one, ha]; rfl
    simp (maxSteps := 1000000) -dsimp (disch := (repeat first | rw [nxn] | rw [nxp]); try omega) only [go_sem, c4, lr, hil, hg, hcs, Nat.mul_one, g3, g4]
    refine callK_of (rNameC hS (by have := sml a ham; omega)) ?_
    rintro r2 h4 ⟨rfl, rfl⟩
    cases hn : nameOK a
    ·simp (maxSteps := 1000000) -dsimp (disch := (repeat first | rw [nxn] | rw [nxp]); try omega) only [go_sem, c4, g3, g4]
     exact ⟨trivial, f2.trans e1, trivial, .inr ⟨trivial, by rw [List.all_eq_false]; exact ⟨a, ham, by simp [hn]⟩, trivial⟩⟩
    ·simp (maxSteps := 1000000) -dsimp (disch := (repeat first | rw [nxn] | rw [nxp]); try omega) only [go_sem, c4, g3, g4]
     exact ⟨l.length - (i + 1), by omega, trivial, e1, trivial, i + 1, rfl, by omega, by rw [htk, List.all_append, hall]; simp [hn], rfl⟩
   ·have : i = l.length := by omega
    subst this
    rw [List.take_length] at hall
    simp (maxSteps := 1000000) -dsimp (disch := (repeat first | rw [nxn] | rw [nxp]); try omega) only [go_sem, c4, lr, g3, g4]
    exact ⟨trivial, f2.trans e1, trivial, .inl ⟨trivial, hall⟩⟩
  ·simp (maxSteps := 1000000) -dsimp (disch := (repeat first | rw [nxn] | rw [nxp]); try omega) only [go_sem]
   exact ⟨trivial, Fr.refl _, trivial, 0, rfl, Nat.zero_le _, by simp, rfl⟩
  ·rintro ex ⟨t, g, d⟩ ⟨rfl, e1, g3, ⟨rfl, hh⟩ | ⟨rfl, hh, g2⟩⟩
   ·dsimp only at e1 g3
    by_cases c5 : (4 : Int) < ((l.length : Nat) : Int)
    ·simp (maxSteps := 1000000) -dsimp (disch := (repeat first | rw [nxn] | rw [nxp]); try omega) only [go_sem, lr, g3, c5]
     rw [hck, if_neg (by omega)]
     exact ⟨rfl, e1⟩
    ·simp (maxSteps := 1000000) -dsimp (disch := (repeat first | rw [nxn] | rw [nxp]); try omega) only [go_sem, lr, g3, c5]
     rw [hck, if_pos ⟨hh, by omega⟩]
     exact ⟨rfl, e1⟩
   ·dsimp only at e1 g2
    simp (maxSteps := 1000000) -dsimp (disch := (repeat first | rw [nxn] | rw [nxp]); try omega) only [go_sem, g2]
    rw [hck, if_neg (by rw [hh]; simp)]
    exact ⟨rfl, e1⟩
theorem neStR (h : AH) (a b : List Nat) : binA Tryz.prog h .neq 9 (.str a) (.str b) = some (.bool (!decide (a = b))) := by
 simp [binA, strA, eqL_eq]
set_option maxHeartbeats 4000000 in
theorem rTempedC (hS : Rp S) {h : AH} {s : List Nat} : RnC Tryz.prog S 62 [.str s] h fun r h' => (∃ x, r = .tup [.str x, .bool (tempedS s)]) ∧ Fr h h' := by
 refine RnC.enter' Tryz.f62 _ 20 [.tmp 2, .tmp 3] (hS.nr _ _ _ (by simp)) bd62 Tryz.func62 rfl rfl rfl ?_
 have ls : ∀ g s, evLen Tryz.prog g #[9] (.str s) = some (.int .i64 ((s.length : Nat) : Int)) := fun g s => by simp [evLen, Tryz.underlying9]
 have b0 : bytesOf { data := #[] } = [] := rfl
 have tm : bytesOf { data := #[46, 116, 109, 112, 47] } = tmpS := by decide +kernel
 have h5 : tmpS.length = 5 := rfl
 by_cases c1 : ((s.length : Nat) : Int) ≤ 5
 ·have : tempedS s = false := by
   unfold tempedS
   by_cases hp : preS s tmpS = true
   ·have hp' : s.take 5 = tmpS := by simpa [preS, h5] using hp
    have hl5 : s.length = 5 := by have := congrArg List.length hp'; rw [List.length_take, h5] at this; omega
    have : s.drop 5 = [] := List.drop_eq_nil_of_le (by omega)
    rw [this]
    have : checkS [] = 2 := by decide +kernel
    rw [this]; simp
   ·simp [hp]
  rw [this]
  simp (maxSteps := 1000000) -dsimp (disch := (repeat first | rw [nxn] | rw [nxp]); try omega) only [go_sem, ls, c1, b0, tm]
  exact ⟨⟨_, rfl⟩, Fr.refl _⟩
 ·have hto := fun h2 => slSto (t := 9) (k := .i64) Tryz.underlying9 h2 (s := s) (m := 5) (by omega)
  have hfr := fun h2 => slSfr (t := 9) (k := .i64) Tryz.underlying9 h2 (s := s) (m := 5) (by omega)
  rw [show ((5 : Nat) : Int) = 5 from rfl] at hto hfr
  by_cases c2 : s.take 5 = tmpS
  ·simp (maxSteps := 1000000) -dsimp (disch := (repeat first | rw [nxn] | rw [nxp]); try omega) only [go_sem, ls, c1, b0, tm, hto, hfr, neStR, c2, decide_true]
   refine callK_of (rCheckC hS) ?_
   rintro r h2 ⟨rfl, f2⟩
   have hpre : preS s tmpS = true := by simp [preS, h5, c2]
   by_cases c3 : ((checkS (s.drop 5) : Nat) : Int) = 0
   ·have : tempedS s = true := by unfold tempedS; rw [hpre]; simp; omega
    rw [this]
    simp (maxSteps := 1000000) -dsimp (disch := (repeat first | rw [nxn] | rw [nxp]); try omega) only [go_sem, c3, b0, hfr]
    exact ⟨⟨_, rfl⟩, f2⟩
   ·have : tempedS s = false := by unfold tempedS; rw [hpre]; simp; omega
    rw [this]
    simp (maxSteps := 1000000) -dsimp (disch := (repeat first | rw [nxn] | rw [nxp]); try omega) only [go_sem, c3, b0]
    exact ⟨⟨_, rfl⟩, f2⟩
  ·have : tempedS s = false := by
    unfold tempedS
    have : preS s tmpS = false := by simp [preS, h5, c2]
    rw [this]; rfl
   rw [this]
   simp (maxSteps := 1000000) -dsimp (disch := (repeat first | rw [nxn] | rw [nxp]); try omega) only [go_sem, ls, c1, b0, tm, hto, hfr, neStR, c2]
   exact ⟨⟨_, rfl⟩, Fr.refl _⟩
theorem rMayC (hS : Rp S) {h : AH} {s : List Nat} : RnC Tryz.prog S 19 [.str s] h fun r h' => r = .bool (okP s) ∧ Fr h h' := by
 refine RnC.enter' Tryz.f19 _ 16 [.tmp 2] (hS.nr _ _ _ (by simp)) bd19 Tryz.func19 rfl rfl rfl ?_
 simp (maxSteps := 1000000) -dsimp (disch := (repeat first | rw [nxn] | rw [nxp]); try omega) only [go_sem, evLen]
 refine callK_of (rTempedC hS) ?_
 rintro r h2 ⟨⟨x, rfl⟩, f2⟩
 unfold okP
 cases ht : tempedS s
 ·simp (maxSteps := 1000000) -dsimp (disch := (repeat first | rw [nxn] | rw [nxp]); try omega) only [go_sem, evLen]
  refine callK_of (rCheckC hS) ?_
  rintro r h3 ⟨rfl, f3⟩
  by_cases c : ((checkS s : Nat) : Int) = 0
  ·have c' : checkS s = 0 := by omega
   simp (maxSteps := 1000000) -dsimp (disch := (repeat first | rw [nxn] | rw [nxp]); try omega) only [go_sem, evLen, c]
   exact ⟨by simp [c'], f2.trans f3⟩
  ·have c' : ¬ checkS s = 0 := by omega
   simp (maxSteps := 1000000) -dsimp (disch := (repeat first | rw [nxn] | rw [nxp]); try omega) only [go_sem, evLen, c]
   exact ⟨by simp [c'], f2.trans f3⟩
 ·simp (maxSteps := 1000000) -dsimp (disch := (repeat first | rw [nxn] | rw [nxp]); try omega) only [go_sem, evLen]
  exact ⟨by simp, f2⟩
theorem rTempC (hS : Rp S) {h : AH} {s : Pth} : RnC Tryz.prog S 75 [.str s] h fun r h' => r = (if checkS s = 0 then .tup [.str (tmpS ++ s), .int .i64 0] else .tup [.str [], .int .i64 (checkS s : Nat)]) ∧ Fr h h' := by
 refine RnC.enter' Tryz.f75 _ 12 [.tmp 2, .tmp 3] (hS.nr _ _ _ (by simp)) bd75 Tryz.func75 rfl rfl rfl ?_
 have b0 : bytesOf { data := #[] } = [] := rfl
 simp (maxSteps := 1000000) -dsimp (disch := (repeat first | rw [nxn] | rw [nxp]); try omega) only [go_sem, evLen, b0]
 refine callK_of (rCheckC hS) ?_
 rintro r h2 ⟨rfl, f2⟩
 by_cases c : ((checkS s : Nat) : Int) = 0
 ·have hs : checkS s = 0 := by omega
  have hl : s.length ≤ 64 := by
   unfold checkS at hs
   split at hs
   ·cases hs
   ·omega
  rw [if_pos hs]
  have add : ∀ (g : AH) (x : List Nat), x = tmpS → binA Tryz.prog g .add 9 (.str x) (.str s) = some (.str (tmpS ++ s)) := fun g x hx => by
   subst hx
   have : ¬ (((tmpS.length + s.length : Nat) : Int) > IntKind.i64.max) := by
    have h5 : tmpS.length = 5 := rfl
    have hm : IntKind.i64.max = 9223372036854775807 := rfl
    rw [h5, hm]; omega
   simp only [binA, strA, if_neg this]
  have tm : bytesOf { data := #[46, 116, 109, 112, 47] } = tmpS := by decide +kernel
  have add2 := fun g => add g _ tm
  simp (maxSteps := 1000000) -dsimp (disch := (repeat first | rw [nxn] | rw [nxp]); try omega) only [go_sem, evLen, hs, add2]
  exact ⟨trivial, f2⟩
 ·rw [if_neg (by omega)]
  simp (maxSteps := 1000000) -dsimp (disch := (repeat first | rw [nxn] | rw [nxp]); try omega) only [go_sem, evLen, c, b0]
  exact ⟨trivial, f2⟩
end
end Go.Proofs.YthkdhdcbhpknnaaGreatDoor.tre
