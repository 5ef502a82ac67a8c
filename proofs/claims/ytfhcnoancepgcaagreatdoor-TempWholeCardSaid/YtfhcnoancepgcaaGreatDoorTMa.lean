/- Lists of blocks: what Check, At and Fits answer, in the program and in the document's answer: both the same. Conditions: none beyond the stated premises. -/
import Derived.Test.YtfhcnoancepgcaaGreatDoorDGg
import Derived.Test.YtfhcnoancepgcaaGreatDoorAb6
namespace Go.Proofs.YtfhcnoancepgcaaGreatDoor.dig
open Go Go.Abs Go.Proofs
set_option maxRecDepth 100000
set_option linter.unusedVariables false
set_option linter.unusedSimpArgs false

/-- A slice of digests, and what it holds. -/
def Ds (h : AH) (v : AV) (D : List (List Nat)) : Prop :=
  (v = .nilsl ∧ D = []) ∨ ∃ id off c cs o t, v = .sl id off D.length 32 c ∧ h.get id = some (.cells cs o t) ∧ id < h.nx ∧ off + D.length * 32 ≤ cs.length ∧ ∀ i d, D[i]? = some d → (cs.drop (off + i * 32)).take 32 = byC d
theorem Ds.fr {h h' : AH} {v : AV} {D : List (List Nat)} (hb : Ds h v D) (hf : Fr h h') : Ds h' v D := by
  rcases hb with h1 | ⟨id, off, c, cs, o, t, h1, h2, h3, h4⟩
  · exact .inl h1
  · exact .inr ⟨id, off, c, cs, o, t, h1, (hf.get id h3).trans h2, Nat.lt_of_lt_of_le h3 hf.nx, h4⟩
theorem Ds.len {h : AH} {v : AV} {D : List (List Nat)} (hb : Ds h v D) : (∀ g, evLen Tryz.prog g #[26] v = some (.int .i64 (D.length : Nat))) ∧ sameAV 20 v v = true ∧ oneA v = true := by
  rcases hb with ⟨rfl, rfl⟩ | ⟨id, off, c, cs, o, t, rfl, _⟩
  · exact ⟨fun g => by simp [evLen, Tryz.underlying26], rfl, rfl⟩
  · exact ⟨fun g => by simp [evLen, Tryz.underlying26], by simp [sameAV], rfl⟩
theorem sv_int (k : IntKind) (n : Int) : sameAV 20 (.int k n) (.int k n) = true := by simp [sameAV]
theorem sv_bool (b : Bool) : sameAV 20 (.bool b) (.bool b) = true := by simp [sameAV]
theorem sameL_byC : ∀ (l : List Nat), sameL (sameAV 19) (byC l) (byC l) = true
  | [] => rfl
  | b :: l => by
    show (sameAV 19 (.int .u8 (b : Int)) (.int .u8 (b : Int)) && sameL (sameAV 19) (byC l) (byC l)) = true
    rw [sameL_byC l]
    simp [sameAV]
theorem sv_byC (l : List Nat) : sameAV 20 (.agg (byC l)) (.agg (byC l)) = true := sameL_byC l

/-- How many blocks. -/
def cnt (ln s : Int) : Int := (ln + s - 1).tdiv s
def chk (s ln : Int) (n : Nat) : Nat := if 4194304 < ln ∨ 1024 < n then 3 else if s < 1 ∨ 65536 < s ∨ ln < 0 ∨ cnt ln s ≠ n then 2 else 0
theorem cnt_b {ln s : Int} (h1 : 0 ≤ ln) (h2 : ln ≤ 4194304) (h3 : 1 ≤ s) (h4 : s ≤ 65536) : 0 ≤ cnt ln s ∧ cnt ln s ≤ 4259840 := by
  have h5 : 0 ≤ ln + s - 1 := by omega
  unfold cnt
  rw [Int.tdiv_eq_ediv_of_nonneg h5]
  have h6 := Int.ediv_nonneg h5 (show 0 ≤ s by omega)
  have h7 := Int.ediv_le_self s h5
  omega

section
variable {S : Sums}

theorem count41 (hS : ∀ args h, S 63 args h = none) {h : AH} {ln s : Int} (h1 : 0 ≤ ln) (h2 : ln ≤ 4194304) (h3 : 1 ≤ s) (h4 : s ≤ 65536) : RnC Tryz.prog S 63 [.int .i64 ln, .int .i64 s] h fun r h' => r = .int .i64 (cnt ln s) ∧ Fr h h' := by
  refine RnC.enter' Tryz.f63 _ 11 [.tmp 4] (hS _ _) bd63 Tryz.func63 rfl rfl rfl ?_
  have c0 : ¬ s = 0 := by omega
  have hb := cnt_b h1 h2 h3 h4
  have hw : IntKind.i64.wrap ((ln + s - 1).tdiv s) = cnt ln s := wrap64_id (by show _ ≤ cnt ln s; omega) (by show cnt ln s ≤ _; omega)
  simp (maxSteps := 1000000) -dsimp (disch := (repeat first | rw [nxn] | rw [nxp]); try omega) only [go_sem, evLen, c0, hw]
  exact ⟨trivial, Fr.refl _⟩

theorem count25 (hS : ∀ args h, S 23 args h = none) {h : AH} {ln s : Int} (h1 : 0 ≤ ln) (h2 : ln ≤ 4194304) (h3 : 1 ≤ s) (h4 : s ≤ 65536) : RnC Tryz.prog S 23 [.int .i64 ln, .int .i64 s] h fun r h' => r = .int .i64 (cnt ln s) ∧ Fr h h' := by
  refine RnC.enter' Tryz.f23 _ 11 [.tmp 4] (hS _ _) bd23 Tryz.func23 rfl rfl rfl ?_
  have c0 : ¬ s = 0 := by omega
  have hb := cnt_b h1 h2 h3 h4
  have hw : IntKind.i64.wrap ((ln + s - 1).tdiv s) = cnt ln s := wrap64_id (by show _ ≤ cnt ln s; omega) (by show cnt ln s ≤ _; omega)
  simp (maxSteps := 1000000) -dsimp (disch := (repeat first | rw [nxn] | rw [nxp]); try omega) only [go_sem, evLen, c0, hw]
  exact ⟨trivial, Fr.refl _⟩

set_option maxHeartbeats 4000000 in
theorem check27 (hS : ∀ f args h, f = 25 ∨ f = 63 → S f args h = none) {h : AH} {s ln : Int} {dv : AV} {D : List (List Nat)} (hD : Ds h dv D) : RnC Tryz.prog S 25 [.agg [.int .i64 s, .int .i64 ln, dv]] h fun r h' => r = .int .i64 (chk s ln D.length : Nat) ∧ Fr h h' := by
  refine RnC.enter' Tryz.f25 _ 38 [.tmp 2] (hS _ _ _ (by simp)) bd25 Tryz.func25 rfl rfl rfl ?_
  obtain ⟨ldv, sdv, odv⟩ := hD.len
  have hfr : Fr h (h.new (.cells [.int .i64 s, .int .i64 ln, dv] true false)) := Fr.new _ _
  by_cases c1 : (4194304 : Int) < ln
  · simp (maxSteps := 1000000) -dsimp (disch := (repeat first | rw [nxn] | rw [nxp]); try omega) only [go_sem, c1, sv_int, sv_bool, ldv, sdv, Nat.mul_one, true_and, implies_true]
    exact ⟨by rw [chk, if_pos (.inl c1)]; rfl, hfr⟩
  by_cases c2 : (1024 : Int) < (D.length : Nat)
  · simp (maxSteps := 1000000) -dsimp (disch := (repeat first | rw [nxn] | rw [nxp]); try omega) only [go_sem, c1, c2, sv_int, sv_bool, ldv, sdv, Nat.mul_one, true_and, implies_true]
    exact ⟨by rw [chk, if_pos (.inr (by omega))]; rfl, hfr⟩
  have hn : ¬ (4194304 < ln ∨ 1024 < D.length) := by omega
  simp (maxSteps := 1000000) -dsimp (disch := (repeat first | rw [nxn] | rw [nxp]); try omega) only [go_sem, c1, c2, sv_int, sv_bool, ldv, sdv, Nat.mul_one, true_and, implies_true]
  refine syDraw.keep (fun id => id < h.nx + 1) (by kernel_rfl) (by kernel_rfl) ?_
  have rng : h.nx < h.nx + 1 := Nat.lt_succ_self _
  by_cases c3 : s < 1
  · simp (maxSteps := 1000000) -dsimp (disch := (repeat first | rw [nxn] | rw [nxp]); try omega) only [go_sem, c1, c2, c3, rng, sv_int, sv_bool, ldv, sdv, Nat.mul_one, true_and, implies_true]
    exact ⟨by rw [chk, if_neg hn, if_pos (.inl c3)]; rfl, hfr.more _ (by rw [AH.nx_new]; omega)⟩
  by_cases c4 : (65536 : Int) < s
  · simp (maxSteps := 1000000) -dsimp (disch := (repeat first | rw [nxn] | rw [nxp]); try omega) only [go_sem, c1, c2, c3, c4, rng, sv_int, sv_bool, ldv, sdv, Nat.mul_one, true_and, implies_true]
    exact ⟨by rw [chk, if_neg hn, if_pos (.inr (.inl c4))]; rfl, hfr.more _ (by rw [AH.nx_new]; omega)⟩
  by_cases c5 : ln < 0
  · simp (maxSteps := 1000000) -dsimp (disch := (repeat first | rw [nxn] | rw [nxp]); try omega) only [go_sem, c1, c2, c3, c4, c5, rng, sv_int, sv_bool, ldv, sdv, Nat.mul_one, true_and, implies_true]
    exact ⟨by rw [chk, if_neg hn, if_pos (.inr (.inr (.inl c5)))]; rfl, hfr.more _ (by rw [AH.nx_new]; omega)⟩
  simp (maxSteps := 1000000) -dsimp (disch := (repeat first | rw [nxn] | rw [nxp]); try omega) only [go_sem, c1, c2, c3, c4, c5, rng, sv_int, sv_bool, ldv, sdv, Nat.mul_one, true_and, implies_true]
  refine callK_of (count41 (fun _ _ => hS _ _ _ (.inr rfl)) (by omega) (by omega) (by omega) (by omega)) ?_
  rintro r h2 ⟨rfl, hf2⟩
  have hn2 : h.nx + 1 + 25 ≤ h2.nx := hf2.nx
  have hg2 : ∀ j, j < h.nx + 1 → h2.get j = (h.new (.cells [.int .i64 s, .int .i64 ln, dv] true false)).get j := fun j hj => hf2.get j (by show j < h.nx + 1 + 25; omega)
  have fr2 : Fr h h2 := (hfr.more (h.nx + 1 + 25) (by rw [AH.nx_new]; omega)).trans hf2
  by_cases c6 : cnt ln s = (D.length : Nat)
  · simp (maxSteps := 1000000) -dsimp (disch := (repeat first | rw [nxn] | rw [nxp]); try omega) only [go_sem, c6, hg2, rng, sv_int, sv_bool, ldv, sdv, Nat.mul_one, true_and, implies_true]
    first
      | exact ⟨fun id hid => hg2 id hid, by rw [chk, if_neg hn, if_neg (by omega)]; rfl, fr2⟩
      | exact ⟨by rw [chk, if_neg hn, if_neg (by omega)]; rfl, fr2⟩
  · simp (maxSteps := 1000000) -dsimp (disch := (repeat first | rw [nxn] | rw [nxp]); try omega) only [go_sem, c6, hg2, rng, sv_int, sv_bool, ldv, sdv, Nat.mul_one, true_and, implies_true]
    first
      | exact ⟨fun id hid => hg2 id hid, by rw [chk, if_neg hn, if_pos (.inr (.inr (.inr c6)))]; rfl, fr2⟩
      | exact ⟨by rw [chk, if_neg hn, if_pos (.inr (.inr (.inr c6)))]; rfl, fr2⟩

set_option maxHeartbeats 4000000 in
theorem check29 (hS : ∀ f args h, f = 30 ∨ f = 23 → S f args h = none) {h : AH} {s ln : Int} {dv : AV} {D : List (List Nat)} (hD : Ds h dv D) : RnC Tryz.prog S 30 [.agg [.int .i64 s, .int .i64 ln, dv]] h fun r h' => r = .int .i64 (chk s ln D.length : Nat) ∧ Fr h h' := by
  refine RnC.enter' Tryz.f30 _ 36 [.tmp 2] (hS _ _ _ (by simp)) bd30 Tryz.func30 rfl rfl rfl ?_
  obtain ⟨ldv, sdv, odv⟩ := hD.len
  have hfr : Fr h (h.new (.cells [.int .i64 s, .int .i64 ln, dv] true false)) := Fr.new _ _
  by_cases c1 : (4194304 : Int) < ln
  · simp (maxSteps := 1000000) -dsimp (disch := (repeat first | rw [nxn] | rw [nxp]); try omega) only [go_sem, c1, sv_int, sv_bool, ldv, sdv, Nat.mul_one, true_and, implies_true]
    exact ⟨by rw [chk, if_pos (.inl c1)]; rfl, hfr⟩
  by_cases c2 : (1024 : Int) < (D.length : Nat)
  · simp (maxSteps := 1000000) -dsimp (disch := (repeat first | rw [nxn] | rw [nxp]); try omega) only [go_sem, c1, c2, sv_int, sv_bool, ldv, sdv, Nat.mul_one, true_and, implies_true]
    exact ⟨by rw [chk, if_pos (.inr (by omega))]; rfl, hfr⟩
  have hn : ¬ (4194304 < ln ∨ 1024 < D.length) := by omega
  simp (maxSteps := 1000000) -dsimp (disch := (repeat first | rw [nxn] | rw [nxp]); try omega) only [go_sem, c1, c2, sv_int, sv_bool, ldv, sdv, Nat.mul_one, true_and, implies_true]
  refine syDraw.keep (fun id => id < h.nx + 1) (by kernel_rfl) (by kernel_rfl) ?_
  have rng : h.nx < h.nx + 1 := Nat.lt_succ_self _
  by_cases c3 : s < 1
  · simp (maxSteps := 1000000) -dsimp (disch := (repeat first | rw [nxn] | rw [nxp]); try omega) only [go_sem, c1, c2, c3, rng, sv_int, sv_bool, ldv, sdv, Nat.mul_one, true_and, implies_true]
    exact ⟨by rw [chk, if_neg hn, if_pos (.inl c3)]; rfl, hfr.more _ (by rw [AH.nx_new]; omega)⟩
  by_cases c4 : (65536 : Int) < s
  · simp (maxSteps := 1000000) -dsimp (disch := (repeat first | rw [nxn] | rw [nxp]); try omega) only [go_sem, c1, c2, c3, c4, rng, sv_int, sv_bool, ldv, sdv, Nat.mul_one, true_and, implies_true]
    exact ⟨by rw [chk, if_neg hn, if_pos (.inr (.inl c4))]; rfl, hfr.more _ (by rw [AH.nx_new]; omega)⟩
  by_cases c5 : ln < 0
  · simp (maxSteps := 1000000) -dsimp (disch := (repeat first | rw [nxn] | rw [nxp]); try omega) only [go_sem, c1, c2, c3, c4, c5, rng, sv_int, sv_bool, ldv, sdv, Nat.mul_one, true_and, implies_true]
    exact ⟨by rw [chk, if_neg hn, if_pos (.inr (.inr (.inl c5)))]; rfl, hfr.more _ (by rw [AH.nx_new]; omega)⟩
  simp (maxSteps := 1000000) -dsimp (disch := (repeat first | rw [nxn] | rw [nxp]); try omega) only [go_sem, c1, c2, c3, c4, c5, rng, sv_int, sv_bool, ldv, sdv, Nat.mul_one, true_and, implies_true]
  refine callK_of (count25 (fun _ _ => hS _ _ _ (.inr rfl)) (by omega) (by omega) (by omega) (by omega)) ?_
  rintro r h2 ⟨rfl, hf2⟩
  have hn2 : h.nx + 1 + 24 ≤ h2.nx := hf2.nx
  have hg2 : ∀ j, j < h.nx + 1 → h2.get j = (h.new (.cells [.int .i64 s, .int .i64 ln, dv] true false)).get j := fun j hj => hf2.get j (by show j < h.nx + 1 + 24; omega)
  have fr2 : Fr h h2 := (hfr.more (h.nx + 1 + 24) (by rw [AH.nx_new]; omega)).trans hf2
  by_cases c6 : cnt ln s = (D.length : Nat)
  · simp (maxSteps := 1000000) -dsimp (disch := (repeat first | rw [nxn] | rw [nxp]); try omega) only [go_sem, c6, hg2, rng, sv_int, sv_bool, ldv, sdv, Nat.mul_one, true_and, implies_true]
    first
      | exact ⟨fun id hid => hg2 id hid, by rw [chk, if_neg hn, if_neg (by omega)]; rfl, fr2⟩
      | exact ⟨by rw [chk, if_neg hn, if_neg (by omega)]; rfl, fr2⟩
  · simp (maxSteps := 1000000) -dsimp (disch := (repeat first | rw [nxn] | rw [nxp]); try omega) only [go_sem, c6, hg2, rng, sv_int, sv_bool, ldv, sdv, Nat.mul_one, true_and, implies_true]
    first
      | exact ⟨fun id hid => hg2 id hid, by rw [chk, if_neg hn, if_pos (.inr (.inr (.inr c6)))]; rfl, fr2⟩
      | exact ⟨by rw [chk, if_neg hn, if_pos (.inr (.inr (.inr c6)))]; rfl, fr2⟩

end
end Go.Proofs.YtfhcnoancepgcaaGreatDoor.dig
