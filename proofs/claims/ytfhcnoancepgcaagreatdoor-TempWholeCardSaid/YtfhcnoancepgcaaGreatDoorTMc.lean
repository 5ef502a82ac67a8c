/- Lists of blocks, continued: bytes and digests in memory of their own. Conditions: none beyond the stated premises. -/
import Derived.Test.YtfhcnoancepgcaaGreatDoorTMb
namespace Go.Proofs.YtfhcnoancepgcaaGreatDoor.dig
open Go Go.Abs Go.Proofs
set_option maxRecDepth 100000
set_option linter.unusedVariables false
set_option linter.unusedSimpArgs false

/-- What is appended of digests. -/
theorem take_all {D : List (List Nat)} (h32 : ∀ d ∈ D, d.length = 32) : ∀ (n : Nat) (cs : List AV), D.length = n → n * 32 ≤ cs.length → (∀ (i : Nat) (d : List Nat), D[i]? = some d → (cs.drop (i * 32)).take 32 = byC d) → (cs.take (n * 32)).all oneA = true := by
  intro n cs hn hc hel
  rw [List.all_eq_true]
  intro c hm
  obtain ⟨k, hk⟩ := List.mem_iff_getElem?.1 hm
  have hkl : k < n * 32 := by
    have := (List.getElem?_eq_some_iff.1 hk).1
    rw [List.length_take] at this
    omega
  have hi : k / 32 < D.length := by omega
  have he := hel (k / 32) D[k / 32] (List.getElem?_eq_getElem hi)
  rw [List.getElem?_take_of_lt hkl] at hk
  have h2 : ((cs.drop (k / 32 * 32)).take 32)[k % 32]? = some c := by
    rw [List.getElem?_take_of_lt (Nat.mod_lt _ (by decide)), List.getElem?_drop, ← hk]
    congr 1
    omega
  rw [he] at h2
  exact List.all_eq_true.1 (byC_all _) c (List.mem_iff_getElem?.2 ⟨_, h2⟩)
theorem Ds.first {h : AH} {v : AV} {D : List (List Nat)} (hb : Ds h v D) : lenA v = some D.length ∧ ∃ cs, firstA h 32 D.length v = some cs ∧ cs.length = D.length * 32 ∧ ∀ (i : Nat) (d : List Nat), D[i]? = some d → (cs.drop (i * 32)).take 32 = byC d := by
  rcases hb with ⟨rfl, rfl⟩ | ⟨id, off, c, cs, o, t, rfl, h2, h3, h4, h5⟩
  · exact ⟨rfl, [], rfl, rfl, fun i d hd => by simp at hd⟩
  · refine ⟨rfl, (cs.drop off).take (D.length * 32), ?_, ?_, fun i d hd => ?_⟩
    · rw [firstA_sl h2 (Nat.le_refl _) (by omega)]
    · rw [List.length_take, List.length_drop]; omega
    · have hil : i < D.length := (List.getElem?_eq_some_iff.1 hd).1
      rw [← h5 i d hd, List.drop_take, List.drop_drop, List.take_take]
      congr 1
      omega
theorem ai56 : appI Tryz.prog 62 = some (32, 32) := by kernel_rfl
/-- Digests in memory of their own: appended to a new empty slice. -/
theorem Ds.own {h : AH} {x : AV} {D : List (List Nat)} {id : Nat} {cs0 : List AV} {o t : Bool} (hb : Ds h x D) (h32 : ∀ d ∈ D, d.length = 32) (hl : D.length ≤ 1073741824) (hid : h.get id = some (.cells cs0 o t)) (hlt : id < h.nx) :
    ∃ v h', evAppend Tryz.prog h #[26, 26] (.sl id 0 0 32 (some 0)) x = some (.val v h') ∧ Fr h h' ∧ Ds h' v D ∧ oneA v = true ∧ ∃ k n c, v = .sl k 0 n 32 c ∧ id ≤ k := by
  have hold : firstA h 32 0 (.sl id 0 0 32 (some 0)) = some [] := by
    rw [firstA_sl hid (Nat.le_refl _) (by omega)]; simp
  obtain ⟨hn, cs, hnew, hcl, hel⟩ := hb.first
  have hall : cs.all oneA = true := by
    have := take_all h32 D.length cs rfl (by omega) hel
    rw [List.take_of_length_le (by omega)] at this
    exact this
  have key : ∀ (h0 : D.length = 0 ∨ ¬ D.length = 0), ∃ v h', evAppend Tryz.prog h #[26, 26] (.sl id 0 0 32 (some 0)) x = some (.val v h') ∧ Fr h h' ∧ Ds h' v D ∧ oneA v = true ∧ ∃ k n c, v = .sl k 0 n 32 c ∧ id ≤ k := by
    intro h0
    rw [evAppend_eq Tryz.underlying26 Tryz.underlying26 rfl ai56 hn hnew rfl hold hall (by omega) (by omega) rfl]
    rcases h0 with h0 | h0
    · rw [if_pos h0]
      have : D = [] := List.length_eq_zero_iff.1 h0
      subst this
      exact ⟨_, _, rfl, Fr.refl _, .inr ⟨id, 0, some 0, cs0, o, t, rfl, hid, hlt, by simp, fun i d hd => by simp at hd⟩, rfl, _, _, _, rfl, Nat.le_refl _⟩
    · rw [if_neg h0]
      simp only
      rw [if_pos (by omega)]
      refine ⟨_, _, rfl, Fr.new _ _, .inr ⟨h.nx, 0, none, [] ++ cs, true, false, ?_, AH.get_new_eq rfl, Nat.lt_succ_self _, ?_, fun i d hd => ?_⟩, rfl, _, _, _, rfl, Nat.le_of_lt hlt⟩
      · simp
      · simp [hcl]
      · simpa using hel i d hd
  exact key (Decidable.em _)

theorem eqN (t : TypeId) (ht : t = 22 ∨ t = 26) (h : AH) : binA Tryz.prog h .eql t .nilsl .nilsl = some (.bool true) := by
  rcases ht with rfl | rfl <;> kernel_rfl
theorem eqS (t : TypeId) (ht : t = 22 ∨ t = 26) (h : AH) (i o n z : Nat) (c : Option Nat) : binA Tryz.prog h .eql t (.sl i o n z c) .nilsl = some (.bool false) := by
  rcases ht with rfl | rfl <;> kernel_rfl

section
variable {S : Sums}
theorem clone32 (hS : ∀ args h, S 29 args h = none) {h : AH} {v : AV} {l : List Nat} (hb : Bs h v l) (hl : l.length ≤ 137438953472) : RnC Tryz.prog S 29 [v] h fun r h' => (v = .nilsl ∧ r = .nilsl ∨ v ≠ .nilsl ∧ Bo h.nx h' r l) ∧ Fr h h' := by
  refine RnC.enter' Tryz.f29 _ 8 [.tmp 2] (hS _ _) bd29 Tryz.func29 rfl rfl rfl ?_
  have hb0 := hb
  rcases hb with ⟨rfl, rfl⟩ | ⟨id, off, c, cs, o, t, rfl, h2, h3, h4⟩
  · simp (maxSteps := 1000000) -dsimp (disch := (repeat first | rw [nxn] | rw [nxp]); try omega) only [go_sem, evLen, eqN 22 (.inl rfl), eqS 22 (.inl rfl)]
    exact ⟨.inl ⟨trivial, trivial⟩, Fr.refl _⟩
  · obtain ⟨v2, h2, ha, hf, hb2⟩ := Bo.app (h0 := h) (h := h.new (.cells [] true true)) (v := .sl h.nx 0 0 1 (some 0)) (l := []) Tryz.underlying22 ai5 ⟨h.nx, some 0, [], true, rfl, AH.get_new_eq rfl, Nat.lt_succ_self _, Nat.le_refl _, rfl, Nat.le_refl _, .inr rfl⟩ (hb0.fr (Fr.new _ _)) (Fr.new _ _) (by simp; omega)
    simp (maxSteps := 1000000) -dsimp (disch := (repeat first | rw [nxn] | rw [nxp]); try omega) only [go_sem, evLen, ha, eqN 22 (.inl rfl), eqS 22 (.inl rfl)]
    exact ⟨.inr (by simpa using hb2), hf⟩
theorem clone28 (hS : ∀ args h, S 26 args h = none) {h : AH} {v : AV} {D : List (List Nat)} (hD : Ds h v D) (h32 : ∀ d ∈ D, d.length = 32) (hl : D.length ≤ 1073741824) :
    RnC Tryz.prog S 26 [v] h fun r h' => Ds h' r D ∧ oneA r = true ∧ (r = .nilsl ∨ ∃ k n c, r = .sl k 0 n 32 c ∧ h.nx ≤ k) ∧ Fr h h' := by
  refine RnC.enter' Tryz.f26 _ 8 [.tmp 2] (hS _ _) bd26 Tryz.func26 rfl rfl rfl ?_
  have hD0 := hD
  rcases hD with ⟨rfl, rfl⟩ | ⟨id, off, c, cs, o, t, rfl, h2, h3, h4⟩
  · simp (maxSteps := 1000000) -dsimp (disch := (repeat first | rw [nxn] | rw [nxp]); try omega) only [go_sem, evLen, eqN 26 (.inr rfl), eqS 26 (.inr rfl)]
    exact ⟨.inl ⟨rfl, rfl⟩, trivial, .inl trivial, Fr.refl _⟩
  · obtain ⟨v2, h2, ha, hf, hb2, ho, k, n, c', rfl, hk⟩ := Ds.own (h := h.new (.cells [] true true)) (id := h.nx) (hD0.fr (Fr.new _ _)) h32 hl (AH.get_new_eq rfl) (Nat.lt_succ_self _)
    have hz : z32.length = 32 := rfl
    simp (maxSteps := 1000000) -dsimp (disch := (repeat first | rw [nxn] | rw [nxp]); try omega) only [go_sem, evLen, zc56w, hz, ha, eqN 26 (.inr rfl), eqS 26 (.inr rfl)]
    exact ⟨hb2, trivial, .inr ⟨_, _, _, rfl, hk⟩, (Fr.new _ _).trans hf⟩
end
end Go.Proofs.YtfhcnoancepgcaaGreatDoor.dig
