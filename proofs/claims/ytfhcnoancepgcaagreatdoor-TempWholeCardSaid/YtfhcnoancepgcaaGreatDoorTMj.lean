/- Cut of the document. Conditions: the digest's constants are summaries; none else. -/
import Derived.Test.YtfhcnoancepgcaaGreatDoorTMi
namespace Go.Proofs.YtfhcnoancepgcaaGreatDoor.dig
open Go Go.Abs Go.Proofs
set_option maxRecDepth 100000
set_option linter.unusedVariables false
set_option linter.unusedSimpArgs false

/-- A stretch of bytes, and the digests of the first n stretches. -/
def stre (l : List Nat) (s i : Nat) : List Nat := (l.drop (i * s)).take s
def digs (l : List Nat) (s : Nat) : Nat → List (List Nat)
  | 0 => []
  | n + 1 => digs l s n ++ [ofS (stre l s n)]
theorem digs_len (l : List Nat) (s : Nat) : ∀ n, (digs l s n).length = n
  | 0 => rfl
  | n + 1 => by simp [digs, digs_len l s n]
theorem digs_32 (l : List Nat) (s : Nat) : ∀ n, ∀ d ∈ digs l s n, d.length = 32
  | 0, d, h => by simp [digs] at h
  | n + 1, d, h => by
    unfold digs at h
    rcases List.mem_append.1 h with h | h
    · exact digs_32 l s n d h
    · rw [List.mem_singleton.1 h]; exact ofS_len _
theorem digs_get (l : List Nat) (s : Nat) : ∀ {n i : Nat}, i < n → (digs l s n)[i]? = some (ofS (stre l s i))
  | 0, i, h => by omega
  | n + 1, i, h => by
    unfold digs
    by_cases hi : i < n
    · rw [List.getElem?_append_left (by rw [digs_len]; exact hi)]
      exact digs_get l s hi
    · obtain rfl : i = n := by omega
      rw [List.getElem?_append_right (by rw [digs_len]; exact Nat.le_refl _), digs_len, Nat.sub_self]
      rfl
/-- Digests in memory of their own. -/
def Dn (n0 : Nat) (h : AH) (v : AV) (D : List (List Nat)) : Prop :=
  (v = .nilsl ∧ D = []) ∨ ∃ id cs, v = .sl id 0 D.length 32 none ∧ h.get id = some (.cells cs true false) ∧ id < h.nx ∧ n0 ≤ id ∧ cs.length = D.length * 32 ∧ ∀ (i : Nat) d, D[i]? = some d → (cs.drop (i * 32)).take 32 = byC d
theorem Dn.ds {n0 : Nat} {h : AH} {v : AV} {D : List (List Nat)} (hb : Dn n0 h v D) : Ds h v D := by
  rcases hb with h1 | ⟨id, cs, h1, h2, h3, h4, h5, h6⟩
  · exact .inl h1
  · exact .inr ⟨id, 0, none, cs, true, false, h1, h2, h3, by omega, fun i d hd => by rw [Nat.zero_add]; exact h6 i d hd⟩
theorem Dn.fr {n0 : Nat} {h h' : AH} {v : AV} {D : List (List Nat)} (hb : Dn n0 h v D) (hf : ∀ j, n0 ≤ j → j < h.nx → h'.get j = h.get j) (hn : h.nx ≤ h'.nx) : Dn n0 h' v D := by
  rcases hb with h1 | ⟨id, cs, h1, h2, h3, h4, h5⟩
  · exact .inl h1
  · exact .inr ⟨id, cs, h1, (hf id h4 h3).trans h2, Nat.lt_of_lt_of_le h3 hn, h4, h5⟩
theorem cells_app {cs : List AV} {D : List (List Nat)} {d : List Nat} (hc : cs.length = D.length * 32) (hd : d.length = 32) (he : ∀ (i : Nat) d, D[i]? = some d → (cs.drop (i * 32)).take 32 = byC d) :
    ∀ (i : Nat) e, (D ++ [d])[i]? = some e → ((cs ++ byC d).drop (i * 32)).take 32 = byC e := by
  intro i e hi
  by_cases hl : i < D.length
  · rw [List.getElem?_append_left hl] at hi
    rw [List.drop_append_of_le_length (by omega), List.take_append_of_le_length (by rw [List.length_drop]; omega)]
    exact he i e hi
  · have hil := (List.getElem?_eq_some_iff.1 hi).1
    rw [List.length_append, List.length_singleton] at hil
    obtain rfl : i = D.length := by omega
    rw [List.getElem?_append_right (Nat.le_refl _), Nat.sub_self] at hi
    cases hi
    rw [← hc, List.drop_left, List.take_of_length_le (by rw [byC_length]; omega)]
theorem Dn.app {n0 : Nat} {h : AH} {v : AV} {D : List (List Nat)} {d : List Nat} {id1 : Nat} {c : Option Nat} {o t : Bool} (hs : Dn n0 h v D) (h32 : ∀ d ∈ D, d.length = 32) (hd : d.length = 32) (hl : D.length ≤ 1073741)
    (hid : h.get id1 = some (.cells (byC d) o t)) (hlt : id1 < h.nx) (hn0 : n0 ≤ h.nx) :
    ∃ v' h', evAppend Tryz.prog h #[26, 26] v (.sl id1 0 1 32 c) = some (.val v' h') ∧ (∀ j, j < n0 → h'.get j = h.get j) ∧ h.nx ≤ h'.nx ∧ Dn n0 h' v' (D ++ [d]) ∧ ∃ a n, v' = .sl a 0 n 32 none := by
  have hnew : firstA h 32 1 (.sl id1 0 1 32 c) = some (byC d) := by
    rw [firstA_sl hid (Nat.le_refl _) (by rw [byC_length]; omega), List.drop_zero, List.take_of_length_le (by rw [byC_length]; omega)]
  rcases hs with ⟨rfl, rfl⟩ | ⟨id, cs, rfl, h2, h3, h4, h5, h6⟩
  · rw [evAppend_eq (len := 0) (old := []) Tryz.underlying26 Tryz.underlying26 rfl ai56 rfl hnew rfl rfl (byC_all d) (by omega) (by omega) rfl]
    rw [if_neg (by decide)]
    exact ⟨_, _, rfl, fun j hj => by rw [AH.get_new, if_neg (by omega)], by simp, .inr ⟨h.nx, byC d, rfl, AH.get_new_eq rfl, Nat.lt_succ_self _, hn0, by rw [byC_length, hd]; rfl, cells_app (cs := []) (D := []) rfl hd (fun i d hh => by simp at hh)⟩, _, _, rfl⟩
  · have hold : firstA h 32 D.length (.sl id 0 D.length 32 none) = some cs := by
      rw [firstA_sl h2 (Nat.le_refl _) (by omega), List.drop_zero, List.take_of_length_le (by omega)]
    rw [evAppend_eq (len := D.length) Tryz.underlying26 Tryz.underlying26 rfl ai56 rfl hnew rfl hold (byC_all d) (by omega) (by omega) rfl]
    rw [if_neg (by decide)]
    simp only
    rw [if_pos (by simp [ownBlock, h2])]
    have ht : (textBlock h id || !(Nat.beq 0 0)) = false := by simp [textBlock, h2]
    rw [ht]
    refine ⟨_, _, rfl, fun j hj => ?_, by simp, .inr ⟨h.nx, cs ++ byC d, ?_, ?_, Nat.lt_succ_self _, hn0, ?_, cells_app h5 hd h6⟩, _, _, rfl⟩
    · rw [AH.get_new, if_neg (by simp; omega), AH.get_del, if_neg (by omega)]
    · simp
    · exact (AH.get_new_eq (h := h.del id) rfl).trans rfl
    · simp [byC_length, h5, hd]; omega
theorem cnt_iff {ln s i : Nat} (hs : 1 ≤ s) : (i : Int) < cnt (ln : Int) (s : Int) ↔ i * s < ln := by
  have h1 : cnt (ln : Int) (s : Int) = (((ln + s - 1) / s : Nat) : Int) := by
    unfold cnt
    rw [Int.tdiv_eq_ediv_of_nonneg (by omega), show (ln : Int) + s - 1 = ((ln + s - 1 : Nat) : Int) from by omega]
    exact (Int.natCast_ediv _ _).symm
  rw [h1]
  have h2 : i + 1 ≤ (ln + s - 1) / s ↔ (i + 1) * s ≤ ln + s - 1 := Nat.le_div_iff_mul_le (by omega)
  rw [Nat.add_mul, Nat.one_mul] at h2
  constructor
  · intro h; have := h2.1 (by omega); omega
  · intro h; have := h2.2 (by omega); omega
end Go.Proofs.YtfhcnoancepgcaaGreatDoor.dig
