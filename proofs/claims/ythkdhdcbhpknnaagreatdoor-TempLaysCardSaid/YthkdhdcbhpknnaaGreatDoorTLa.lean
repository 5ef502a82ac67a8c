/- What laws over trees share: bytes and numbers of the caller's, got. Conditions: those of its summaries. -/
import Derived.Test.YthkdhdcbhpknnaaGreatDoorTCk
namespace Go.Proofs.YthkdhdcbhpknnaaGreatDoor.tre
open Go Go.Abs Go.Proofs
set_option maxRecDepth 100000
set_option linter.unusedVariables false
set_option linter.unusedSimpArgs false

/-- Bytes that are not the tree's. -/
def Bz (K : Nat → Nat) (h : AH) (v : AV) (l : List Nat) : Prop := Bs h v l ∧ ∀ id off n z c, v = .sl id off n z c → K id = 0
theorem Bz.gr {K K' : Nat → Nat} {h h' : AH} {v : AV} {l : List Nat} (hb : Bz K h v l) (g : Gr K h K' h') : Bz K' h' v l := by
 obtain ⟨hb, hk⟩ := hb
 rcases hb with h1 | ⟨id, off, c, cs, o, t, h1, h2, h3, h4⟩
 ·exact ⟨.inl h1, fun id off n z c hh => by rw [h1.1] at hh; cases hh⟩
 ·have hk0 := hk _ _ _ _ _ h1
  refine ⟨.inr ⟨id, off, c, cs, o, t, h1, (g.get id h3 hk0).1.trans h2, Nat.lt_of_lt_of_le h3 g.nx, h4⟩, fun id' off' n z c' hh => ?_⟩
  rw [h1] at hh
  cases hh
  exact (g.get _ h3 hk0).2
theorem Bn.bp {p : Nat} {h h' : AH} {v : AV} {l : List Nat} (hb : Bn h.nx h' v l) (hp : p < h.nx) : Bp p h' v l := by
 refine ⟨hb.bs, fun id off n z c hh => ?_⟩
 rcases hb with h1 | ⟨id', c', cs, tx, h1, h2, h3, h4, h5⟩
 ·rw [h1.1] at hh; cases hh
 ·rw [h1] at hh
  cases hh
  omega
theorem ai3 : appI Tryz.prog 3 = some (1, 8) := by kernel_rfl
theorem ints_all (l : List Int) : (l.map (AV.int .i64)).all oneA = true := by
 rw [List.all_eq_true]
 intro c hc
 obtain ⟨b, _, rfl⟩ := List.mem_map.1 hc
 rfl
/-- Numbers in memory of their own. -/
theorem Iv.own {K : Nat → Nat} {h : AH} {v : AV} {l : List Int} (hb : Iv K h v l) (hl : l.length ≤ 1048576) (top : ∀ j, h.nx ≤ j → K j = 0) :
  ∃ v' h', evAppend Tryz.prog (h.new (.cells [] true true)) #[44, 44] (.sl h.nx 0 0 1 (some 0)) v = some (.val v' h') ∧ Fr h h' ∧ Iv K h' v' l ∧ oneA v' = true := by
 have hold : firstA (h.new (.cells [] true true)) 1 0 (.sl h.nx 0 0 1 (some 0)) = some [] := by
  rw [firstA_sl (AH.get_new_eq rfl) (Nat.le_refl _) (by simp)]; simp
 have hnew : lenA v = some l.length ∧ firstA (h.new (.cells [] true true)) 1 l.length v = some (l.map (.int .i64)) := by
  rcases hb with ⟨rfl, rfl⟩ | ⟨id, off, c, cs, o, t, rfl, h2, h3, h4, h5, h6, h7⟩
  ·exact ⟨rfl, rfl⟩
  ·refine ⟨rfl, ?_⟩
   rw [firstA_sl ((AH.get_new_ne (by omega)).trans h2) (Nat.le_refl _) (by omega), Nat.mul_one, h7]
 rw [evAppend_eq Tryz.underlying44 Tryz.underlying44 rfl ai3 hnew.1 hnew.2 rfl hold (ints_all l) (by omega) (by omega) rfl]
 by_cases h0 : l.length = 0
 ·have : l = [] := List.length_eq_zero_iff.1 h0
  subst this
  rw [if_pos h0]
  exact ⟨_, _, rfl, Fr.new _ _, .inr ⟨h.nx, 0, some 0, [], true, true, rfl, AH.get_new_eq rfl, Nat.lt_succ_self _, top _ (Nat.le_refl _), fun k hk => by cases hk; exact Nat.le_refl _, Nat.le_refl _, rfl⟩, rfl⟩
 ·rw [if_neg h0]
  simp only
  rw [if_pos (by omega)]
  refine ⟨_, _, rfl, (Fr.new _ _).news _, .inr ⟨h.nx + 1, 0, none, [] ++ l.map (.int .i64), true, false, by simp, AH.get_new_eq rfl, Nat.lt_succ_self _, top _ (by omega), (fun k hk => by cases hk), by simp, ?_⟩, rfl⟩
  rw [List.drop_zero, List.nil_append]
  have : (l.map (AV.int .i64)).take (l.map (AV.int .i64)).length = l.map (AV.int .i64) := List.take_length
  rwa [List.length_map] at this
section
variable {S : Sums}
theorem Bz.of {K : Nat → Nat} {h h' : AH} {v : AV} {l : List Nat} (hb : Bs h v l) (f : Fr h h') (hk : ∀ j, j < h.nx → K j = 0) : Bz K h' v l := by
 refine ⟨hb.fr f, fun id off n z cc hh => ?_⟩
 rcases hb with ⟨h1, _⟩ | ⟨id', off', c', cs, o, t, h1, h2, h3, h4⟩
 ·rw [h1] at hh; cases hh
 ·rw [h1] at hh
  cases hh
  exact hk _ h3
theorem Iv.of {K K' : Nat → Nat} {h h' : AH} {v : AV} {l : List Int} (hb : Iv K h v l) (f : Fr h h') (hk : ∀ j, j < h.nx → K' j = 0) : Iv K' h' v l := by
 rcases hb with h1 | ⟨id', off', c', cs, o, t, h1, h2, h3, h4, h5⟩
 ·exact .inl h1
 ·exact .inr ⟨id', off', c', cs, o, t, h1, (f.get _ h3).trans h2, Nat.lt_of_lt_of_le h3 f.nx, hk _ h3, h5⟩
end
end Go.Proofs.YthkdhdcbhpknnaaGreatDoor.tre
