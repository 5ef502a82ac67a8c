/- Arguments of a law: slices of pairs. Conditions: none. -/
import Derived.Test.YtmphlckolampoaaGreatDoorRDb
import Derived.Test.YtmphlckolampoaaGreatDoorAb6
namespace Go.Proofs.YtmphlckolampoaaGreatDoor.tbl
open Go Go.Abs Go.Abs.Rec Go.Proofs Go.ChangeShapes Go.RowKit
set_option maxRecDepth 100000
set_option linter.unusedVariables false
set_option linter.unusedSimpArgs false
theorem cStr : Tryz.prog.cellsOf 9 = 1 := by kernel_rfl
theorem cBool : Tryz.prog.cellsOf 4 = 1 := by kernel_rfl
theorem cPair : Tryz.prog.cellsOf 51 = 3 := by kernel_rfl
theorem byL_of (s : ByteArray) : byL (bytesOf s) := by
 intro b hb
 unfold bytesOf at hb
 obtain ⟨x, _, rfl⟩ := List.mem_map.1 hb
 exact x.toNat_lt
theorem ty_pair {h : AH} {avs : List AV} (hx : Ty Tryz.prog h 51 avs) : ∃ p : Pr, avs = pc p ∧ byL p.1 ∧ byL p.2.1 := by
 obtain ⟨hl, hf⟩ := hx.struct_inv Tryz.underlying51
 have hl3 : avs.length = 3 := hl.trans cPair
 match avs, hl3 with
 | [a0, a1, a2], _ =>
  have f0 := hf _ (List.mem_cons_self ..)
  have f1 := hf _ (List.mem_cons_of_mem _ (List.mem_cons_self ..))
  have f2 := hf _ (List.mem_cons_of_mem _ (List.mem_cons_of_mem _ (List.mem_cons_self ..)))
  simp only [cStr, cBool, List.drop_zero, List.drop_succ_cons, List.take_succ_cons, List.take_zero] at f0 f1 f2
  obtain ⟨k, e0, _⟩ := f0.str_inv Tryz.underlying9
  obtain ⟨q, e1, _⟩ := f1.str_inv Tryz.underlying9
  obtain ⟨b, e2⟩ := f2.bool_inv Tryz.underlying4
  cases e0; cases e1; cases e2
  exact ⟨(bytesOf k, (bytesOf q, b)), rfl, byL_of k, byL_of q⟩
theorem flat_range {cs : List AV} (F : Nat → Pr) : ∀ n : Nat, n * 3 ≤ cs.length → (∀ i, i < n → (cs.drop (i * 3)).take 3 = pc (F i)) → cs.take (n * 3) = ((List.range n).map F).flatMap pc
 | 0, _, _ => by simp
 | n + 1, hn, h => by
  have ih := flat_range F n (by omega) fun i hi => h i (by omega)
  have e : (n + 1) * 3 = n * 3 + 3 := by omega
  rw [e, List.take_add, ih, h n (Nat.lt_succ_self n), List.range_succ, List.map_append, List.flatMap_append]
  simp
theorem ty_pairs {h : AH} {avs : List AV} (hx : Ty Tryz.prog h 22 avs) (hlt : ∀ id o, h.get id = some o → id < h.nx) : ∃ v L, avs = [v] ∧ Ps h v L ∧ ∀ p ∈ L, byL p.1 ∧ byL p.2.1 := by
 rcases hx.slice_inv Tryz.underlying22 with rfl | ⟨id, len, cs, rfl, hg, hl, hcs, hel⟩
 ·exact ⟨_, [], rfl, .inl ⟨rfl, rfl⟩, fun p hp => by cases hp⟩
 ·rw [cPair] at hcs hel ⊢
  have key : ∀ i, ∃ p : Pr, i < len → (cs.drop (i * 3)).take 3 = pc p ∧ byL p.1 ∧ byL p.2.1 := fun i => by
   by_cases hi : i < len
   ·obtain ⟨p, h1, h2⟩ := ty_pair (hel i hi)
    exact ⟨p, fun _ => ⟨h1, h2⟩⟩
   ·exact ⟨([], ([], false)), fun hh => absurd hh hi⟩
  obtain ⟨F, hF⟩ := Classical.axiomOfChoice key
  have hm : ((List.range len).map F).length = len := by simp
  refine ⟨_, (List.range len).map F, rfl, .inr ⟨id, 0, none, cs, false, false, by rw [hm], hg, hlt _ _ hg, fun k hk => (by cases hk), by rw [hm]; omega, ?_⟩, fun p hp => ?_⟩
  ·rw [hm, List.drop_zero]
   exact flat_range F len (by omega) fun i hi => (hF i hi).1
  ·obtain ⟨i, hi, rfl⟩ := List.mem_map.1 hp
   exact (hF i (List.mem_range.1 hi)).2
theorem ps_le {h h2 : AH} {v : AV} {l : KL (List Nat × Bool)} (hb : Ps h v l) (hl : ∀ id o, h.get id = some o → h2.get id = some o) (hn : h.nx ≤ h2.nx) : Ps h2 v l := by
 rcases hb with h1 | ⟨id, off, c, cs, o, t, h1, h3, h4, h5⟩
 ·exact .inl h1
 ·exact .inr ⟨id, off, c, cs, o, t, h1, hl _ _ h3, Nat.lt_of_lt_of_le h4 hn, h5⟩
end Go.Proofs.YtmphlckolampoaaGreatDoor.tbl
