/- The abstract layer, part 47. Conditions: none. -/
import Derived.Test.YtmdkibpieeiadaaAb6

section
namespace Go.Abs
open Go
set_option linter.unusedVariables false

section
variable {P : Program}
theorem Ty.array_inv {h : AH} {t e : TypeId} {n : Nat} {l : List AV} (hu : P.underlying t = some (.array n e)) (hx : Ty P h t l) : l.length = P.cellsOf t ∧ ∀ i, i < n → Ty P h e ((l.drop (i * P.cellsOf e)).take (P.cellsOf e)) := by
  cases hx with
  | array ht hc hf => rw [hu] at ht; cases ht; exact ⟨hc, hf⟩
  | struct ht hc hf => rw [hu] at ht; cases ht
  | bool b ht => rw [hu] at ht; cases ht
  | int n ht hw => rw [hu] at ht; cases ht
  | str s ht hs => rw [hu] at ht; cases ht
  | nilsl ht => rw [hu] at ht; cases ht
  | sl ht hg hl hc hcs => rw [hu] at ht; cases ht
theorem byC_of {cs : List AV} (h1 : ∀ c ∈ cs, ∃ n : Nat, c = .int .u8 (n : Int) ∧ n < 256) : cs = byC (cs.map natOf) ∧ ∀ b ∈ cs.map natOf, b < 256 := by
  refine ⟨?_, fun b hb => ?_⟩
  · unfold byC
    rw [List.map_map]
    have : cs.map ((fun (b : Nat) => AV.int .u8 (b : Int)) ∘ natOf) = cs.map id := List.map_congr_left fun c hc => by
      obtain ⟨n, rfl, _⟩ := h1 c hc
      simp [natOf]
    rw [this, List.map_id]
  · obtain ⟨c, hc, rfl⟩ := List.mem_map.1 hb
    obtain ⟨n, rfl, hn⟩ := h1 c hc
    simpa [natOf] using hn
theorem Ty.bytes {h : AH} {t e : TypeId} {n : Nat} {cs : List AV} (hu : P.underlying t = some (.array n e)) (he : P.underlying e = some (.int .u8)) (hc : P.cellsOf e = 1) (hn : P.cellsOf t = n) (hx : Ty P h t cs) : ∃ d, cs = byC d ∧ d.length = n ∧ ∀ b ∈ d, b < 256 := by
  obtain ⟨h1, h2⟩ := hx.array_inv hu
  rw [hn] at h1
  have h3 : ∀ c ∈ cs, ∃ n : Nat, c = .int .u8 (n : Int) ∧ n < 256 := by
    intro c hm
    obtain ⟨i, hi⟩ := List.mem_iff_getElem?.1 hm
    have hil := (List.getElem?_eq_some_iff.1 hi).1
    have h4 := h2 i (by omega)
    rw [hc, Nat.mul_one, List.drop_eq_getElem_cons hil] at h4
    obtain ⟨k, hk, q1, q2⟩ := h4.int_inv he
    have q1' : (0 : Int) ≤ k := q1
    have q2' : k ≤ 255 := q2
    simp only [List.take_succ_cons, List.take_zero, List.cons.injEq, and_true] at hk
    rw [List.getElem?_eq_getElem hil] at hi
    cases hi
    exact ⟨k.toNat, by rw [hk, Int.toNat_of_nonneg q1'], by omega⟩
  obtain ⟨h5, h6⟩ := byC_of h3
  exact ⟨cs.map natOf, h5, by rw [List.length_map, h1], h6⟩
/-- A slice of rows of n bytes. -/
theorem Ty.rows {h : AH} {t e u : TypeId} {n : Nat} {l : List AV} (hu : P.underlying t = some (.slice e)) (he : P.underlying e = some (.array n u)) (hb : P.underlying u = some (.int .u8)) (hc : P.cellsOf u = 1) (hn : P.cellsOf e = n) (hx : Ty P h t l) (hlt : ∀ id o, h.get id = some o → id < h.nx) :
    ∃ v D, l = [v] ∧ (∀ d ∈ D, d.length = n) ∧ ((v = .nilsl ∧ D = []) ∨ ∃ id cs, v = .sl id 0 D.length n none ∧ h.get id = some (.cells cs false false) ∧ id < h.nx ∧ cs.length = D.length * n ∧ ∀ (i : Nat) d, D[i]? = some d → (cs.drop (i * n)).take n = byC d) := by
  rcases hx.slice_inv hu with rfl | ⟨id, len, cs, rfl, hg, hl, hcs, hel⟩
  · exact ⟨_, [], rfl, fun d hd => by simp at hd, .inl ⟨rfl, rfl⟩⟩
  · rw [hn] at hcs hel ⊢
    have hrow : ∀ i, i < len → ∃ d, (cs.drop (i * n)).take n = byC d ∧ d.length = n := fun i hi => by
      obtain ⟨d, h1, h2, _⟩ := (hel i hi).bytes he hb hc hn
      exact ⟨d, h1, h2⟩
    refine ⟨_, (List.range len).map fun i => ((cs.drop (i * n)).take n).map natOf, rfl, fun d hd => ?_, .inr ⟨id, cs, by simp, hg, hlt _ _ hg, by simpa using hcs, fun i d hd => ?_⟩⟩
    · obtain ⟨i, hi, rfl⟩ := List.mem_map.1 hd
      obtain ⟨d, h1, h2⟩ := hrow i (List.mem_range.1 hi)
      rw [h1, List.length_map, byC_length, h2]
    · rw [List.getElem?_map] at hd
      cases hr : (List.range len)[i]? with
      | none => rw [hr] at hd; cases hd
      | some j =>
        rw [hr] at hd
        have hj : i < len ∧ j = i := by
          obtain ⟨h1, h2⟩ := List.getElem?_eq_some_iff.1 hr
          simp at h1 h2
          exact ⟨h1, h2.symm⟩
        obtain ⟨hj1, rfl⟩ := hj
        obtain ⟨d', h1, h2⟩ := hrow _ hj1
        have e : ((cs.drop (j * n)).take n).map natOf = d' := by
          rw [h1]
          unfold byC
          rw [List.map_map]
          have : d'.map (natOf ∘ fun (b : Nat) => AV.int .u8 (b : Int)) = d'.map (fun x => x) := List.map_congr_left fun c _ => by simp [natOf]
          rw [this, List.map_id']
        have hd2 : ((cs.drop (j * n)).take n).map natOf = d := Option.some.inj hd
        rw [← hd2, e, h1]
end
end Go.Abs
end
