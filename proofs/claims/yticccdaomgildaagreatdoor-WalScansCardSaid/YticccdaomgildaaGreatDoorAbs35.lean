/- The abstract layer, part 35: a law's arguments. -/
import Derived.Test.YticccdaomgildaaGreatDoorAbs34
import Derived.Carry
import Derived.ChangeOld
namespace Go.Abs
open Go
set_option linter.unusedVariables false

section
variable {P : Program} {S : Sums}

theorem dataT_mono : ∀ (k : Nat) (t : TypeId), dataT P k t = true → dataT P (k + 1) t = true
  | 0, t, h => by cases h
  | k + 1, t, h => by
    have ih := dataT_mono k
    simp only [dataT] at h
    unfold dataT
    cases hu : P.underlying t with
    | none => rw [hu] at h; cases h
    | some d =>
      rw [hu] at h
      cases d <;> simp only at h ⊢ <;> try (first | exact h | cases h)
      case slice e =>
        rw [Bool.and_eq_true] at h ⊢
        exact ⟨h.1, ih _ h.2⟩
      case struct fs =>
        rw [Bool.and_eq_true] at h ⊢
        refine ⟨h.1, ?_⟩
        have h2 := h.2
        rw [List.all_eq_true] at h2 ⊢
        exact fun f hf => ih _ (h2 f hf)
      case array n e =>
        rw [Bool.and_eq_true] at h ⊢
        exact ⟨h.1, ih _ h.2⟩
theorem dataT_le {k j : Nat} (hkj : k ≤ j) {t : TypeId} (h : dataT P k t = true) : dataT P j t = true := by
  induction hkj with
  | refl => exact h
  | step _ ih => exact dataT_mono _ _ ih

/-- An argument of plain data is known. -/
theorem got_arg {H : Type} {enc : TypeId × Value → H} {W : World} {t : TypeId} {v : Value} {d : DataW H} {ps : List MemPlace} {k : Nat} (hd : ∃ (b : Nat) (c : Array Value) (e : TypeId) (fr : Nat × Nat), W.heap[b]? = some (Obj.cells c e fr)) (hk : dataT P k t = true)
    (h : DataW.Trod enc P W 0 (fun _ => true) true t v d ps) {ρ : Pm} {ah : AH} (hR : Rel (keptAll W) ρ ah W) : ∃ ρ' h' avs, Got P (keptAll W) W ρ ah t v.cells.toList ρ' h' avs := by
  obtain ⟨fuel, hf⟩ := h
  exact got (keptAll_allKept W) hd (max k fuel) t _ _ (dataT_le (Nat.le_max_left k fuel) hk) (DataW.trod_le (Nat.le_max_right k fuel) hf) ρ ah hR

theorem vr_agg {ρ : Pm} {avs : List AV} {v : Value} (hv : VRs ρ avs v.cells.toList) (hn : avs.length ≠ 1) : VR ρ (.agg avs) v := by
  have hl := hv.length
  cases v <;> first
    | (exact .agg hv; done)
    | (simp [Value.cells] at hl; exact absurd hl hn)

theorem trod_below {H : Type} {enc : TypeId × Value → H} {t : TypeId} (hl : laidOutB P = true) (hr : P.readableRec t = true) (hrow : t < P.types.size) {W W' : World} {v : Value} {d : DataW H} {ps : List MemPlace}
    (h : DataW.Trod enc P W 0 (fun _ => true) true t v d ps) (hb : RowKit.Below W.heap.size W W') : DataW.Trod enc P W' 0 (fun b => decide (b < W.heap.size)) true t v d ps := by
  obtain ⟨fuel, hf⟩ := h
  exact RowKit.Below.trod hl hr hrow ⟨fuel, hf⟩ hb (DataW.trod_lt fuel t _ _ hf)

/-- There is a block of cells. -/
theorem cells_of_laid {laid : List (String × DataW Unit)} {w : World} (n : String) (d : DataW Unit) (r : List (String × DataW Unit)) (h : laidMetH P laid w) (hh : laid.filter (fun x => x.2.handleName?.isSome) = []) (hl : laid = (n, d) :: r) :
    ∃ (b : Nat) (c : Array Value) (e : TypeId) (fr : Nat × Nat), w.heap[b]? = some (Obj.cells c e fr) := by
  unfold laidMetH at h
  rw [hh] at h
  obtain ⟨ps, h1, _⟩ := h
  rw [hl] at h1
  obtain ⟨g, t, cs, fuel, p, q, h2, h3, h4, h5, h6, h7⟩ := h1
  unfold World.var? at h4
  rw [h2] at h4
  simp only [Option.bind_some] at h4
  split at h4
  · rename_i c e fr hc
    exact ⟨g, c, e, fr, hc⟩
  · cases h4

theorem rel_lt {K : Kp} {ρ : Pm} {h : AH} {w : World} (hR : Rel K ρ h w) : ∀ id o, h.get id = some o → id < h.nx := fun id o hg => by
  obtain ⟨p, hp, _⟩ := hR.obj id o hg
  refine Nat.lt_of_not_le fun hle => ?_
  rw [hR.fresh id hle] at hp
  cases hp

end
end Go.Abs
