/- The abstract layer, part 38: functions that only read and return a new row of numbers, as summaries. -/
import Derived.Test.YticccdaomgildaaGreatDoorAbs37
namespace Go.Abs
open Go
set_option linter.unusedVariables false

section
variable {P : Program} {S : Sums}

/-- A run over what nobody may write, that ends in a new row, is a summary. -/
theorem sumFresh_ok (hS : SumsOK P S) {f : FuncId} {args0 : List AV} {h0 : AH} {id n : Nat} {l : List AV} {txt : Bool} {ρ0 : Pm}
    (hc : RnC P S f args0 h0 fun v h' => ∃ id, v = .sl id 0 n 1 none ∧ h'.get id = some (.cells l true txt)) (hs : l.all scalarA = true)
    {K : Kp} {ρ : Pm} {h : AH} {w : World} {cargs : Array Value} (hR0 : Rel (keptAll w) ρ0 h0 w) (ha : VRs ρ0 args0 cargs.toList) (hR : Rel K ρ h w) : CallRes P f cargs w (CallPost K h ρ (.sl h.nx 0 n 1 none) (h.new (.cells l true txt))) := by
  obtain ⟨k, v, h0', hc, id, rfl, hg⟩ := hc
  refine ((evN_sound hS k).call (keptAll w) ρ0 h0 w f args0 cargs _ h0' hR0 ha hc).mono fun cv w' hp => ?_
  obtain ⟨ρ', _, hvr, hR'⟩ := hp
  obtain ⟨p, hpi, hor, hown, -⟩ := hR'.obj id _ hg
  have hpb : w.heap.size ≤ p.b := (hown rfl).2
  have hnone : ρ h.nx = none := hR.fresh _ (Nat.le_refl _)
  have hle : ρ.le (ρ.put h.nx p) := Pm.le_put hnone
  have hold : ∀ b, b < w.heap.size → w'.heap[b]? = w.heap[b]? := fun b hb => by
    have h1 : w.heap[b]? = some w.heap[b] := by simp
    rw [h1]
    exact hR'.keep b _ h1
  have hlt : ∀ i o q, h.get i = some o → ρ i = some q → q.b < w.heap.size := fun i o q hi hq => by
    obtain ⟨q', hq', hq2, -⟩ := hR.obj i o hi
    rw [hq] at hq'
    cases hq'
    cases hb : w.heap[q.b]? with
    | some x => exact (Array.getElem?_eq_some_iff.1 hb).1
    | none =>
      rw [hb] at hq2
      exact (or_none hq2).elim
  refine ⟨ρ.put h.nx p, Ext.put hnone, ?_, ⟨hR'.os.trans hR.os, hR'.tape.trans hR.tape, hR'.output.trans hR.output, Nat.le_trans hR.size hR'.size, fun b o hb => hR'.keep b o (hR.keep b o hb), fun i hi => ?_, fun i o hi => ?_, fun i j oi oj pi pj hi hj ho ho' hpi hpj hb => ?_⟩⟩
  · cases hvr with
    | sl h1 hl2 ha2 hx hc2 =>
      rw [hpi] at h1
      cases h1
      exact .sl (Pm.put_self _ _ _) hl2 ha2 hx hc2
  · have hi' : h.nx + 1 ≤ i := hi
    have hne : i ≠ h.nx := by omega
    simp only [Pm.put, if_neg hne]
    exact hR.fresh i (by omega)
  · rw [AH.get_new] at hi
    by_cases he : i = h.nx
    · subst he
      rw [if_pos rfl] at hi
      cases hi
      refine ⟨p, Pm.put_self _ _ _, ?_, fun _ => ⟨?_, Nat.le_trans hR.size hpb⟩, fun h => by cases h⟩
      · obtain ⟨c, e, fr, h1, h2, h3, h4, h5⟩ := hor
        refine ⟨c, e, fr, h1, h2, h3, fun k a hk => ?_, h5⟩
        obtain ⟨u, hu, hr⟩ := h4 k a hk
        refine ⟨u, hu, vr_scalar ?_ hr⟩
        rw [List.all_eq_true] at hs
        exact hs a (List.mem_of_getElem? hk)
      · cases hk : K.at_ p.b with
        | none => rfl
        | some o' => have := hR.size_le _ _ hk; omega
    · rw [if_neg he] at hi
      obtain ⟨q, hq1, hq2, hq3⟩ := hR.obj i o hi
      have hqb := hlt i o q hi hq1
      refine ⟨q, hle _ _ hq1, ?_, hq3⟩
      rw [hold _ hqb]
      exact OR.mono hle hq2
  · rw [AH.get_new] at hi hj
    by_cases he : i = h.nx
    · by_cases he' : j = h.nx
      · rw [he, he']
      · rw [if_neg he'] at hj
        rw [he, Pm.put_self] at hpi
        cases hpi
        simp only [Pm.put, if_neg he'] at hpj
        have := hlt j oj pj hj hpj
        omega
    · rw [if_neg he] at hi
      simp only [Pm.put, if_neg he] at hpi
      by_cases he' : j = h.nx
      · rw [he', Pm.put_self] at hpj
        cases hpj
        have := hlt i oi pi hi hpi
        omega
      · rw [if_neg he'] at hj
        simp only [Pm.put, if_neg he'] at hpj
        exact hR.inj i j oi oj pi pj hi hj ho ho' hpi hpj hb

/-- A function of one number that returns a new row. -/
noncomputable def sumRow (g : FuncId) (t : List (Nat × List AV)) : Sums := fun f args h => cond (Nat.beq f g) (match args with
  | [.int .i64 (.ofNat n)] => (t.find? fun e => Nat.beq e.1 n).map fun e => (.sl h.nx 0 e.2.length 1 none, h.new (.cells e.2 true false))
  | _ => none) none
theorem sumRow_ok (hS : SumsOK P S) {g : FuncId} {t : List (Nat × List AV)}
    (ht : ∀ e ∈ t, e.2.all scalarA = true ∧ RnC P S g [.int .i64 (.ofNat e.1)] { tr := .nil, nx := 0 } fun v h' => ∃ id, v = .sl id 0 e.2.length 1 none ∧ h'.get id = some (.cells e.2 true false)) : SumsOK P (sumRow g t) := by
  intro K ρ h w f args cargs u h' hR ha hs
  unfold sumRow at hs
  rw [nat_beq_dec] at hs
  by_cases hf : f = g
  · subst hf
    simp only [decide_true, cond_true] at hs
    split at hs
    · rename_i n
      rw [Option.map_eq_some_iff] at hs
      obtain ⟨e, h1, h2⟩ := hs
      cases h2
      have hm := List.mem_of_find?_eq_some h1
      have hn : e.1 = n := by have := List.find?_some h1; exact Nat.eq_of_beq_eq_true this
      subst hn
      obtain ⟨hall, hc⟩ := ht e hm
      exact sumFresh_ok (id := 0) hS hc hall (rel_empty w) (vrs_scalar (by rfl) ha) hR
    · cases hs
  · simp only [hf, decide_false, cond_false] at hs
    cases hs

/-- A function of numbers and texts, each of its answers known. -/
def sumNums (g : FuncId) (val : List AV → Option AV) : Sums := fun f args h => cond (Nat.beq f g) ((val args).map fun v => (v, h)) none
theorem sumNums_ok (hS : SumsOK P S) {g : FuncId} {val : List AV → Option AV} (hv : ∀ args v, val args = some v → args.all scalarA = true ∧ flatA v = true ∧ RnC P S g args { tr := .nil, nx := 0 } fun u _ => u = v) : SumsOK P (sumNums g val) := by
  intro K ρ h w f args cargs u h' hR ha hs
  unfold sumNums at hs
  rw [nat_beq_dec] at hs
  by_cases hf : f = g
  · subst hf
    simp only [decide_true, cond_true, Option.map_eq_some_iff] at hs
    obtain ⟨v, h1, h2⟩ := hs
    cases h2
    obtain ⟨h3, h4, h5⟩ := hv _ _ h1
    exact sumScalar_ok hS h3 h5 h4 ha hR
  · simp only [hf, decide_false, cond_false] at hs
    cases hs

end
end Go.Abs
