/- The abstract layer, part 23: every drawing region, and what the evaluator says of a program. -/
import Derived.Test.YticccdaomgildaaGreatDoorAbs22
namespace Go.Abs
open Go
set_option linter.unusedVariables false
set_option linter.unusedSimpArgs false

section
variable {P : Program} {R : Rec} {n : Nat} {ops : Array Oper} {base : Nat} {prs : List (Nat × Nat)} {M : Nat → Nat → Bool} {K : Kp} {ρ0 : Pm} {ds0 : List Deferred}

/-- Between two places of the text there is no call, or there is a first one. -/
theorem first_eff (P : Program) (ops : Array Oper) (p : Nat) : ∀ i, p ≤ i → (∀ e o, p ≤ e → e < i → ops[e]? = some o → clsOf P o.op ≠ 3) ∨
    ∃ e o, p ≤ e ∧ e < i ∧ ops[e]? = some o ∧ clsOf P o.op = 3 ∧ ∀ e' o', p ≤ e' → e' < e → ops[e']? = some o' → clsOf P o'.op ≠ 3
  | 0, h => .inl fun e o h1 h2 => by omega
  | i + 1, h => by
    by_cases hpi : p ≤ i
    · rcases first_eff P ops p i hpi with h1 | ⟨e, o, h1, h2, h3⟩
      · by_cases hx : ∃ o, ops[i]? = some o ∧ clsOf P o.op = 3
        · obtain ⟨o, ho, hc⟩ := hx
          exact .inr ⟨i, o, hpi, by omega, ho, hc, h1⟩
        · refine .inl fun e o h2 h3 h4 h5 => ?_
          by_cases e' : e = i
          · subst e'; exact hx ⟨o, h4, h5⟩
          · exact h1 e o h2 (by omega) h4 h5
      · exact .inr ⟨e, o, h1, by omega, h3⟩
    · exact .inl fun e o h1 h2 => by omega

theorem low_ev {ss : List DS} (hS : Stat P ops prs M) (hst : Steps P R n ops base (dsAt ss)) (hsame : sameAll P R n ops ss prs = true) {X : Nat → Bool} {i p : Nat} {o : Oper} {ρ : Pm} {a : Act} {w : World}
    (hI : Inv P n ops base (dsAt ss) M K ρ0 ds0 X p ρ a w) (hU : Up ops M X i o) (hc : clsOf P o.op ≤ 1) :
    ∃ t2, evOp1 P R n ops o (restr (dsAt ss i).t (o.looksAt ops) .nil) (dsAt ss p).h = some (t2, (dsAt ss p).h) ∧ ∀ d, o.dst = some d → t2.get d = (dsAt ss (i + 1)).t.get d := by
  have hi : i < ops.size := (Array.getElem?_eq_some_iff.1 hU.op).1
  obtain ⟨t', h1, h2, _, _⟩ := drawStep_low hc (hst i o hU.op)
  have hown : ∀ d, o.dst = some d → t'.get d = (dsAt ss (i + 1)).t.get d := fun d hd => by rw [h2]; exact (backA_get.2 d hd).symm
  by_cases hc0 : clsOf P o.op = 0
  · exact ⟨t', evOp1_loc _ hc0 h1, hown⟩
  have hc1 : clsOf P o.op = 1 := by omega
  have viaSame : ∀ h, sameAt P R n ops i (dsAt ss i).t (dsAt ss (i + 1)).t h = true → ∃ t2, evOp1 P R n ops o (restr (dsAt ss i).t (o.looksAt ops) .nil) h = some (t2, h) ∧ ∀ d, o.dst = some d → t2.get d = (dsAt ss (i + 1)).t.get d := fun h hs => by
    obtain ⟨t2, h2, q1, q2⟩ := sameAt_spec hU.op hs
    have := evOp1_read hc q1
    subst this
    refine ⟨t2, q1, fun d hd => ?_⟩
    obtain ⟨v, r1, r2⟩ := q2 d hd
    rw [r1, r2]
  rcases Nat.lt_or_ge i p with hip | hip
  · -- a call behind it in the text is done
    rcases hI.past with h0 | ⟨q, oq, h0, hq, hcq⟩
    · omega
    · subst h0
      have hne : q ≠ i := fun e => by subst e; rw [hU.op] at hq; cases hq; omega
      have hXq := (hI.eff q oq hq hcq).2 (by omega)
      have hM := hU.post q (Array.getElem?_eq_some_iff.1 hq).1 hXq
      have hpr := hS.pair i q o oq (by omega) hU.op hq hM (.inr ⟨hcq, hc1⟩)
      exact viaSame _ ((sameAll_spec prs hsame i q oq hpr hq).2 (by omega))
  · rcases first_eff P ops p i hip with hno | ⟨e, oe, e1, e2, e3, e4, e5⟩
    · rw [heap_same hst i hip (by omega) hno] at h1
      exact ⟨t', h1, hown⟩
    · have hXe : X e = false := by
        cases hX : X e with
        | false => rfl
        | true => have := (hI.eff e oe e3 e4).1 hX; omega
      have hM : M i e = false := by
        cases hm : M i e with
        | false => rfl
        | true => rw [hU.pre e hm] at hXe; cases hXe
      have hpr := hS.pair e i oe o e2 e3 hU.op hM (.inl ⟨hc1, e4⟩)
      have := (sameAll_spec prs hsame e i o hpr hU.op).1 hc1
      rw [heap_same hst e e1 (by omega) e5] at this
      exact viaSame _ this

theorem draw_any {ss : List DS} (hS : Stat P ops prs M) (hst : Steps P R n ops base (dsAt ss)) (hsame : sameAll P R n ops ss prs = true) {k : Nat} (hRec : RecOK P k R) {cr : Option Nat} {Q : Exit → Act → World → Prop}
    (hQ : ∀ ρ' a' w', Ext base ρ0 (absorb (dsAt ss ops.size).pend (dsAt ss ops.size).h).nx ρ' → Rel K ρ' (absorb (dsAt ss ops.size).pend (dsAt ss ops.size).h) w' → ER ρ' (dsAt ss ops.size).t n a'.tmps → a'.defers = ds0 → Q .normal a' w') :
    ∀ (fuel : Nat) (listed : Array Bool) (rem : List Nat) (p : Nat) (ρ : Pm) (a : Act) (w : World), listed.size = ops.size → (∀ j, j < ops.size → listed.getD j false = false → j ∈ rem) → rem.length ≤ fuel →
      Inv P n ops base (dsAt ss) M K ρ0 ds0 (fun j => listed.getD j false) p ρ a w → wpAnyIn (Wd cr) 0 P .any ops Q fuel listed a w := by
  have hdone : ∀ (listed : Array Bool) (p : Nat) (ρ : Pm) (a : Act) (w : World), Inv P n ops base (dsAt ss) M K ρ0 ds0 (fun j => listed.getD j false) p ρ a w → (∀ j, j < ops.size → listed.getD j false = true) → Q .normal a w := fun listed p ρ a w hI hX => by
    obtain ⟨ρ', h1, h2, h3⟩ := hI.done hst hX
    exact hQ ρ' a w h1 h2 h3 hI.defers
  have hgetD : ∀ (listed : Array Bool) j, listed.size = ops.size → j < ops.size → listed.getD j true = listed.getD j false := fun listed j hs hj => by
    simp [Array.getD, hs, hj]
  have hready : ∀ (listed : Array Bool), listed.size = ops.size → Region.ready .any ops listed = [] → ∀ j, j < ops.size → listed.getD j false = true := fun listed hs hr j => by
    induction j using Nat.strongRecOn with
    | _ j ih =>
      intro hj
      cases hx : listed.getD j false with
      | true => rfl
      | false =>
        have ho : ops[j]? = some ops[j] := by simp
        have : j ∈ Region.ready .any ops listed := mem_ready.2 ⟨by rw [hgetD listed j hs hj]; exact hx, _, ho, fun e he hb => by
          have hlt := hS.back j _ ho e he hb
          exact ih e.on hlt (by omega)⟩
        rw [hr] at this; cases this
  intro fuel
  induction fuel with
  | zero =>
    intro listed rem p ρ a w hs hrem hlen hI
    have hall : ∀ j, j < ops.size → listed.getD j false = true := fun j hj => by
      cases hx : listed.getD j false with
      | true => rfl
      | false =>
        have := hrem j hj hx
        have : rem = [] := List.length_eq_zero_iff.1 (by omega)
        simp_all
    refine ⟨?_, hdone listed p ρ a w hI hall⟩
    cases hr : Region.ready .any ops listed with
    | nil => rfl
    | cons i l =>
      have hm : i ∈ Region.ready .any ops listed := by rw [hr]; exact List.mem_cons_self ..
      obtain ⟨h1, o, ho, _⟩ := mem_ready.1 hm
      have hi := (Array.getElem?_eq_some_iff.1 ho).1
      rw [hgetD listed i hs hi, hall i hi] at h1; cases h1
  | succ fuel ih =>
    intro listed rem p ρ a w hs hrem hlen hI
    refine ⟨fun hr => hdone listed p ρ a w hI (hready listed hs hr), fun i hm => ?_⟩
    obtain ⟨h1, o, ho, hpre⟩ := mem_ready.1 hm
    have hi := (Array.getElem?_eq_some_iff.1 ho).1
    rw [hgetD listed i hs hi] at h1
    have hU : Up ops M (fun j => listed.getD j false) i o := ⟨ho, h1, fun b hb => by
      obtain ⟨e, he, hbi, hor⟩ := hS.why i o b ho hb
      have hX := hpre e he hbi
      rcases hor with rfl | hor
      · exact hX
      · exact hI.closed e.on b (by have := hS.back i o ho e he hbi; omega) hX hor, fun j hj hX => by
      cases hM : M j i with
      | false => rfl
      | true => have hc : listed.getD i false = true := hI.closed j i hj hX hM; rw [h1] at hc; cases hc⟩
    have hset : (fun j => (listed.setIfInBounds i true).getD j false) = addX (fun j => listed.getD j false) i := by
      funext j
      by_cases e : j = i
      · subst e
        rw [addX_self]
        simp [Array.getD, hs, hi]
      · rw [addX_ne e]
        exact getD_set_ne false (Ne.symm e)
    have hnext : ∀ p' ρ' a' w', Inv P n ops base (dsAt ss) M K ρ0 ds0 (addX (fun j => listed.getD j false) i) p' ρ' a' w' → wpAnyIn (Wd cr) 0 P .any ops Q fuel (listed.setIfInBounds i true) a' w' := fun p' ρ' a' w' hI' => by
      refine ih (listed.setIfInBounds i true) (rem.erase i) p' ρ' a' w' (by simpa using hs) (fun j hj hx => ?_) ?_ (by rw [hset]; exact hI')
      · have hne : j ≠ i := fun e => by
          subst e
          have hc : (listed.setIfInBounds j true).getD j false = _ := congrFun hset j
          rw [addX_self] at hc
          rw [hc] at hx; cases hx
        have hc : (listed.setIfInBounds i true).getD j false = _ := congrFun hset j
        rw [addX_ne hne] at hc
        rw [hc] at hx
        exact (List.mem_erase_of_ne hne).2 (hrem j hj hx)
      · have := List.length_erase_of_mem (hrem i hi h1)
        omega
    rcases cls_cases P o.op with hc | hc | hc
    · exact step_low hS hst hRec hI hU hc (low_ev hS hst hsame hI hU hc) (hnext p)
    · exact step_al hS hst hI hU hc (hnext p)
    · exact step_eff hS hst hRec hI hU hc (hnext (i + 1))

theorem drawOK {k : Nat} (hRec : RecOK P k R) : DrawOK P R := by
  intro K ρ w a cr n ops t t' h h' l T Q hR he hb hQ
  unfold evDraw at hb
  split at hb
  · rename_i hmix
    cases hstat : statGo P ops ops.toList 0 [] [] [] with
    | none => simp [hstat] at hb
    | some prs =>
      simp only [hstat] at hb
      cases hgo : drawGo P R n ops h.nx ops.toList 0 { t, h := { h with nx := h.nx + ops.size }, pend := [] } with
      | none => simp [hgo] at hb
      | some ss =>
        simp only [hgo] at hb
        split at hb
        · rename_i hsame
          obtain ⟨M, hS⟩ := stat_spec hstat
          obtain ⟨g1, g2, g3⟩ := drawGo_spec _ _ _ _ hgo
          have hst : Steps P R n ops h.nx (dsAt ss) := fun k o hk => by
            obtain ⟨s1, s2, q1, q2, q3⟩ := g3 k o (by simpa using hk)
            simp only [dsAt, q1, q2, Option.getD_some]
            simpa using q3
          have h0 : dsAt ss 0 = { t, h := { h with nx := h.nx + ops.size }, pend := [] } := by simp [dsAt, g2]
          split at hb
          · rename_i s hs
            simp only [Option.some.injEq, Prod.mk.injEq] at hb
            obtain ⟨rfl, rfl⟩ := hb
            have hend : dsAt ss ops.size = s := by simp [dsAt, hs]
            simp only [Region.schedule, hmix, Bool.true_or, if_true]
            refine wpAnyIn_sound ops.size T _ a w ?_
            refine draw_any (base := h.nx) (K := K) (ρ0 := ρ) (ds0 := a.defers) (M := M) hS hst hsame hRec (fun ρ' a' w' hE hR' he' hd => ?_) ops.size (Array.replicate ops.size false) (List.range ops.size) 0 ρ a w (by simp) (fun j hj _ => by simpa using hj) (by simp) ?_
            · rw [hend] at hE hR' he'
              exact hQ ρ' a' w' hE hR' he' hd
            · have hX : ∀ j, (Array.replicate ops.size false).getD j false = false := fun j => by
                simp only [Array.getD]
                split <;> simp
              refine ⟨by omega, fun j b _ hx => ?_, fun e o _ _ => ?_, by rw [h0], .inl rfl, he.1, fun x v hx => ?_, ?_, fun j hj _ => ?_, by rw [h0]; exact Nat.le_refl _, ?_, rfl⟩
              · rw [hX j] at hx; cases hx
              · simp only [hX e]; simp
              · have : envAt ops (dsAt ss) (fun j => (Array.replicate ops.size false).getD j false) x ops.size = envAt ops (dsAt ss) (fun j => (Array.replicate ops.size false).getD j false) x 0 :=
                  envAt_stop ops.size (by omega) fun j _ _ _ => hX j
                rw [this] at hx
                simp only [envAt, h0] at hx
                exact he.2 x v hx
              · rw [h0]
                have hR' : Rel K ρ { tr := h.tr, nx := h.nx + ops.size } w := hR.forget (h' := { tr := h.tr, nx := h.nx + ops.size }) (fun _ _ hg => hg) (by simp)
                refine Framed.of_rel hR' fun id ob hh => ?_
                obtain ⟨j, hx, _⟩ := hh
                rw [hX j] at hx; cases hx
              · exact hR.fresh _ (by omega)
              · rw [h0]
                exact ⟨Pm.le_refl ρ, by simp, fun _ _ => rfl⟩
          · simp at hb
        · simp at hb
  · simp at hb

/-- The evaluator is right. -/
theorem evN_sound {S : Sums} (hS : SumsOK P S) (k : Nat) : RecOK P k (evN P S k) := evN_ok hS (fun k R h => drawOK h) k

end
end Go.Abs
