/- The abstract layer, part 9: append, copy, clear. -/
import Derived.Test.YticccdaomgildaaGreatDoorAbs8
namespace Go.Abs
open Go
set_option linter.unusedVariables false
set_option linter.unusedSimpArgs false

section
variable {P : Program} {ρ : Pm} {w : World} {K : Kp} {h : AH}

/-- An own block goes on under another name, from another cell on. -/
theorem Rel.move (hR : Rel K ρ h w) {id : Nat} {o o' : AO} {p q : Pl} {w' : World} (hg : h.get id = some o) (hp : ρ id = some p) (hown : o.own = true) (hown' : o'.own = true) (hq : q.b = p.b)
    (hos : w'.os = w.os) (htape : w'.tape = w.tape) (hout : w'.output = w.output) (hsize : w'.heap.size = w.heap.size)
    (hother : ∀ b, b ≠ p.b → w'.heap[b]? = w.heap[b]?) (ho : OR (ρ.put h.nx q) q o' w'.heap[p.b]?) : Rel K (ρ.put h.nx q) ((h.del id).new o') w' ∧ Ext h.nx ρ ((h.del id).new o').nx (ρ.put h.nx q) := by
  have hle : ρ.le (ρ.put h.nx q) := Pm.le_put (hR.fresh _ (Nat.le_refl _))
  obtain ⟨p', hp', _, hK, _⟩ := hR.obj id o hg
  rw [hp] at hp'; cases hp'
  obtain ⟨hKn, hKs⟩ := hK hown
  have hidx : id ≠ h.nx := fun e => by
    have := hR.fresh id (by omega)
    rw [hp] at this; cases this
  have hget : ∀ j oj, ((h.del id).new o').get j = some oj → (j = h.nx ∧ oj = o') ∨ (j ≠ h.nx ∧ j ≠ id ∧ h.get j = some oj) := by
    intro j oj hj
    rw [AH.get_new] at hj
    by_cases e : j = h.nx
    · left
      rw [if_pos (by simpa using e)] at hj
      exact ⟨e, (Option.some.inj hj).symm⟩
    · right
      rw [if_neg (by simpa using e), AH.get_del] at hj
      by_cases e2 : j = id
      · rw [if_pos e2] at hj; cases hj
      · rw [if_neg e2] at hj; exact ⟨e, e2, hj⟩
  refine ⟨⟨hos.trans hR.os, htape.trans hR.tape, hout.trans hR.output, by rw [hsize]; exact hR.size, fun b ob hb => ?_, fun j hj => ?_, fun j oj hj => ?_, ?_⟩, Ext.put (hR.fresh _ (Nat.le_refl _))⟩
  · rw [hother b (fun e => by rw [e, hKn] at hb; cases hb)]; exact hR.keep b ob hb
  · have hne : j ≠ h.nx := by simp at hj; omega
    simp only [Pm.put, if_neg hne]
    exact hR.fresh j (by simp at hj; omega)
  · rcases hget j oj hj with ⟨rfl, rfl⟩ | ⟨e1, e2, hj'⟩
    · exact ⟨q, Pm.put_self _ _ _, by rw [hq]; exact ho, fun _ => by rw [hq]; exact ⟨hKn, hKs⟩, fun hn => by rw [hown'] at hn; cases hn⟩
    · obtain ⟨r, hr, hor, h1, h2⟩ := hR.obj j oj hj'
      refine ⟨r, hle _ _ hr, ?_, h1, h2⟩
      have hne : r.b ≠ p.b := fun eb => by
        cases hoj : oj.own with
        | true => exact e2 (hR.inj j id oj o r p hj' hg hoj hown hr hp eb)
        | false => have := K.roAt _ (h2 hoj); rw [eb, hKn] at this; cases this
      rw [hother _ hne]; exact hor.mono hle
  · intro i j oi oj pi pj hi hj ho1 ho2 hpi hpj hb
    rcases hget i oi hi with ⟨rfl, rfl⟩ | ⟨e1, e2, hi'⟩ <;> rcases hget j oj hj with ⟨rfl, rfl⟩ | ⟨f1, f2, hj'⟩
    · rfl
    · exfalso
      rw [Pm.put_self] at hpi; cases hpi
      simp only [Pm.put, if_neg f1] at hpj
      rw [hq] at hb
      exact f2 (hR.inj j id oj o pj p hj' hg ho2 hown hpj hp hb.symm)
    · exfalso
      rw [Pm.put_self] at hpj; cases hpj
      simp only [Pm.put, if_neg e1] at hpi
      rw [hq] at hb
      exact e2 (hR.inj i id oi o pi p hi' hg ho1 hown hpi hp hb)
    · simp only [Pm.put, if_neg e1] at hpi
      simp only [Pm.put, if_neg f1] at hpj
      exact hR.inj i j oi oj pi pj hi' hj' ho1 ho2 hpi hpj hb

def isIntT : TypeDesc → Bool
  | .int _ => true
  | _ => false

/-- What is appended: its number, and its cells, whenever they are asked. -/
theorem appendedA_sound (hR : Rel K ρ h w) {e : TypeId} {i : TypeInfo} {z : Value} {zc : List AV} {xt : TypeId} {x : AV} {cx : Value} {n : Nat} {new : List AV} (hi : P.info? e = some i) (hz : i.zero = some z)
    (hzc : cellsA (toAV z) = some zc) (hzl : zc.length = i.size) (hx : VR ρ x cx) (ha : appendedA P h i zc xt x = some (n, new)) :
    ∃ (dx : TypeDesc) (zeros : Bool), P.underlying xt = some dx ∧ zeros = isIntT dx ∧ new.length = n * i.size ∧
      (zeros = false → (Builtin.lenOf cx).run P w = .ok n w) ∧ (zeros = true → ∃ k, cx = .int k (n : Int) ∧ n ≤ 2 ^ 40 ∧ n * i.bytes ≤ 2 ^ 40) ∧
      ∀ d, ∃ vs : Array Value, (zeros = false → (Builtin.firstCells i.size n cx).run P { w with drawn := d } = .ok vs { w with drawn := d }) ∧ (zeros = true → vs = if n * i.size = 0 then #[] else Builtin.zeroCells z.cells n) ∧ VRs ρ new vs.toList := by
  have hzr := zero_cells (ρ := ρ) hzc
  have hzn : z.cells.size = i.size := by rw [← hzl, hzr.length]; simp
  have htz : tzero P e = some z := by simp [tzero, hi, hz]
  unfold appendedA at ha
  cases hdx : P.underlying xt with
  | none => simp [hdx] at ha
  | some dx =>
    simp only [hdx, Option.bind_eq_bind, Option.bind_some] at ha
    split at ha
    · rename_i kk k m
      cases hx
      split at ha
      · rename_i hcond
        simp only [Bool.and_eq_true, decide_eq_true_eq] at hcond
        simp only [Option.some.injEq, Prod.mk.injEq] at ha
        obtain ⟨rfl, rfl⟩ := ha
        refine ⟨_, true, rfl, rfl, by rw [repCells_length, hzl], by simp, fun _ => ⟨k, rfl, hcond.1, hcond.2⟩, fun d => ?_⟩
        by_cases h0 : m * i.size = 0
        · refine ⟨#[], (fun hh => by cases hh), (fun _ => by rw [if_pos h0]), ?_⟩
          have : repCells zc m = [] := List.length_eq_zero_iff.1 (by rw [repCells_length, hzl]; exact h0)
          rw [this]; simp; exact .nil
        · exact ⟨Builtin.zeroCells z.cells m, (fun hh => by cases hh), (fun _ => by rw [if_neg h0]), hzr.rep m⟩
      · simp at ha
    · simp at ha
    · rename_i hne1 hne2
      cases hn : lenA x with
      | none => simp [hn] at ha
      | some m =>
        cases hf : firstA h i.size m x with
        | none => simp [hn, hf] at ha
        | some l =>
          simp only [hn, hf, Option.bind_some, Option.some.injEq, Prod.mk.injEq] at ha
          obtain ⟨rfl, rfl⟩ := ha
          have hzeros : isIntT dx = false := by
            cases dx with
            | int k => exact (by assumption : ∀ (k_1 : IntKind), TypeDesc.int k = TypeDesc.int k_1 → False) k rfl |>.elim
            | _ => rfl
          refine ⟨dx, false, rfl, hzeros.symm, ?_, fun _ => lenA_sound hx hn, by simp, fun d => ?_⟩
          · unfold firstA at hf
            split at hf
            · split at hf
              · rename_i h0; simp only [Option.some.injEq] at hf; subst hf; simp [h0]
              · simp at hf
            · split at hf
              · unfold cellsAt at hf
                split at hf
                · split at hf
                  · simp only [Option.some.injEq] at hf; subst hf; simp; omega
                  · simp at hf
                · simp at hf
              · simp at hf
            · split at hf
              · rename_i s hsz
                simp only [Option.some.injEq] at hf
                simp only [lenA, Option.some.injEq] at hn
                subst hf; subst hn; simp [hsz]
              · simp at hf
            · simp at hf
          · obtain ⟨vs, hvs, hr⟩ := firstA_sound (P := P) (hR.drawn d) hx hf
            exact ⟨vs, (fun _ => hvs), (fun hh => by cases hh), hr⟩

end
end Go.Abs
