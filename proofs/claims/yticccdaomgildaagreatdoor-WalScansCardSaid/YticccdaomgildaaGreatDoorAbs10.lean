/- The abstract layer, part 10: append, copy, clear. -/
import Derived.Test.YticccdaomgildaaGreatDoorAbs9
import Derived.Deep.DeepAppendWide
namespace Go.Abs
open Go
set_option linter.unusedVariables false
set_option linter.unusedSimpArgs false

section
variable {P : Program} {ρ : Pm} {w : World} {K : Kp} {h : AH}

/-- Less is known. -/
theorem Rel.weaken (hR : Rel K ρ h w) {h' : AH} (hsub : ∀ id o', h'.get id = some o' → ∃ o, h.get id = some o ∧ o'.own = o.own ∧ ∀ p x, OR ρ p o x → OR ρ p o' x) (hnx : h.nx ≤ h'.nx) : Rel K ρ h' w := by
  refine ⟨hR.os, hR.tape, hR.output, hR.size, hR.keep, fun id hid => hR.fresh id (by omega), fun id o' hg => ?_, fun i j oi oj pi pj hi hj w1 w2 hpi hpj hb => ?_⟩
  · obtain ⟨o, ho, hown, himp⟩ := hsub id o' hg
    obtain ⟨p, hp, hor, h1, h2⟩ := hR.obj id o ho
    exact ⟨p, hp, himp p _ hor, by rw [hown]; exact h1, by rw [hown]; exact h2⟩
  · obtain ⟨o1, g1, e1, _⟩ := hsub i oi hi
    obtain ⟨o2, g2, e2, _⟩ := hsub j oj hj
    exact hR.inj i j o1 o2 pi pj g1 g2 (e1 ▸ w1) (e2 ▸ w2) hpi hpj hb

theorem fits48 {need old bytes : Nat} (hlt : old < need) (hb : (2 * need + 1000) * bytes ≤ 2 ^ 40) : ¬ Builtin.nextslicecap need old * bytes > 2 ^ 48 := by
  have h1 : (need + need / 4 + 192) * bytes ≤ (2 * need + 1000) * bytes := Nat.mul_le_mul_right _ (by omega)
  have := growslice_fits_wide (need := need) (old := old) (bytes := bytes) hlt (by omega)
  omega

/-- Append within the capacity. -/
theorem append_fits {argTypes : Array TypeId} {st xt e ty : TypeId} {i : TypeInfo} {dx : TypeDesc} {base : Option Addr} {sLen sCap n : Nat} {cx z : Value} {zeros : Bool} {vnew : Array Value} {w' : World}
    (h0 : argTypes[0]? = some st) (h1 : argTypes[1]? = some xt) (hd : P.underlying st = some (.slice e)) (hi : P.info? e = some i) (hz0 : i.zero = some z) (hdx : P.underlying xt = some dx) (hz : zeros = isIntT dx)
    (hn0 : zeros = false → (Builtin.lenOf cx).run P w = .ok n w) (hn1 : zeros = true → ∃ k, cx = .int k (n : Int) ∧ n ≤ 2 ^ 40 ∧ n * i.bytes ≤ 2 ^ 40)
    (hA0 : zeros = false → (Builtin.firstCells i.size n cx).run P w = .ok vnew w) (hA1 : zeros = true → vnew = if n * i.size = 0 then #[] else Builtin.zeroCells z.cells n)
    (hfit : sLen + n ≤ sCap) (hst : ∀ a, base = some a → (storeCells (a.add (sLen * i.size)) vnew.toList).run P w = .ok () w') (hnil : base = none → w' = w) :
    (Builtin.append_ argTypes ty #[.slice base sLen sCap, cx]).run P w = .ok (.slice base (sLen + n) sCap) w' := by
  have hts : tsize P e = some i.size := by simp [tsize, hi]
  have htz : tzero P e = some z := by simp [tzero, hi, hz0]
  unfold Builtin.append_
  cases zeros with
  | false =>
    have hn := hn0 rfl
    have hA := hA0 rfl
    cases dx <;> (first | (simp [isIntT] at hz; done) | skip) <;>
      simp only [h0, h1, List.getElem?_toArray, List.getElem?_cons_zero, List.getElem?_cons_succ, Sem.run_bind, run_underlying' hd, Result.andThen_ok, run_sizeOf' hts, run_underlying' hdx, Sem.run_pure, Bool.false_eq_true, if_false, hn, Bool.not_false, if_true, Sem.run_ite, if_pos hfit, hA] <;>
      (cases base with
        | none => rw [hnil rfl]; rfl
        | some a => simp only [Sem.run_bind, hst a rfl, Result.andThen_ok, Sem.run_pure])
  | true =>
    obtain ⟨k, rfl, hb1, hb2⟩ := hn1 rfl
    have hA := hA1 rfl
    have hw : IntKind.i64.wrap (n : Int) = (n : Int) := by
      simp only [IntKind.wrap, IntKind.bits, IntKind.signed]
      have : ((n : Int) % 2 ^ 64) = n := Int.emod_eq_of_lt (by omega) (by omega)
      simp [this]; omega
    have hbI : ((n : Int) * (i.bytes : Int)) ≤ 2 ^ 40 := by
      have : ((n * i.bytes : Nat) : Int) ≤ ((2 ^ 40 : Nat) : Int) := by exact_mod_cast hb2
      simpa using this
    have c1 : ¬ ((n : Int) < 0) := by omega
    have c2 : ¬ ((n : Int) * (i.bytes : Int) > 2 ^ 48) := by omega
    cases dx <;> (first | (simp [isIntT] at hz; done) | skip)
    simp only [h0, h1, List.getElem?_toArray, List.getElem?_cons_zero, List.getElem?_cons_succ, Sem.run_bind, run_underlying' hd, Result.andThen_ok, run_sizeOf' hts, run_underlying' hdx, Sem.run_pure, if_true, asInt, asIntOf, hw, Sem.run_ite, if_neg c1, run_typeInfo' hi, if_neg c2, Int.toNat_natCast, Bool.not_true, Bool.false_eq_true, if_false, if_pos hfit]
    by_cases hzz : n * i.size = 0
    · rw [if_pos hzz] at hA ⊢
      subst hA
      simp only [Sem.run_pure, Result.andThen_ok]
      cases base with
      | none => rw [hnil rfl]; rfl
      | some a => simp only [Sem.run_bind, hst a rfl, Result.andThen_ok, Sem.run_pure]
    · rw [if_neg hzz] at hA ⊢
      subst hA
      simp only [Sem.run_bind, run_zeroValue' htz, Sem.run_pure, Result.andThen_ok]
      cases base with
      | none => rw [hnil rfl]; rfl
      | some a => simp only [Sem.run_bind, hst a rfl, Result.andThen_ok, Sem.run_pure]
/-- Append beyond the capacity. -/
theorem append_grows {argTypes : Array TypeId} {st xt e ty : TypeId} {i : TypeInfo} {dx : TypeDesc} {base : Option Addr} {sLen sCap n newCap : Nat} {cx z : Value} {zeros : Bool} {vold vnew : Array Value} {w1 : World}
    (h0 : argTypes[0]? = some st) (h1 : argTypes[1]? = some xt) (hd : P.underlying st = some (.slice e)) (hi : P.info? e = some i) (hz0 : i.zero = some z) (hdx : P.underlying xt = some dx) (hz : zeros = isIntT dx)
    (hn0 : zeros = false → (Builtin.lenOf cx).run P w = .ok n w) (hn1 : zeros = true → ∃ k, cx = .int k (n : Int) ∧ n ≤ 2 ^ 40 ∧ n * i.bytes ≤ 2 ^ 40)
    (hw1 : w1 = { w with drawn := w.drawn + 1 }) (hcap : newCap = (Question.appendCap (sLen + n) sCap e).cut (w.tape w.drawn (Question.appendCap (sLen + n) sCap e)))
    (hA0 : zeros = false → (Builtin.firstCells i.size n cx).run P w1 = .ok vnew w1) (hA1 : zeros = true → vnew = if n * i.size = 0 then #[] else Builtin.zeroCells z.cells n)
    (hO : (Builtin.firstCells i.size sLen (.slice base sLen sCap)).run P w1 = .ok vold w1)
    (c0 : ¬ sLen + n ≤ sCap) (c1 : ∀ b : Prop, ¬ (((sLen + n : Nat) : Int) > IntKind.i64.max ∧ b)) (c2 : ¬ Builtin.nextslicecap (sLen + n) sCap * i.bytes > 2 ^ 48) :
    (Builtin.append_ argTypes ty #[.slice base sLen sCap, cx]).run P w = .ok (.slice (some ⟨w.heap.size, 0, none⟩) (sLen + n) newCap) { w1 with heap := w1.heap.push (.cells (vold ++ vnew ++ Builtin.zeroCells z.cells (newCap - (sLen + n))) e (0, 0)) } := by
  have hts : tsize P e = some i.size := by simp [tsize, hi]
  have htz : tzero P e = some z := by simp [tzero, hi, hz0]
  have hforced : (Question.appendCap (sLen + n) sCap e).forced = false := rfl
  subst hw1; subst hcap
  unfold Builtin.append_
  cases zeros with
  | false =>
    have hn := hn0 rfl
    have hA := hA0 rfl
    cases dx <;> (first | (simp [isIntT] at hz; done) | skip) <;>
      simp only [h0, h1, List.getElem?_toArray, List.getElem?_cons_zero, List.getElem?_cons_succ, Sem.run_bind, run_underlying' hd, Result.andThen_ok, run_sizeOf' hts, run_underlying' hdx, Sem.run_pure, Bool.false_eq_true, if_false, hn, Bool.not_false, if_true, Sem.run_ite, if_neg c0, run_typeInfo' hi, if_neg (c1 _), if_neg c2, run_choose, hforced, run_askRoom, hO, hA, run_zeroValue' htz, newRow, run_newObj] <;> rfl
  | true =>
    obtain ⟨k, rfl, hb1, hb2⟩ := hn1 rfl
    have hA := hA1 rfl
    have hw : IntKind.i64.wrap (n : Int) = (n : Int) := by
      simp only [IntKind.wrap, IntKind.bits, IntKind.signed]
      have : ((n : Int) % 2 ^ 64) = n := Int.emod_eq_of_lt (by omega) (by omega)
      simp [this]; omega
    have hbI : ((n : Int) * (i.bytes : Int)) ≤ 2 ^ 40 := by
      have : ((n * i.bytes : Nat) : Int) ≤ ((2 ^ 40 : Nat) : Int) := by exact_mod_cast hb2
      simpa using this
    have d1 : ¬ ((n : Int) < 0) := by omega
    have d2 : ¬ ((n : Int) * (i.bytes : Int) > 2 ^ 48) := by omega
    cases dx <;> (first | (simp [isIntT] at hz; done) | skip)
    simp only [h0, h1, List.getElem?_toArray, List.getElem?_cons_zero, List.getElem?_cons_succ, Sem.run_bind, run_underlying' hd, Result.andThen_ok, run_sizeOf' hts, run_underlying' hdx, Sem.run_pure, if_true, asInt, asIntOf, hw, Sem.run_ite, if_neg d1, run_typeInfo' hi, if_neg d2, Int.toNat_natCast, Bool.not_true, Bool.false_eq_true, if_false, if_neg c0, if_neg (c1 _), if_neg c2, run_choose, hforced, run_askRoom, hO]
    by_cases hzz : n * i.size = 0
    · rw [if_pos hzz] at hA ⊢
      subst hA
      simp only [Sem.run_pure, Result.andThen_ok, Sem.run_bind, run_zeroValue' htz, newRow, run_newObj]
    · rw [if_neg hzz] at hA ⊢
      subst hA
      simp only [Sem.run_bind, run_zeroValue' htz, Sem.run_pure, Result.andThen_ok, newRow, run_newObj]

theorem evAppend_sound (hR : Rel K ρ h w) {argTypes : Array TypeId} {ty : TypeId} {s x : AV} {cs cx : Value} {r : ORes} (hs : VR ρ s cs) (hx : VR ρ x cx) (hb : evAppend P h argTypes s x = some r) :
    ∃ a h' ρ' cv w', r = .val a h' ∧ (Builtin.append_ argTypes ty #[cs, cx]).run P w = .ok cv w' ∧ Ext h.nx ρ h'.nx ρ' ∧ VR ρ' a cv ∧ Rel K ρ' h' w' := by
  unfold evAppend at hb
  cases h0 : argTypes[0]? with
  | none => simp [h0] at hb
  | some st =>
  cases h1 : argTypes[1]? with
  | none => simp [h0, h1] at hb
  | some xt =>
  simp only [h0, h1, Option.bind_eq_bind, Option.bind_some] at hb
  split at hb
  · rename_i e hd
    cases hi : P.info? e with
    | none => simp [hi] at hb
    | some i =>
    cases hz : i.zero with
    | none => simp [hi, hz] at hb
    | some z =>
    cases hzc : cellsA (toAV z) with
    | none => simp [hi, hz, hzc] at hb
    | some zc =>
    simp only [hi, hz, hzc, Option.bind_some] at hb
    split at hb
    · simp at hb
    · rename_i hcond
      simp only [Bool.or_eq_true, bne_iff_ne, ne_eq, decide_eq_true_eq, not_or, Decidable.not_not] at hcond
      obtain ⟨hzl, hsz0⟩ := hcond
      cases hap : appendedA P h i zc xt x with
      | none => simp [hap] at hb
      | some nn =>
      obtain ⟨n, new⟩ := nn
      cases hlen : lenA s with
      | none => simp [hap, hlen] at hb
      | some len =>
      cases hold : firstA h i.size len s with
      | none => simp [hap, hlen, hold] at hb
      | some old =>
      simp only [hap, hlen, hold, Option.bind_some] at hb
      obtain ⟨dx, zeros, hdx, hzeros, hnl, hn0, hn1, hvals⟩ := appendedA_sound hR hi hz hzc hzl hx hap
      have hts : tsize P e = some i.size := by simp [tsize, hi]
      have htz : tzero P e = some z := by simp [tzero, hi, hz]
      have hzr := zero_cells (ρ := ρ) hzc
      have hzn : z.cells.size = i.size := by rw [← hzl, hzr.length]; simp
      -- growing: a new block
      have grow : ∀ (base : Option Addr) (sCap : Nat), VR ρ s (.slice base len sCap) → sCap < len + n → (2 * (len + n) + 1000) * i.bytes ≤ 2 ^ 40 → len + n ≤ 2 ^ 40 →
          ∃ ρ' cv w', (Builtin.append_ argTypes ty #[.slice base len sCap, cx]).run P w = .ok cv w' ∧ Ext h.nx ρ (h.nx + 1) ρ' ∧ VR ρ' (.sl h.nx 0 (len + n) i.size none) cv ∧ Rel K ρ' (h.new (.cells (old ++ new) true false)) w' := by
        intro base sCap hs' hlt hbytes hneed
        have hR1 : Rel K ρ h { w with drawn := w.drawn + 1 } := hR.drawn _
        obtain ⟨vold, ho1, ho2⟩ := firstA_sound (P := P) hR1 hs' hold
        obtain ⟨vnew, hv1, hv1', hv2⟩ := hvals (w.drawn + 1)
        let q := Question.appendCap (len + n) sCap e
        let newCap := q.cut (w.tape w.drawn q)
        have hcap : len + n ≤ newCap := by simp only [newCap, q, Question.cut]; omega
        let cells : Array Value := vold ++ vnew ++ Builtin.zeroCells z.cells (newCap - (len + n))
        have hl1 : vold.size = len * i.size := by
          have := ho2.length
          have h3 : old.length = len * i.size := by
            unfold firstA at hold
            split at hold
            · split at hold
              · rename_i h4; simp only [Option.some.injEq] at hold; subst hold; simp [h4]
              · simp at hold
            · split at hold
              · unfold cellsAt at hold
                split at hold
                · split at hold
                  · simp only [Option.some.injEq] at hold; subst hold; simp; omega
                  · simp at hold
                · simp at hold
              · simp at hold
            · cases hs'
            · simp at hold
          simpa [h3] using this.symm
        have hl2 : vnew.size = n * i.size := by have := hv2.length; rw [hnl] at this; simpa using this.symm
        have hcsz : cells.size = newCap * i.size := by
          simp only [cells, Array.size_append, hl1, hl2, Builtin.zeroCells, Array.size_map, Array.size_range, hzn]
          have : len * i.size + n * i.size + (newCap - (len + n)) * i.size = (len + n + (newCap - (len + n))) * i.size := by rw [Nat.add_mul, Nat.add_mul]
          rw [this]; congr 1; omega
        have hcells : ∀ (j : Nat) (a : AV), (old ++ new)[j]? = some a → ∃ v, cells[j]? = some v ∧ VR ρ a v := by
          intro j a hj
          have := (ho2.append hv2).get hj
          obtain ⟨v, hv, hr⟩ := this
          refine ⟨v, ?_, hr⟩
          have hjl : j < (vold ++ vnew).size := by
            have := (List.getElem?_eq_some_iff.1 hv).1
            simpa using this
          simp only [cells]
          rw [Array.getElem?_append_left hjl, ← Array.getElem?_toList, Array.toList_append]
          exact hv
        obtain ⟨ρ', hle, hvr, hrel⟩ := newSlice (e := e) (len := len + n) (cap := newCap) (sz := i.size) (c := none) (text := false) hR1 hcells
          (by rw [(ho2.append hv2).length, hcsz]; simp [hl1, hl2]; rw [← Nat.add_mul]; exact Nat.mul_le_mul_right _ hcap)
          (fun _ => by rw [hcsz]; exact Nat.mul_pos (by omega) (by omega)) hcap (by rw [hcsz]; exact Nat.le_refl _) (fun n hn => by cases hn)
        refine ⟨ρ', _, _, ?_, hle, hvr, hrel⟩
        have c0 : ¬ (len + n ≤ sCap) := by omega
        have c1 : ∀ b : Prop, ¬ (((len + n : Nat) : Int) > IntKind.i64.max ∧ b) := by
          intro b hh
          have : IntKind.i64.max = 9223372036854775807 := by decide
          omega
        exact append_grows h0 h1 hd hi hz hdx hzeros hn0 hn1 rfl rfl hv1 hv1' ho1 c0 c1 (fits48 hlt hbytes)
      -- within the capacity
      have inPlace : ∀ (id off : Nat) (c : Option Nat) (base : Addr) (sCap : Nat), s = .sl id off len i.size c → VR ρ s (.slice (some base) len sCap) → ownBlock h id = true → 0 < n → len + n ≤ sCap → new.all oneA = true →
          ∃ ρ' cv w', (Builtin.append_ argTypes ty #[.slice (some base) len sCap, cx]).run P w = .ok cv w' ∧ Ext h.nx ρ (h.nx + 1) ρ' ∧ VR ρ' (.sl h.nx 0 (len + n) i.size none) cv ∧ Rel K ρ' ((h.del id).new (.cells (old ++ new) true (textBlock h id || !(Nat.beq off 0)))) w' := by
        intro id off c base sCap hse hs' hown hn hfit hone
        subst hse
        cases hs' with
        | sl hp hlc ha hxx hc =>
        rename_i p
        rcases ha with h00 | rfl
        · omega
        rcases hxx with h00 | hxx
        · omega
        obtain ⟨vnew, hv1, hv1', hv2⟩ := hvals w.drawn
        obtain ⟨vold, ho1, ho2⟩ := firstA_sound (P := P) hR (.sl hp hlc (.inr rfl) (.inr hxx) hc) hold
        unfold ownBlock at hown
        split at hown
        · rename_i cs text hg
          have htext : textBlock h id = text := by simp [textBlock, hg]
          obtain ⟨p', cc, ee, fr, hp', hb', hsz, hlim, hget, hfr, htx, _⟩ := hR.cells hg
          rw [hp] at hp'; cases hp'
          simp only [if_true] at hsz
          have holdc : old = (cs.drop off).take (len * i.size) ∧ off + len * i.size ≤ cs.length := by
            unfold firstA at hold
            simp only at hold
            split at hold
            · unfold cellsAt at hold
              rw [hg] at hold
              simp only at hold
              split at hold
              · rename_i hle; simp only [Option.some.injEq] at hold; exact ⟨hold.symm, hle⟩
              · simp at hold
            · simp at hold
          have hl2 : vnew.size = n * i.size := by have := hv2.length; rw [hnl] at this; simpa using this.symm
          have hmul : (len + n) * i.size ≤ sCap * i.size := Nat.mul_le_mul_right _ hfit
          rw [Nat.add_mul] at hmul
          have hone' : ∀ u ∈ vnew.toList, u.oneCell' = true := fun u hu => by
            obtain ⟨j, hj, rfl⟩ := List.getElem_of_mem hu
            have hjl : j < new.length := by rw [hv2.length]; exact hj
            obtain ⟨u', hu', rr⟩ := hv2.get (List.getElem?_eq_getElem hjl)
            rw [List.getElem?_eq_getElem hj] at hu'
            cases hu'
            exact oneA_sound rr (by simp only [List.all_eq_true] at hone; exact hone _ (List.getElem_mem hjl))
          obtain ⟨w', c', hrun, hb2, hs2, hget2, q1, q2, q3, q4, q5⟩ := run_storeCells' (P := P) vnew.toList (p.o + off + len * i.size) 0 w cc ee fr hb' (by simp; omega) hone' (hfr rfl).not
          have hor : OR (ρ.put h.nx ⟨p.b, p.o + off, p.lim⟩) ⟨p.b, p.o + off, p.lim⟩ (.cells (old ++ new) true (text || !(Nat.beq off 0))) w'.heap[p.b]? := by
            have hle' : ρ.le (ρ.put h.nx ⟨p.b, p.o + off, p.lim⟩) := Pm.le_put (hR.fresh _ (Nat.le_refl _))
            have holdl : old.length = len * i.size := by rw [holdc.1]; simp; omega
            refine ⟨c', ee, fr, hb2, by simp [hs2, hsz], by simp only [List.length_append, holdl, hnl]; omega, fun j a hj => ?_, fun _ => by rw [hs2]; exact hfr rfl, fun _ ht => by
              simp only [Bool.or_eq_false_iff, Bool.not_eq_false', nbeq, decide_eq_true_eq] at ht
              rw [hs2]; obtain ⟨t1, t2, t3⟩ := htx rfl ht.1; exact ⟨t1, t2, by simp only; omega⟩⟩
            rw [hget2]
            by_cases hjo : j < old.length
            · rw [List.getElem?_append_left hjo] at hj
              rw [if_neg (by simp only; omega)]
              rw [holdc.1, List.getElem?_take] at hj
              rw [if_pos (by omega), List.getElem?_drop] at hj
              obtain ⟨v, hv, rr⟩ := hget _ _ hj
              exact ⟨v, by simp only; rw [Nat.add_assoc]; exact hv, rr.mono hle'⟩
            · rw [List.getElem?_append_right (by omega)] at hj
              obtain ⟨v, hv, rr⟩ := hv2.get hj
              have hjn : j - old.length < vnew.toList.length := (List.getElem?_eq_some_iff.1 hv).1
              refine ⟨v, ?_, rr.mono hle'⟩
              rw [if_pos (by simp only; omega)]
              rw [show (p.o + off + j - (p.o + off + len * i.size + 0)) = j - old.length by omega]
              exact hv
          obtain ⟨hrel, hle⟩ := hR.move (q := ⟨p.b, p.o + off, p.lim⟩) hg hp rfl rfl rfl q1 q2 q3 q4 q5 hor
          refine ⟨_, .slice (some ⟨p.b, p.o + off, none⟩) (len + n) sCap, w', ?_, hle, .sl (Pm.put_self _ _ _) hfit (.inr (by simp)) (.inr (by simpa using hxx)) (fun n hn => by cases hn), by rw [htext]; exact hrel⟩
          exact append_fits h0 h1 hd hi hz hdx hzeros hn0 hn1 hv1 hv1' hfit (fun a' ha' => by cases ha'; rw [addr_add]; exact hrun) (fun hh => by cases hh)
        · simp at hown
      split at hb
      · -- nothing is appended
        rename_i hn
        subst hn
        have nothing : ∀ (base : Option Addr) (sCap : Nat), len ≤ sCap → (Builtin.append_ argTypes ty #[.slice base len sCap, cx]).run P w = .ok (.slice base len sCap) w := by
          intro base sCap hle
          obtain ⟨vnew, hv1, hv1', hv2⟩ := hvals w.drawn
          have hl0 : vnew.toList = [] := by
            have := hv2.length
            rw [hnl] at this
            exact List.length_eq_zero_iff.1 (by rw [← this]; simp)
          exact append_fits (n := 0) h0 h1 hd hi hz hdx hzeros hn0 hn1 hv1 hv1' hle (fun a' _ => by rw [hl0]; rfl) (fun _ => rfl)
        cases hs <;> simp only [reduceCtorEq, Option.some.injEq] at hb <;> simp only [lenA, reduceCtorEq, Option.some.injEq] at hlen
        · subst hb; subst hlen
          exact ⟨_, _, ρ, _, w, rfl, nothing none 0 (Nat.le_refl _), Ext.refl _ _, .nilsl, hR⟩
        · subst hb; subst hlen
          rename_i hp hlc ha hxx hc
          exact ⟨_, _, ρ, _, w, rfl, nothing _ _ hlc, Ext.refl _ _, .sl hp hlc ha hxx hc, hR⟩
      · rename_i hn
        split at hb
        · simp at hb
        · rename_i hone
          replace hone : new.all oneA = true := by
            cases hh : new.all oneA with
            | true => rfl
            | false => rw [hh] at hone; simp at hone
          split at hb
          · simp at hb
          · rename_i hbig
            simp only [Bool.or_eq_true, decide_eq_true_eq, not_or, Nat.not_lt, gt_iff_lt] at hbig
            have hs0 := hs
            cases hs <;> (first | (simp at hb; done) | (simp at hlen; done) | skip)
            · -- nil
              simp only [newCells, Option.some.injEq] at hb
              simp only [lenA, Option.some.injEq] at hlen
              subst hlen; subst hb
              have hold0 : old = [] := by
                unfold firstA at hold
                simpa using hold.symm
              subst hold0
              obtain ⟨ρ', cv, w', r1, r2, r3, r4⟩ := grow none 0 hs0 (by omega) (by simpa using hbig.1) (by simpa using hbig.2)
              exact ⟨_, _, ρ', cv, w', rfl, r1, r2, by simpa using r3, by simpa using r4⟩
            · rename_i id off len' sz c p ad cap hp hlc ha hxx hc
              simp only [lenA, Option.some.injEq] at hlen
              subst hlen
              have hsz : sz = i.size := by
                unfold firstA at hold
                simp only at hold
                split at hold
                · rename_i h5; simp only [Bool.and_eq_true, decide_eq_true_eq] at h5; exact h5.1
                · simp at hold
              subst hsz
              cases c with
              | none =>
                simp only at hb
                split at hb
                · rename_i hown
                  simp only [newCells, Option.some.injEq] at hb
                  subst hb
                  by_cases hfit : len' + n ≤ cap
                  · obtain ⟨ρ', cv, w', r1, r2, r3, r4⟩ := inPlace id off none ad cap rfl hs0 hown (by omega) hfit hone
                    exact ⟨_, _, ρ', cv, w', rfl, r1, r2, r3, r4⟩
                  · obtain ⟨ρ', cv, w', r1, r2, r3, r4⟩ := grow (some ad) cap hs0 (by omega) hbig.1 hbig.2
                    refine ⟨_, _, ρ', cv, w', rfl, r1, r2, r3, r4.weaken (fun j oj hj => ?_) (Nat.le_refl _)⟩
                    rw [AH.get_new] at hj
                    by_cases e1 : j = h.nx
                    · rw [if_pos (by simpa using e1)] at hj
                      cases hj
                      exact ⟨.cells (old ++ new) true false, by rw [AH.get_new, if_pos e1], rfl, fun p x ho => by
                        obtain ⟨c, e, fr, o1, o2, o3, o4, o5, o6⟩ := ho
                        exact ⟨c, e, fr, o1, o2, o3, o4, o5, fun h1 _ => o6 h1 rfl⟩⟩
                    · rw [if_neg (by simpa using e1), AH.get_del] at hj
                      split at hj
                      · cases hj
                      · exact ⟨oj, by rw [AH.get_new, if_neg e1]; exact hj, rfl, fun _ _ ho => ho⟩
                · simp at hb
              | some c =>
                have hcap := hc c rfl
                subst hcap
                simp only at hb
                split at hb
                · rename_i hlt
                  simp only [newCells, Option.some.injEq] at hb
                  subst hb
                  obtain ⟨ρ', cv, w', r1, r2, r3, r4⟩ := grow (some ad) cap hs0 hlt hbig.1 hbig.2
                  exact ⟨_, _, ρ', cv, w', rfl, r1, r2, r3, r4⟩
                · rename_i hge
                  split at hb
                  · rename_i hown
                    simp only [newCells, Option.some.injEq] at hb
                    subst hb
                    obtain ⟨ρ', cv, w', r1, r2, r3, r4⟩ := inPlace id off (some cap) ad cap rfl hs0 hown (by omega) (by omega) hone
                    exact ⟨_, _, ρ', cv, w', rfl, r1, r2, r3, r4⟩
                  · simp at hb
  · simp at hb

end
end Go.Abs
