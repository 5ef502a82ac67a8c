/- The abstract layer, part 19: what the checks of a drawing region tell. -/
import Derived.Test.YticccdaomgildaaGreatDoorAbs18
namespace Go.Abs
open Go
set_option linter.unusedVariables false
set_option linter.unusedSimpArgs false

section
variable {P : Program}

theorem mbit_eq (m i : Nat) : mbit m i = m.testBit i := by
  unfold mbit
  rw [nbeq, Nat.testBit_eq_decide_div_mod_eq]
  congr 1
  rw [show Nat.shiftRight m i = m >>> i from rfl, Nat.shiftRight_eq_div_pow]

theorem mbit_lor (a b i : Nat) : mbit (Nat.lor a b) i = (mbit a i || mbit b i) := by
  rw [mbit_eq, mbit_eq, mbit_eq, show Nat.lor a b = a ||| b from rfl, Nat.testBit_or]

theorem mbit_pow (k i : Nat) : mbit (2 ^ k) i = decide (k = i) := by
  rw [mbit_eq, Nat.testBit_two_pow]

theorem mbit_zero (i : Nat) : mbit 0 i = false := by
  rw [mbit_eq, Nat.zero_testBit]

theorem edgeMask_spec {ms : List Nat} {i : Nat} : ∀ (l : List Edge) (m0 m : Nat), edgeMask ms i l m0 = some m →
    (∀ e ∈ l, Region.binds .any e = true → e.on < i) ∧
    ∀ b, mbit m b = true → mbit m0 b = true ∨ ∃ e ∈ l, Region.binds .any e = true ∧ (e.on = b ∨ mbit (ms.getD e.on 0) b = true)
  | [], m0, m, h => by
    simp only [edgeMask, Option.some.injEq] at h
    subst h
    exact ⟨fun e he => (by cases he), fun b hb => .inl hb⟩
  | e :: l, m0, m, h => by
    simp only [edgeMask] at h
    split at h
    · rename_i hbi
      split at h
      · rename_i hlt
        obtain ⟨h1, h2⟩ := edgeMask_spec l _ m h
        refine ⟨fun e' he' hb' => ?_, fun b hb => ?_⟩
        · rcases List.mem_cons.1 he' with rfl | he'
          · exact hlt
          · exact h1 e' he' hb'
        · rcases h2 b hb with h3 | ⟨e', he', h3⟩
          · rw [mbit_lor, mbit_lor, mbit_pow] at h3
            simp only [Bool.or_eq_true, decide_eq_true_eq] at h3
            rcases h3 with h3 | h3 | h3
            · exact .inl h3
            · exact .inr ⟨e, List.mem_cons_self .., hbi, .inl h3⟩
            · exact .inr ⟨e, List.mem_cons_self .., hbi, .inr h3⟩
          · exact .inr ⟨e', List.mem_cons_of_mem _ he', h3⟩
      · simp at h
    · rename_i hbi
      obtain ⟨h1, h2⟩ := edgeMask_spec l _ m h
      refine ⟨fun e' he' hb' => ?_, fun b hb => ?_⟩
      · rcases List.mem_cons.1 he' with rfl | he'
        · exact absurd hb' hbi
        · exact h1 e' he' hb'
      · rcases h2 b hb with h3 | ⟨e', he', h3⟩
        · exact .inl h3
        · exact .inr ⟨e', List.mem_cons_of_mem _ he', h3⟩

theorem statAt_spec {ops : Array Oper} {o : Oper} {m : Nat} : ∀ (l : List Oper) (j0 : Nat), statAt P ops o m j0 l = true →
    ∀ j p, l[j]? = some p → mbit m (j0 + j) = true ∨ (p.apart ops o = true ∧ ¬ (clsOf P o.op = 3 ∧ 2 ≤ clsOf P p.op))
  | [], j0, h, j, p, hj => by simp at hj
  | q :: l, j0, h, j, p, hj => by
    simp only [statAt, Bool.and_eq_true] at h
    cases j with
    | zero =>
      simp only [List.getElem?_cons_zero, Option.some.injEq] at hj
      subst hj
      have h1 := h.1
      simp only [Bool.or_eq_true, Bool.and_eq_true, Bool.not_eq_true', nbeq] at h1
      rcases h1 with h1 | ⟨h1, h2⟩
      · exact .inl h1
      · refine .inr ⟨h1, fun hc => ?_⟩
        rw [hc.1] at h2
        simp only [decide_true, Bool.true_and] at h2
        have := Nat.ble_eq_true_of_le hc.2
        rw [this] at h2; cases h2
    | succ j =>
      have := statAt_spec l (j0 + 1) h.2 j p (by simpa using hj)
      rw [show j0 + (j + 1) = j0 + 1 + j by omega]; exact this

theorem pairsAt_spec {o : Oper} {m i : Nat} : ∀ (l : List Oper) (j0 j : Nat) (p : Oper), l[j]? = some p → mbit m (j0 + j) = false → ((clsOf P o.op = 1 ∧ clsOf P p.op = 3) ∨ (clsOf P o.op = 3 ∧ clsOf P p.op = 1)) →
    (j0 + j, i) ∈ pairsAt P o m i j0 l
  | [], j0, j, p, hj, _, _ => by simp at hj
  | q :: l, j0, j, p, hj, hm, hc => by
    cases j with
    | zero =>
      simp only [List.getElem?_cons_zero, Option.some.injEq] at hj
      subst hj
      have hm' : mbit m j0 = false := hm
      have : (!(mbit m j0) && ((Nat.beq (clsOf P o.op) 1 && Nat.beq (clsOf P q.op) 3) || (Nat.beq (clsOf P o.op) 3 && Nat.beq (clsOf P q.op) 1))) = true := by
        rw [hm']
        rcases hc with ⟨h1, h2⟩ | ⟨h1, h2⟩ <;> simp [h1, h2]
      simp only [pairsAt, this, if_true]
      exact List.mem_cons_self ..
    | succ j =>
      have ih := pairsAt_spec (i := i) l (j0 + 1) j p (by simpa using hj) (by rw [show j0 + 1 + j = j0 + (j + 1) by omega]; exact hm) hc
      rw [show j0 + (j + 1) = j0 + 1 + j by omega]
      simp only [pairsAt]
      split
      · exact List.mem_cons_of_mem _ ih
      · exact ih

/-- What the static check tells: M i b says that b stands before i. -/
structure Stat (P : Program) (ops : Array Oper) (prs : List (Nat × Nat)) (M : Nat → Nat → Bool) : Prop where
  back : ∀ i o, ops[i]? = some o → ∀ e ∈ o.after, Region.binds .any e = true → e.on < i
  why : ∀ i o b, ops[i]? = some o → M i b = true → ∃ e ∈ o.after, Region.binds .any e = true ∧ (e.on = b ∨ M e.on b = true)
  apart : ∀ j i oj oi, j < i → ops[j]? = some oj → ops[i]? = some oi → M i j = true ∨ (oj.apart ops oi = true ∧ ¬ (clsOf P oi.op = 3 ∧ 2 ≤ clsOf P oj.op))
  pair : ∀ j i oj oi, j < i → ops[j]? = some oj → ops[i]? = some oi → M i j = false → ((clsOf P oi.op = 1 ∧ clsOf P oj.op = 3) ∨ (clsOf P oi.op = 3 ∧ clsOf P oj.op = 1)) → (j, i) ∈ prs

theorem statGo_spec {ops : Array Oper} : ∀ (r prev : List Oper) (ms : List Nat) (acc prs : List (Nat × Nat)), prev.length = ms.length →
    (∀ i o m, prev[i]? = some o → ms[i]? = some m → (∀ e ∈ o.after, Region.binds .any e = true → e.on < i) ∧ (∀ b, mbit m b = true → ∃ e ∈ o.after, Region.binds .any e = true ∧ (e.on = b ∨ mbit (ms.getD e.on 0) b = true)) ∧
      (∀ j p, j < i → prev[j]? = some p → (mbit m j = true ∨ (p.apart ops o = true ∧ ¬ (clsOf P o.op = 3 ∧ 2 ≤ clsOf P p.op))) ∧ (mbit m j = false → ((clsOf P o.op = 1 ∧ clsOf P p.op = 3) ∨ (clsOf P o.op = 3 ∧ clsOf P p.op = 1)) → (j, i) ∈ acc))) →
    statGo P ops r prev.length prev ms acc = some prs →
    ∃ ms' : List Nat, (prev ++ r).length = ms'.length ∧ ∀ i o m, (prev ++ r)[i]? = some o → ms'[i]? = some m → (∀ e ∈ o.after, Region.binds .any e = true → e.on < i) ∧ (∀ b, mbit m b = true → ∃ e ∈ o.after, Region.binds .any e = true ∧ (e.on = b ∨ mbit (ms'.getD e.on 0) b = true)) ∧
      (∀ j p, j < i → (prev ++ r)[j]? = some p → (mbit m j = true ∨ (p.apart ops o = true ∧ ¬ (clsOf P o.op = 3 ∧ 2 ≤ clsOf P p.op))) ∧ (mbit m j = false → ((clsOf P o.op = 1 ∧ clsOf P p.op = 3) ∨ (clsOf P o.op = 3 ∧ clsOf P p.op = 1)) → (j, i) ∈ prs))
  | [], prev, ms, acc, prs, hlen, hinv, h => by
    simp only [statGo, Option.some.injEq] at h
    subst h
    exact ⟨ms, by simpa using hlen, by simpa using hinv⟩
  | o :: r, prev, ms, acc, prs, hlen, hinv, h => by
    simp only [statGo] at h
    cases hm : edgeMask ms prev.length o.after.toList 0 with
    | none => simp [hm] at h
    | some m =>
      simp only [hm] at h
      split at h
      · rename_i hst
        obtain ⟨e1, e2⟩ := edgeMask_spec _ _ _ hm
        have hs := statAt_spec prev 0 hst
        have := statGo_spec r (prev ++ [o]) (ms ++ [m]) (acc ++ pairsAt P o m prev.length 0 prev) prs (by simp [hlen]) (fun i oi mi hoi hmi => ?_) (by simpa using h)
        · simpa using this
        · have hgetD : ∀ k, k < ms.length → (ms ++ [m]).getD k 0 = ms.getD k 0 := fun k hk => by
            simp [List.getD_eq_getElem?_getD, List.getElem?_append_left hk]
          by_cases hi : i < prev.length
          · rw [List.getElem?_append_left hi] at hoi
            rw [List.getElem?_append_left (by omega)] at hmi
            obtain ⟨a1, a2, a3⟩ := hinv i oi mi hoi hmi
            refine ⟨a1, fun b hb => ?_, fun j p hj hp => ?_⟩
            · obtain ⟨e, he, hbi, hor⟩ := a2 b hb
              have := a1 e he hbi
              exact ⟨e, he, hbi, by rw [hgetD _ (by omega)]; exact hor⟩
            · rw [List.getElem?_append_left (by omega)] at hp
              obtain ⟨b1, b2⟩ := a3 j p hj hp
              exact ⟨b1, fun x y => List.mem_append_left _ (b2 x y)⟩
          · have hi' : i = prev.length := by
              have := (List.getElem?_eq_some_iff.1 hoi).1
              simp at this; omega
            subst hi'
            have ho' : oi = o := by simpa using hoi.symm
            have hm' : mi = m := by rw [hlen] at hmi; simpa using hmi.symm
            subst ho'; subst hm'
            refine ⟨fun e he hb => e1 e (by simpa using he) hb, fun b hb => ?_, fun j p hj hp => ?_⟩
            · rcases e2 b hb with h0 | ⟨e, he, hbi, hor⟩
              · rw [mbit_zero] at h0; cases h0
              · exact ⟨e, by simpa using he, hbi, by rw [hgetD _ (by have := e1 e he hbi; omega)]; exact hor⟩
            · rw [List.getElem?_append_left hj] at hp
              refine ⟨?_, fun x y => List.mem_append_right _ ?_⟩
              · have := hs j p hp
                simpa using this
              · have := pairsAt_spec (P := P) (o := oi) (m := mi) (i := prev.length) prev 0 j p hp (by simpa using x) y
                simpa using this
      · simp at h

theorem stat_spec {ops : Array Oper} {prs : List (Nat × Nat)} (h : statGo P ops ops.toList 0 [] [] [] = some prs) : ∃ M, Stat P ops prs M := by
  obtain ⟨ms, hlen, hinv⟩ := statGo_spec (P := P) (ops := ops) ops.toList [] [] [] prs rfl (fun i o m hh => by simp at hh) h
  simp only [List.nil_append] at hlen hinv
  have hget : ∀ i o, ops[i]? = some o → ∃ m, ms[i]? = some m ∧ ms.getD i 0 = m := fun i o hi => by
    have : i < ms.length := by rw [← hlen]; have := (Array.getElem?_eq_some_iff.1 hi).1; simpa using this
    exact ⟨ms[i], by simp [this], by simp [this]⟩
  refine ⟨fun i b => mbit (ms.getD i 0) b, ⟨fun i o hi => ?_, fun i o b hi hb => ?_, fun j i oj oi hj h1 h2 => ?_, fun j i oj oi hj h1 h2 h3 h4 => ?_⟩⟩
  · obtain ⟨m, hm, _⟩ := hget i o hi
    exact (hinv i o m (by simpa using hi) hm).1
  · obtain ⟨m, hm, hd⟩ := hget i o hi
    exact (hinv i o m (by simpa using hi) hm).2.1 b (by rw [← hd]; exact hb)
  · obtain ⟨m, hm, hd⟩ := hget i oi h2
    have := ((hinv i oi m (by simpa using h2) hm).2.2 j oj hj (by simpa using h1)).1
    rw [← hd] at this; exact this
  · obtain ⟨m, hm, hd⟩ := hget i oi h2
    refine ((hinv i oi m (by simpa using h2) hm).2.2 j oj hj (by simpa using h1)).2 (by rw [← hd]; exact h3) h4

/-! ### The trace -/
theorem drawGo_spec {R : Rec} {n : Nat} {ops : Array Oper} {base : Nat} : ∀ (l : List Oper) (i : Nat) (s : DS) (ss : List DS), drawGo P R n ops base l i s = some ss →
    ss.length = l.length + 1 ∧ ss[0]? = some s ∧ ∀ k o, l[k]? = some o → ∃ s1 s2, ss[k]? = some s1 ∧ ss[k + 1]? = some s2 ∧ drawStep P R n ops base (i + k) o s1 = some s2
  | [], i, s, ss, h => by
    simp only [drawGo, Option.some.injEq] at h
    subst h
    exact ⟨rfl, rfl, fun k o hk => by simp at hk⟩
  | o :: l, i, s, ss, h => by
    simp only [drawGo] at h
    cases h1 : drawStep P R n ops base i o s with
    | none => simp [h1] at h
    | some s' =>
      simp only [h1] at h
      cases h2 : drawGo P R n ops base l (i + 1) s' with
      | none => simp [h2] at h
      | some l' =>
        simp only [h2, Option.some.injEq] at h
        subst h
        obtain ⟨e1, e2, e3⟩ := drawGo_spec l (i + 1) s' l' h2
        refine ⟨by simp [e1], rfl, fun k o' hk => ?_⟩
        cases k with
        | zero =>
          simp only [List.getElem?_cons_zero, Option.some.injEq] at hk
          subst hk
          exact ⟨s, s', rfl, by simpa using e2, by simpa using h1⟩
        | succ k =>
          obtain ⟨s1, s2, q1, q2, q3⟩ := e3 k o' (by simpa using hk)
          exact ⟨s1, s2, by simpa using q1, by simpa using q2, by rw [show i + (k + 1) = i + 1 + k by omega]; exact q3⟩

theorem restr_spec {t : Env} : ∀ (l : List Tmp) (e : Env) (x : Nat) (a : AV), (restr t l e).get x = some a → (x ∈ l ∧ t.get x = some a) ∨ e.get x = some a
  | [], e, x, a, h => .inr h
  | d :: l, e, x, a, h => by
    simp only [restr] at h
    rcases restr_spec l _ x a h with ⟨h1, h2⟩ | h1
    · exact .inl ⟨List.mem_cons_of_mem _ h1, h2⟩
    · split at h1
      · rename_i v hv
        rw [Tr.get_set] at h1
        by_cases e' : x = d
        · subst e'
          simp only [if_true] at h1
          exact .inl ⟨List.mem_cons_self .., by rw [hv]; exact h1⟩
        · rw [if_neg e'] at h1; exact .inr h1
      · exact .inr h1

theorem restr_get {t : Env} {l : List Tmp} {x : Nat} {a : AV} (h : (restr t l .nil).get x = some a) : x ∈ l ∧ t.get x = some a := by
  rcases restr_spec l _ x a h with h1 | h1
  · exact h1
  · rw [Tr.get_nil] at h1; cases h1

theorem sameL_eq {f : AV → AV → Bool} (hf : ∀ a b, f a b = true → a = b) : ∀ {l m : List AV}, sameL f l m = true → l = m
  | [], [], _ => rfl
  | a :: l, b :: m, h => by
    simp only [sameL, Bool.and_eq_true] at h
    rw [hf a b h.1, sameL_eq hf h.2]
  | [], _ :: _, h => by simp [sameL] at h
  | _ :: _, [], h => by simp [sameL] at h

theorem sameAV_eq : ∀ (f : Nat) (a b : AV), sameAV f a b = true → a = b := by
  intro f
  induction f with
  | zero => intro a b h; simp [sameAV] at h
  | succ f ih =>
    intro a b h
    cases a <;> cases b <;> simp only [sameAV, Bool.and_eq_true, decide_eq_true_eq, beq_iff_eq, nbeq] at h <;> first
      | rfl
      | (cases h; done)
      | (simp only [h]; done)
      | (obtain ⟨h1, h2⟩ := h; subst h1; subst h2; rfl)
      | (obtain ⟨h1, h2⟩ := h; rw [h1, ih _ _ h2]; done)
      | (rw [sameL_eq ih h]; done)
      | (obtain ⟨h1, h2, h3, h4, h5⟩ := h; subst h1; subst h2; subst h3; subst h4; subst h5; rfl)

end
end Go.Abs
