/- The abstract layer, part 21: regions that draw their order. -/
import Derived.Test.YticccdaomgildaaGreatDoorAbs20
namespace Go.Abs
open Go
set_option linter.unusedVariables false
set_option linter.unusedSimpArgs false

noncomputable def dsAt (ss : List DS) (k : Nat) : DS := (ss[k]?).getD { t := .nil, h := { tr := .nil, nx := 0 }, pend := [] }

theorem sameAt_spec {P : Program} {R : Rec} {n : Nat} {ops : Array Oper} {i : Nat} {t t' : Env} {h : AH} {o : Oper} (ho : ops[i]? = some o) (hs : sameAt P R n ops i t t' h = true) :
    ∃ t2 h2, evOp1 P R n ops o (restr t (o.looksAt ops) .nil) h = some (t2, h2) ∧ ∀ d, o.dst = some d → ∃ v, t2.get d = some v ∧ t'.get d = some v := by
  unfold sameAt at hs
  simp only [ho] at hs
  cases h1 : evOp1 P R n ops o (restr t (o.looksAt ops) .nil) h with
  | none => simp [h1] at hs
  | some th =>
    obtain ⟨t2, h2⟩ := th
    refine ⟨t2, h2, rfl, fun d hd => ?_⟩
    simp only [h1, hd] at hs
    split at hs
    · rename_i a b ha hb
      have := sameAV_eq 20 a b hs
      subst this
      exact ⟨a, ha, hb⟩
    · simp at hs

theorem sameAll_spec {P : Program} {R : Rec} {n : Nat} {ops : Array Oper} {ss : List DS} : ∀ (prs : List (Nat × Nat)), sameAll P R n ops ss prs = true →
    ∀ j i o, (j, i) ∈ prs → ops[i]? = some o → (clsOf P o.op = 1 → sameAt P R n ops i (dsAt ss i).t (dsAt ss (i + 1)).t (dsAt ss j).h = true) ∧
      (clsOf P o.op ≠ 1 → sameAt P R n ops j (dsAt ss j).t (dsAt ss (j + 1)).t (dsAt ss (i + 1)).h = true)
  | [], _, j, i, o, hm, _ => by cases hm
  | (j0, i0) :: r, hs, j, i, o, hm, ho => by
    simp only [sameAll, Bool.and_eq_true] at hs
    rcases List.mem_cons.1 hm with hm | hm
    · cases hm
      have h1 := hs.1
      split at h1
      · rename_i o' si si' sj sj' q1 q2 q3 q4 q5
        rw [ho] at q1; cases q1
        simp only [dsAt, q2, q3, q4, q5, Option.getD_some]
        simp only [nbeq, decide_eq_true_eq] at h1
        split at h1
        · rename_i hc
          exact ⟨fun _ => h1, fun hn => (hn hc).elim⟩
        · rename_i hc
          exact ⟨fun hn => (hc hn).elim, fun _ => h1⟩
      · simp at h1
    · exact sameAll_spec r hs.2 j i o hm ho

section
variable {P : Program} {R : Rec} {n : Nat} {ops : Array Oper} {base : Nat} {D : Nat → DS}

/-- What alloc j lays. -/
def LaysAt (P : Program) (ops : Array Oper) (D : Nat → DS) (j : Nat) (ob : AO) : Prop :=
  ∃ o mk, ops[j]? = some o ∧ clsOf P o.op = 2 ∧ wantedA ops (restr (D j).t (o.looksAt ops) .nil) o = some true ∧ allocA P (opnd (restr (D j).t (o.looksAt ops) .nil)) o.op = some (ob, mk)

theorem backA_get {t t' : Env} {dst : Option Tmp} : (∀ x, dst ≠ some x → (backA t dst t').get x = t.get x) ∧ ∀ d, dst = some d → (backA t dst t').get d = t'.get d := by
  cases dst with
  | none => exact ⟨fun _ _ => rfl, fun _ h => by cases h⟩
  | some d =>
    refine ⟨fun x hx => ?_, fun e he => ?_⟩
    · simp only [backA]; rw [Tr.get_set, if_neg (fun e => hx (by rw [e]))]
    · cases he; simp only [backA]; rw [Tr.get_set, if_pos rfl]

theorem putA_get {t t' : Env} {dst : Option Tmp} {v : AV} (hp : putA n t dst v = some t') : (∀ x, dst ≠ some x → t'.get x = t.get x) ∧ ∀ d, dst = some d → d < n ∧ t'.get d = some v := by
  unfold putA at hp
  split at hp
  · simp only [Option.some.injEq] at hp; subst hp; exact ⟨fun _ _ => rfl, fun _ h => by cases h⟩
  · rename_i d
    split at hp
    · rename_i hd
      simp only [Option.some.injEq] at hp; subst hp
      refine ⟨fun x hx => by rw [Tr.get_set, if_neg (fun e => hx (by rw [e]))], fun e he => ?_⟩
      cases he; exact ⟨hd, by rw [Tr.get_set, if_pos rfl]⟩
    · simp at hp

/-- What a step of the trace is. -/
theorem drawStep_low {i : Nat} {o : Oper} {s s' : DS} (hc : clsOf P o.op ≤ 1) (hs : drawStep P R n ops base i o s = some s') :
    ∃ t', evOp1 P R n ops o (restr s.t (o.looksAt ops) .nil) s.h = some (t', s.h) ∧ s'.t = backA s.t o.dst t' ∧ s'.h = s.h ∧ s'.pend = s.pend := by
  unfold drawStep at hs
  split at hs
  · rename_i h2; omega
  · rename_i h2; omega
  · cases h1 : evOp1 P R n ops o (restr s.t (o.looksAt ops) .nil) s.h with
    | none => simp [h1] at hs
    | some th =>
      obtain ⟨t', h'⟩ := th
      have := evOp1_read hc h1
      subst this
      simp only [h1, Option.some.injEq] at hs
      subst hs
      exact ⟨t', rfl, rfl, rfl, rfl⟩

theorem drawStep_eff {i : Nat} {o : Oper} {s s' : DS} (hc : clsOf P o.op = 3) (hs : drawStep P R n ops base i o s = some s') :
    ∃ t', evOp1 P R n ops o (restr s.t (o.looksAt ops) .nil) (absorb s.pend s.h) = some (t', s'.h) ∧ s'.t = backA s.t o.dst t' ∧ s'.pend = [] := by
  unfold drawStep at hs
  rw [hc] at hs
  simp only at hs
  cases h1 : evOp1 P R n ops o (restr s.t (o.looksAt ops) .nil) (absorb s.pend s.h) with
  | none => simp [h1] at hs
  | some th =>
    obtain ⟨t', h'⟩ := th
    simp only [h1, Option.some.injEq] at hs
    subst hs
    exact ⟨t', rfl, rfl, rfl⟩

theorem drawStep_al {i : Nat} {o : Oper} {s s' : DS} (hc : clsOf P o.op = 2) (hs : drawStep P R n ops base i o s = some s') :
    s'.h = s.h ∧ ((wantedA ops (restr s.t (o.looksAt ops) .nil) o = some false ∧ putA n s.t o.dst (.tup []) = some s'.t ∧ s'.pend = s.pend) ∨
      ∃ ob mk, wantedA ops (restr s.t (o.looksAt ops) .nil) o = some true ∧ allocA P (opnd (restr s.t (o.looksAt ops) .nil)) o.op = some (ob, mk) ∧ putA n s.t o.dst (mk (base + i)) = some s'.t ∧ s'.pend = s.pend ++ [(base + i, ob)]) := by
  unfold drawStep at hs
  rw [hc] at hs
  simp only at hs
  cases hw : wantedA ops (restr s.t (o.looksAt ops) .nil) o with
  | none => simp [hw] at hs
  | some b =>
    cases b with
    | false =>
      simp only [hw] at hs
      cases hp : putA n s.t o.dst (.tup []) with
      | none => simp [hp] at hs
      | some t' =>
        simp only [hp, Option.some.injEq] at hs
        subst hs
        exact ⟨rfl, .inl ⟨rfl, rfl, rfl⟩⟩
    | true =>
      simp only [hw] at hs
      cases ha : allocA P (opnd (restr s.t (o.looksAt ops) .nil)) o.op with
      | none => simp [ha] at hs
      | some om =>
        obtain ⟨ob, mk⟩ := om
        simp only [ha] at hs
        cases hp : putA n s.t o.dst (mk (base + i)) with
        | none => simp [hp] at hs
        | some t' =>
          simp only [hp, Option.some.injEq] at hs
          subst hs
          exact ⟨rfl, .inr ⟨ob, mk, rfl, rfl, hp, rfl⟩⟩

theorem clsOf_le (P : Program) (op : Op) : clsOf P op ≤ 3 := by
  cases op <;> simp only [clsOf] <;> (first | decide | skip)
  all_goals (split <;> decide)

theorem cls_cases (P : Program) (op : Op) : clsOf P op ≤ 1 ∨ clsOf P op = 2 ∨ clsOf P op = 3 := by
  have := clsOf_le P op; omega

theorem drawStep_env {i : Nat} {o : Oper} {s s' : DS} (hs : drawStep P R n ops base i o s = some s') : ∀ x, o.dst ≠ some x → s'.t.get x = s.t.get x := by
  intro x hx
  rcases cls_cases P o.op with hc | hc | hc
  · obtain ⟨t', _, h2, _⟩ := drawStep_low hc hs
    rw [h2]; exact backA_get.1 x hx
  · obtain ⟨_, ⟨_, h2, _⟩ | ⟨ob, mk, _, _, h2, _⟩⟩ := drawStep_al hc hs
    · exact (putA_get h2).1 x hx
    · exact (putA_get h2).1 x hx
  · obtain ⟨t', _, h2, _⟩ := drawStep_eff hc hs
    rw [h2]; exact backA_get.1 x hx

theorem drawStep_heap {i : Nat} {o : Oper} {s s' : DS} (hs : drawStep P R n ops base i o s = some s') (hc : clsOf P o.op ≠ 3) : s'.h = s.h := by
  rcases cls_cases P o.op with h | h | h
  · obtain ⟨t', _, _, h2, _⟩ := drawStep_low h hs; exact h2
  · exact (drawStep_al h hs).1
  · exact (hc h).elim

/-! ### The temporaries, after some of the operations -/
noncomputable def envAt (ops : Array Oper) (D : Nat → DS) (X : Nat → Bool) (x : Nat) : Nat → Option AV
  | 0 => (D 0).t.get x
  | k + 1 => if X k = true ∧ (ops[k]?).bind (·.dst) = some x then (D (k + 1)).t.get x else envAt ops D X x k

def Steps (P : Program) (R : Rec) (n : Nat) (ops : Array Oper) (base : Nat) (D : Nat → DS) : Prop := ∀ k o, ops[k]? = some o → drawStep P R n ops base k o (D k) = some (D (k + 1))

theorem envAt_text (hst : Steps P R n ops base D) {X : Nat → Bool} {x : Nat} : ∀ i, i ≤ ops.size → (∀ j, j < i → (ops[j]?).bind (·.dst) = some x → X j = true) → envAt ops D X x i = (D i).t.get x
  | 0, _, _ => rfl
  | k + 1, hk, hX => by
    have ho : ops[k]? = some ops[k] := by simp
    simp only [envAt]
    split
    · rfl
    · rename_i hn
      rw [envAt_text hst k (by omega) fun j hj => hX j (by omega)]
      refine (drawStep_env (hst k _ ho) x fun hd => hn ⟨hX k (by omega) ?_, ?_⟩).symm <;> simp [ho, hd]

theorem envAt_stop {X : Nat → Bool} {x i : Nat} : ∀ k, i ≤ k → (∀ j, i ≤ j → j < k → (ops[j]?).bind (·.dst) = some x → X j = false) → envAt ops D X x k = envAt ops D X x i
  | 0, hk, _ => by
    have : i = 0 := by omega
    rw [this]
  | k + 1, hk, hX => by
    by_cases e : i = k + 1
    · rw [e]
    · simp only [envAt]
      split
      · rename_i hn
        rw [hX k (by omega) (by omega) hn.2] at hn
        cases hn.1
      · exact envAt_stop k (by omega) fun j h1 h2 => hX j h1 (by omega)

theorem envAt_congr {X Y : Nat → Bool} {x : Nat} : ∀ k, (∀ j, j < k → (ops[j]?).bind (·.dst) = some x → X j = Y j) → envAt ops D X x k = envAt ops D Y x k
  | 0, _ => rfl
  | k + 1, hX => by
    simp only [envAt]
    rw [envAt_congr k fun j h1 => hX j (by omega)]
    by_cases hd : (ops[k]?).bind (·.dst) = some x
    · rw [hX k (by omega) hd]
    · simp [hd]

/-! ### The heap, where no call stands between -/
theorem heap_same (hst : Steps P R n ops base D) {p : Nat} : ∀ k, p ≤ k → k ≤ ops.size → (∀ e o, p ≤ e → e < k → ops[e]? = some o → clsOf P o.op ≠ 3) → (D k).h = (D p).h
  | 0, h1, _, _ => by
    have : p = 0 := by omega
    rw [this]
  | k + 1, h1, h2, hn => by
    by_cases e : p = k + 1
    · rw [e]
    · have ho : ops[k]? = some ops[k] := by simp
      rw [drawStep_heap (hst k _ ho) (hn k _ (by omega) (by omega) ho)]
      exact heap_same hst k (by omega) (by omega) fun e o h3 h4 => hn e o h3 (by omega)

theorem pend_spec (hst : Steps P R n ops base D) {p : Nat} (hp : (D p).pend = []) : ∀ k, p ≤ k → k ≤ ops.size → (∀ e o, p ≤ e → e < k → ops[e]? = some o → clsOf P o.op ≠ 3) →
    ((D k).pend.map (·.1)).Nodup ∧ ∀ id ob, (id, ob) ∈ (D k).pend ↔ ∃ j, p ≤ j ∧ j < k ∧ id = base + j ∧ LaysAt P ops D j ob
  | 0, h1, _, _ => by
    have : p = 0 := by omega
    subst this
    rw [hp]
    exact ⟨List.nodup_nil, fun id ob => ⟨fun h => (by cases h), fun ⟨j, _, h, _⟩ => by omega⟩⟩
  | k + 1, h1, h2, hn => by
    by_cases e : p = k + 1
    · subst e
      rw [hp]
      exact ⟨List.nodup_nil, fun id ob => ⟨fun h => (by cases h), fun ⟨j, h, h', _⟩ => by omega⟩⟩
    · have ho : ops[k]? = some ops[k] := by simp
      obtain ⟨i1, i2⟩ := pend_spec hst hp k (by omega) (by omega) fun e o h3 h4 => hn e o h3 (by omega)
      have hstep := hst k _ ho
      have stay : (D (k + 1)).pend = (D k).pend → (∀ ob, ¬ LaysAt P ops D k ob) → ((D (k + 1)).pend.map (·.1)).Nodup ∧ ∀ id ob, (id, ob) ∈ (D (k + 1)).pend ↔ ∃ j, p ≤ j ∧ j < k + 1 ∧ id = base + j ∧ LaysAt P ops D j ob := fun hpe hno => by
        rw [hpe]
        refine ⟨i1, fun id ob => ?_⟩
        rw [i2 id ob]
        constructor
        · rintro ⟨j, a1, a2, a3⟩; exact ⟨j, a1, by omega, a3⟩
        · rintro ⟨j, a1, a2, a3, a4⟩
          have : j ≠ k := fun e => hno ob (by rw [← e]; exact a4)
          exact ⟨j, a1, by omega, a3, a4⟩
      rcases cls_cases P (ops[k]).op with hc | hc | hc
      · obtain ⟨t', _, _, _, h4⟩ := drawStep_low hc hstep
        refine stay h4 fun ob ⟨o, mk, q1, q2, _⟩ => ?_
        rw [ho] at q1; cases q1; omega
      · obtain ⟨_, ⟨hw, _, h4⟩ | ⟨ob, mk, hw, ha, _, h4⟩⟩ := drawStep_al hc hstep
        · refine stay h4 fun ob ⟨o, mk, q1, q2, q3, _⟩ => ?_
          rw [ho] at q1; cases q1
          rw [hw] at q3; cases q3
        · rw [h4]
          refine ⟨?_, fun id ob' => ?_⟩
          · rw [List.map_append, List.nodup_append]
            refine ⟨i1, by simp, fun x hx y hy => ?_⟩
            obtain ⟨⟨id, o'⟩, hm, rfl⟩ := List.mem_map.1 hx
            obtain ⟨j, a1, a2, a3, _⟩ := (i2 id o').1 hm
            simp at hy
            subst hy
            simp only
            omega
          · rw [List.mem_append, i2 id ob']
            constructor
            · rintro (⟨j, a1, a2, a3⟩ | hm)
              · exact ⟨j, a1, by omega, a3⟩
              · simp only [List.mem_singleton, Prod.mk.injEq] at hm
                obtain ⟨rfl, rfl⟩ := hm
                exact ⟨k, by omega, by omega, rfl, _, mk, ho, hc, hw, ha⟩
            · rintro ⟨j, a1, a2, a3, a4⟩
              by_cases ej : j = k
              · subst ej
                obtain ⟨o, mk', q1, q2, q3, q4⟩ := a4
                rw [ho] at q1; cases q1
                rw [ha] at q4; cases q4
                exact .inr (by simp [a3])
              · exact .inl ⟨j, a1, by omega, a3, a4⟩
      · exact (hn k _ (by omega) (by omega) ho hc).elim

end
end Go.Abs
