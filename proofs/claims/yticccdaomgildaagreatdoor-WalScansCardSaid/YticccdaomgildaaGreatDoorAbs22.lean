/- The abstract layer, part 22: regions that draw their order, the proof. -/
import Derived.Test.YticccdaomgildaaGreatDoorAbs21
namespace Go.Abs
open Go
set_option linter.unusedVariables false
set_option linter.unusedSimpArgs false

section
variable {P : Program} {R : Rec} {n : Nat} {ops : Array Oper} {base : Nat} {D : Nat → DS} {prs : List (Nat × Nat)} {M : Nat → Nat → Bool} {K : Kp} {ρ0 : Pm} {ds0 : List Deferred}

/-- Where we stand when the operations in X are done; the heap is the one before operation p. -/
structure Inv (P : Program) (n : Nat) (ops : Array Oper) (base : Nat) (D : Nat → DS) (M : Nat → Nat → Bool) (K : Kp) (ρ0 : Pm) (ds0 : List Deferred) (X : Nat → Bool) (p : Nat) (ρ : Pm) (a : Act) (w : World) : Prop where
  pm : p ≤ ops.size
  closed : ∀ j b, j < ops.size → X j = true → M j b = true → X b = true
  eff : ∀ e o, ops[e]? = some o → clsOf P o.op = 3 → (X e = true ↔ e < p)
  canon : (D p).pend = []
  past : p = 0 ∨ ∃ q o, p = q + 1 ∧ ops[q]? = some o ∧ clsOf P o.op = 3
  size : a.tmps.size = n
  env : ∀ x v, envAt ops D X x ops.size = some v → ∃ cv, a.tmps[x]? = some cv ∧ VR ρ v cv
  frame : Framed K ρ (D p).h w (fun id ob => ∃ j, X j = true ∧ p ≤ j ∧ j < ops.size ∧ id = base + j ∧ LaysAt P ops D j ob)
  later : ∀ j, j < ops.size → X j = false → ρ (base + j) = none
  nx : base + ops.size ≤ (D p).h.nx
  ext : Ext base ρ0 (D p).h.nx ρ
  defers : a.defers = ds0

def addX (X : Nat → Bool) (i : Nat) : Nat → Bool := fun j => X j || Nat.beq j i
theorem addX_self {X : Nat → Bool} {i : Nat} : addX X i i = true := by simp [addX]
theorem addX_ne {X : Nat → Bool} {i j : Nat} (h : j ≠ i) : addX X i j = X j := by simp [addX, nbeq, h]
theorem addX_of {X : Nat → Bool} {i j : Nat} (h : X j = true) : addX X i j = true := by simp [addX, h]

/-- An operation may come up: what it must follow is done. -/
structure Up (ops : Array Oper) (M : Nat → Nat → Bool) (X : Nat → Bool) (i : Nat) (o : Oper) : Prop where
  op : ops[i]? = some o
  no : X i = false
  pre : ∀ b, M i b = true → X b = true
  post : ∀ j, j < ops.size → X j = true → M j i = false

theorem agree (hS : Stat P ops prs M) (hst : Steps P R n ops base D) {X : Nat → Bool} {i : Nat} {o : Oper} (hU : Up ops M X i o) {x : Nat} (hx : x ∈ o.looksAt ops) : envAt ops D X x ops.size = (D i).t.get x := by
  have hi : i < ops.size := (Array.getElem?_eq_some_iff.1 hU.op).1
  rw [envAt_stop ops.size (i := i) (by omega), envAt_text hst i (by omega)]
  · intro j hj hd
    cases hoj : ops[j]? with
    | none => simp [hoj] at hd
    | some oj =>
      simp only [hoj, Option.bind_some] at hd
      rcases hS.apart j i oj o hj hoj hU.op with h1 | ⟨h1, _⟩
      · exact hU.pre j h1
      · exact absurd hx ((Oper.apart_spec h1).1 x hd)
  · intro j hj hlt hd
    by_cases e : j = i
    · rw [e]; exact hU.no
    · cases hoj : ops[j]? with
      | none => simp [hoj] at hd
      | some oj =>
        simp only [hoj, Option.bind_some] at hd
        cases hX : X j with
        | false => rfl
        | true =>
          rcases hS.apart i j o oj (by omega) hU.op hoj with h1 | ⟨h1, _⟩
          · rw [hU.post j hlt hX] at h1; cases h1
          · exact absurd hx ((Oper.apart_spec h1).2.2 x hd)

theorem env_step (hS : Stat P ops prs M) (hst : Steps P R n ops base D) {X : Nat → Bool} {i : Nat} {o : Oper} (hU : Up ops M X i o) {ρ ρ' : Pm} {a : Act} (hle : ρ.le ρ') (hsize : a.tmps.size = n)
    (henv : ∀ x v, envAt ops D X x ops.size = some v → ∃ cv, a.tmps[x]? = some cv ∧ VR ρ v cv) {v : AV} {cv : Value} (hv : VR ρ' v cv) (hd : ∀ d, o.dst = some d → d < n ∧ (D (i + 1)).t.get d = some v) :
    (a.put o.dst cv).tmps.size = n ∧ ∀ x v, envAt ops D (addX X i) x ops.size = some v → ∃ cv', (a.put o.dst cv).tmps[x]? = some cv' ∧ VR ρ' v cv' := by
  have hi : i < ops.size := (Array.getElem?_eq_some_iff.1 hU.op).1
  have hother : ∀ x, o.dst ≠ some x → envAt ops D (addX X i) x ops.size = envAt ops D X x ops.size := fun x hx =>
    envAt_congr ops.size fun j hj hdj => addX_ne fun e => by
      subst e
      rw [hU.op] at hdj
      exact hx (by simpa using hdj)
  cases hdst : o.dst with
  | none =>
    refine ⟨hsize, fun x u hu => ?_⟩
    rw [hother x (by rw [hdst]; simp)] at hu
    obtain ⟨cu, h1, h2⟩ := henv x u hu
    exact ⟨cu, h1, h2.mono hle⟩
  | some d =>
    obtain ⟨hdn, hdg⟩ := hd d hdst
    refine ⟨by simp [Act.put, hsize], fun x u hu => ?_⟩
    by_cases e : x = d
    · subst e
      refine ⟨cv, by simp [Act.put, hsize, hdn], ?_⟩
      have : envAt ops D (addX X i) x ops.size = envAt ops D (addX X i) x (i + 1) := envAt_stop ops.size (by omega) fun j hj hlt hdj => by
        have hne : j ≠ i := by omega
        rw [addX_ne hne]
        cases hoj : ops[j]? with
        | none => simp [hoj] at hdj
        | some oj =>
          simp only [hoj, Option.bind_some] at hdj
          cases hX : X j with
          | false => rfl
          | true =>
            rcases hS.apart i j o oj (by omega) hU.op hoj with h1 | ⟨h1, _⟩
            · rw [hU.post j hlt hX] at h1; cases h1
            · exact absurd hdj ((Oper.apart_spec h1).2.1 x hdst)
      rw [this] at hu
      simp only [envAt, addX_self, hU.op, Option.bind_some, hdst, and_self, if_true, hdg, Option.some.injEq] at hu
      subst hu
      exact hv
    · rw [hother x (by rw [hdst]; simpa using fun h => e h.symm)] at hu
      obtain ⟨cu, h1, h2⟩ := henv x u hu
      exact ⟨cu, by simp only [Act.put]; rw [Array.getElem?_setIfInBounds_ne (Ne.symm e)]; exact h1, h2.mono hle⟩

theorem Inv.er (hS : Stat P ops prs M) (hst : Steps P R n ops base D) {X : Nat → Bool} {i p : Nat} {o : Oper} {ρ : Pm} {a : Act} {w : World} (hI : Inv P n ops base D M K ρ0 ds0 X p ρ a w) (hU : Up ops M X i o) :
    ER ρ (restr (D i).t (o.looksAt ops) .nil) n a.tmps :=
  ⟨hI.size, fun x v hx => by
    obtain ⟨h1, h2⟩ := restr_get hx
    exact hI.env x v (by rw [agree hS hst hU h1]; exact h2)⟩

theorem Inv.closed' {X : Nat → Bool} {i p : Nat} {o : Oper} {ρ : Pm} {a : Act} {w : World} (hI : Inv P n ops base D M K ρ0 ds0 X p ρ a w) (hU : Up ops M X i o) : ∀ j b, j < ops.size → addX X i j = true → M j b = true → addX X i b = true := by
  intro j b hj hX hM
  by_cases e : j = i
  · subst e; exact addX_of (hU.pre b hM)
  · rw [addX_ne e] at hX
    exact addX_of (hI.closed j b hj hX hM)

/-- An operation that leaves the heap. -/
theorem step_low (hS : Stat P ops prs M) (hst : Steps P R n ops base D) {k : Nat} (hRec : RecOK P k R) {X : Nat → Bool} {i p : Nat} {o : Oper} {ρ : Pm} {a : Act} {w : World} (hI : Inv P n ops base D M K ρ0 ds0 X p ρ a w) (hU : Up ops M X i o)
    (hc : clsOf P o.op ≤ 1) (hev : ∃ t2, evOp1 P R n ops o (restr (D i).t (o.looksAt ops) .nil) (D p).h = some (t2, (D p).h) ∧ ∀ d, o.dst = some d → t2.get d = (D (i + 1)).t.get d)
    {cr : Option Nat} {Q : Exit → Act → World → Prop} {next : Act → World → Prop} (hn : ∀ ρ' a' w', Inv P n ops base D M K ρ0 ds0 (addX X i) p ρ' a' w' → next a' w') : wpOpIn (Wd cr) 0 P ops Q i next a w := by
  have hi : i < ops.size := (Array.getElem?_eq_some_iff.1 hU.op).1
  obtain ⟨t2, h1, h2⟩ := hev
  obtain ⟨Kx, hR, hgo⟩ := hI.frame.step fun id ob ⟨j, _, _, hj, he, _⟩ => by have := hI.nx; omega
  refine evOp1_wp hRec hR (hI.er hS hst hU) hU.op h1 fun ρ' cv v w' hE hv hR' hp => hn ρ' _ w' ?_
  obtain ⟨s1, s2⟩ := env_step hS hst hU hE.le hI.size hI.env hv fun d hd => ⟨((putA_get hp).2 d hd).1, by rw [← h2 d hd]; exact ((putA_get hp).2 d hd).2⟩
  refine ⟨hI.pm, hI.closed' hU, fun e oe he hce => ?_, hI.canon, hI.past, s1, s2, (hgo ρ' _ w' hE hR').weaken fun id ob ⟨j, q1, q2, q3, q4, q5⟩ => ?_, fun j hj hX => ?_, hI.nx, hI.ext.trans hE, ?_⟩
  · have hne : e ≠ i := fun e' => by subst e'; rw [hU.op] at he; cases he; omega
    rw [addX_ne hne]; exact hI.eff e oe he hce
  · have hne : j ≠ i := fun e' => by
      subst e'
      obtain ⟨o', mk, r1, r2, _⟩ := q5
      rw [hU.op] at r1; cases r1; omega
    rw [addX_ne hne] at q1
    exact ⟨j, q1, q2, q3, q4, q5⟩
  · have hne : j ≠ i := fun e' => by subst e'; rw [addX_self] at hX; cases hX
    rw [addX_ne hne] at hX
    rw [hE.old _ (by have := hI.nx; omega)]
    exact hI.later j hj hX
  · cases hd : o.dst <;> exact hI.defers

/-- An operation that makes a block. -/
theorem step_al (hS : Stat P ops prs M) (hst : Steps P R n ops base D) {X : Nat → Bool} {i p : Nat} {o : Oper} {ρ : Pm} {a : Act} {w : World} (hI : Inv P n ops base D M K ρ0 ds0 X p ρ a w) (hU : Up ops M X i o)
    (hc : clsOf P o.op = 2) {cr : Option Nat} {Q : Exit → Act → World → Prop} {next : Act → World → Prop} (hn : ∀ ρ' a' w', Inv P n ops base D M K ρ0 ds0 (addX X i) p ρ' a' w' → next a' w') : wpOpIn (Wd cr) 0 P ops Q i next a w := by
  have hi : i < ops.size := (Array.getElem?_eq_some_iff.1 hU.op).1
  have her := hI.er hS hst hU
  have hnone := hI.later i hi hU.no
  have hpi : p ≤ i := by
    rcases hI.past with h0 | ⟨q, oq, h0, h1, h2⟩
    · omega
    · rcases Nat.lt_trichotomy q i with h3 | h3 | h3
      · omega
      · subst h3; rw [hU.op] at h1; cases h1; omega
      · exfalso
        have hXq := (hI.eff q oq h1 h2).2 (by omega)
        rcases hS.apart i q o oq h3 hU.op h1 with h4 | ⟨_, h4⟩
        · rw [hU.post q (Array.getElem?_eq_some_iff.1 h1).1 hXq] at h4; cases h4
        · exact h4 ⟨h2, by omega⟩
  have heff : ∀ e oe, ops[e]? = some oe → clsOf P oe.op = 3 → (addX X i e = true ↔ e < p) := fun e oe he hce => by
    have hne : e ≠ i := fun e' => by subst e'; rw [hU.op] at he; cases he; omega
    rw [addX_ne hne]; exact hI.eff e oe he hce
  have hlater : ∀ (ρ' : Pm), (∀ j, j < ops.size → j ≠ i → ρ' (base + j) = ρ (base + j)) → ∀ j, j < ops.size → addX X i j = false → ρ' (base + j) = none := fun ρ' hρ j hj hX => by
    have hne : j ≠ i := fun e' => by subst e'; rw [addX_self] at hX; cases hX
    rw [addX_ne hne] at hX
    rw [hρ j hj hne]; exact hI.later j hj hX
  obtain ⟨_, ⟨hw, hp, _⟩ | ⟨ob, mk, hw, ha, hp, _⟩⟩ := drawStep_al hc (hst i o hU.op)
  · unfold wpOpIn
    simp only [hU.op]
    rw [if_neg (by rw [wantedA_sound her hw]; simp)]
    refine ⟨fun _ _ => trivial, hn ρ _ w ?_⟩
    obtain ⟨s1, s2⟩ := env_step hS hst hU (Pm.le_refl ρ) hI.size hI.env undef_VR fun d hd => (putA_get hp).2 d hd
    refine ⟨hI.pm, hI.closed' hU, heff, hI.canon, hI.past, s1, s2, hI.frame.weaken fun id ob ⟨j, q1, q2, q3, q4, q5⟩ => ?_, hlater ρ fun _ _ _ => rfl, hI.nx, hI.ext, by cases hd : o.dst <;> exact hI.defers⟩
    have hne : j ≠ i := fun e' => by
      subst e'
      obtain ⟨o', mk, r1, r2, r3, _⟩ := q5
      rw [hU.op] at r1; cases r1
      rw [hw] at r3; cases r3
    rw [addX_ne hne] at q1
    exact ⟨j, q1, q2, q3, q4, q5⟩
  · unfold wpOpIn
    simp only [hU.op]
    rw [if_pos (wantedA_sound her hw)]
    refine ⟨fun _ _ => trivial, ?_⟩
    have hnd : ∀ c, o.op ≠ .defer c := fun c hd => by rw [hd] at hc; simp [clsOf] at hc
    rw [Oper.semAt_eq _ _ _ hnd]
    obtain ⟨hown, hal⟩ := allocA_sound (P := P) (ρ := ρ) (ty := o.type) (dst := o.dst) (pos := o.pos) (after := o.after) (guard := o.guard) (opnd_sound her) ha
    obtain ⟨co, lim, cv, r1, r2⟩ := hal w
    have hle : ρ.le (ρ.put (base + i) ⟨w.heap.size, 0, lim⟩) := Pm.le_put hnone
    obtain ⟨r3, r4⟩ := r2 _ (base + i) hle (Pm.put_self _ _ _)
    have hfr := hI.frame.make (id := base + i) (by have := hI.nx; omega) hnone hown r3
    have hrun : (execOp a.eval o).run P w = .ok (.value cv) { w with heap := w.heap.push co } := r1
    rw [hrun]
    refine hn (ρ.put (base + i) ⟨w.heap.size, 0, lim⟩) _ _ ?_
    obtain ⟨s1, s2⟩ := env_step hS hst hU hle hI.size hI.env r4 fun d hd => (putA_get hp).2 d hd
    refine ⟨hI.pm, hI.closed' hU, heff, hI.canon, hI.past, s1, s2, hfr.weaken fun id ob' ⟨j, q1, q2, q3, q4, q5⟩ => ?_, hlater _ fun j hj hne => ?_, hI.nx, ⟨Pm.le_trans hI.ext.le hle, hI.ext.nx, fun id hid => ?_⟩, by cases hd : o.dst <;> exact hI.defers⟩
    · by_cases e : j = i
      · subst e
        obtain ⟨o', mk', t1, t2, t3, t4⟩ := q5
        rw [hU.op] at t1; cases t1
        rw [ha] at t4; cases t4
        exact .inr ⟨q4, rfl⟩
      · rw [addX_ne e] at q1
        exact .inl ⟨j, q1, q2, q3, q4, q5⟩
    · have : base + j ≠ base + i := by omega
      simp only [Pm.put, if_neg this]
    · have : id ≠ base + i := by omega
      simp only [Pm.put, if_neg this]
      exact hI.ext.old id hid

/-- An operation that may do anything. -/
theorem step_eff (hS : Stat P ops prs M) (hst : Steps P R n ops base D) {k : Nat} (hRec : RecOK P k R) {X : Nat → Bool} {i p : Nat} {o : Oper} {ρ : Pm} {a : Act} {w : World} (hI : Inv P n ops base D M K ρ0 ds0 X p ρ a w) (hU : Up ops M X i o)
    (hc : clsOf P o.op = 3) {cr : Option Nat} {Q : Exit → Act → World → Prop} {next : Act → World → Prop} (hn : ∀ ρ' a' w', Inv P n ops base D M K ρ0 ds0 (addX X i) (i + 1) ρ' a' w' → next a' w') : wpOpIn (Wd cr) 0 P ops Q i next a w := by
  have hi : i < ops.size := (Array.getElem?_eq_some_iff.1 hU.op).1
  have hpi : p ≤ i := by
    rcases Nat.lt_or_ge i p with h1 | h1
    · have := (hI.eff i o hU.op hc).2 h1
      rw [hU.no] at this; cases this
    · exact h1
  have hall : ∀ e oe, e < i → ops[e]? = some oe → 2 ≤ clsOf P oe.op → X e = true := fun e oe he hoe hce => by
    rcases hS.apart e i oe o he hoe hU.op with h1 | ⟨_, h1⟩
    · exact hU.pre e h1
    · exact (h1 ⟨hc, hce⟩).elim
  have hno : ∀ e oe, p ≤ e → e < i → ops[e]? = some oe → clsOf P oe.op ≠ 3 := fun e oe h1 h2 h3 h4 => by
    have := (hI.eff e oe h3 h4).1 (hall e oe h2 h3 (by omega))
    omega
  have hheap := heap_same hst i hpi (by omega) hno
  obtain ⟨hnd, hmem⟩ := pend_spec hst hI.canon i hpi (by omega) hno
  obtain ⟨t', h1, h2, h3⟩ := drawStep_eff hc (hst i o hU.op)
  rw [hheap] at h1
  have hF := hI.frame.absorbL (D i).pend hnd fun id ob hm => by
    obtain ⟨j, q1, q2, q3, q4⟩ := (hmem id ob).1 hm
    have q4' := q4
    obtain ⟨oj, mk, t1, t2, _⟩ := q4'
    exact ⟨j, hall j oj q2 t1 (by omega), q1, by omega, q3, q4⟩
  obtain ⟨Kx, hR, hgo⟩ := hF.step fun id ob ⟨⟨j, _, _, hj, he, _⟩, _⟩ => by rw [absorb_nx]; have := hI.nx; omega
  refine evOp1_wp hRec hR (hI.er hS hst hU) hU.op h1 fun ρ' cv v w' hE hv hR' hp => hn ρ' _ w' ?_
  have hback : ∀ d, o.dst = some d → (D (i + 1)).t.get d = t'.get d := fun d hd => by rw [h2]; exact backA_get.2 d hd
  obtain ⟨s1, s2⟩ := env_step hS hst hU hE.le hI.size hI.env hv fun d hd => ⟨((putA_get hp).2 d hd).1, by rw [hback d hd]; exact ((putA_get hp).2 d hd).2⟩
  have hnx := hE.nx
  rw [absorb_nx] at hnx
  refine ⟨by omega, hI.closed' hU, fun e oe he hce => ?_, h3, .inr ⟨i, o, rfl, hU.op, hc⟩, s1, s2, (hgo ρ' _ w' hE hR').weaken fun id ob ⟨j, q1, q2, q3, q4, q5⟩ => ?_, fun j hj hX => ?_, by have := hI.nx; omega, hI.ext.trans ?_, by cases hd : o.dst <;> exact hI.defers⟩
  · by_cases e' : e = i
    · subst e'; simp [addX_self]
    · rw [addX_ne e']
      constructor
      · intro hX
        have := (hI.eff e oe he hce).1 hX
        omega
      · intro hlt
        exact hall e oe (by omega) he (by omega)
  · have hne : j ≠ i := by omega
    rw [addX_ne hne] at q1
    refine ⟨⟨j, q1, by omega, q3, q4, q5⟩, fun ob' hm => ?_⟩
    obtain ⟨j', r1, r2, r3, _⟩ := (hmem id ob').1 hm
    omega
  · have hne : j ≠ i := fun e' => by subst e'; rw [addX_self] at hX; cases hX
    rw [addX_ne hne] at hX
    rw [hE.old _ (by rw [absorb_nx]; have := hI.nx; omega)]
    exact hI.later j hj hX
  · rw [absorb_nx] at hE; exact hE

/-- All is done. -/
theorem Inv.done (hst : Steps P R n ops base D) {X : Nat → Bool} {p : Nat} {ρ : Pm} {a : Act} {w : World} (hI : Inv P n ops base D M K ρ0 ds0 X p ρ a w) (hX : ∀ j, j < ops.size → X j = true) :
    ∃ ρ', Ext base ρ0 (absorb (D ops.size).pend (D ops.size).h).nx ρ' ∧ Rel K ρ' (absorb (D ops.size).pend (D ops.size).h) w ∧ ER ρ' (D ops.size).t n a.tmps := by
  have hno : ∀ e oe, p ≤ e → e < ops.size → ops[e]? = some oe → clsOf P oe.op ≠ 3 := fun e oe h1 h2 h3 h4 => by
    have := (hI.eff e oe h3 h4).1 (hX e h2)
    omega
  have hheap := heap_same hst ops.size hI.pm (Nat.le_refl _) hno
  obtain ⟨hnd, hmem⟩ := pend_spec hst hI.canon ops.size hI.pm (Nat.le_refl _) hno
  have hF := hI.frame.absorbL (D ops.size).pend hnd fun id ob hm => by
    obtain ⟨j, q1, q2, q3, q4⟩ := (hmem id ob).1 hm
    exact ⟨j, hX j q2, q1, q2, q3, q4⟩
  refine ⟨ρ, by rw [absorb_nx, hheap]; exact hI.ext, by rw [hheap]; exact hF.rel, hI.size, fun x v hx => hI.env x v ?_⟩
  rw [envAt_text hst ops.size (Nat.le_refl _) fun j hj _ => hX j hj]
  exact hx

end
end Go.Abs
