/- The abstract layer, part 16: code, rounds, calls. -/
import Derived.Test.YticccdaomgildaaGreatDoorAbs15
namespace Go.Abs
open Go
set_option linter.unusedVariables false
set_option linter.unusedSimpArgs false

section
variable {P : Program} {K : Kp}

/-- What is asked of a region that draws its order. -/
def DrawOK (P : Program) (R : Rec) : Prop :=
  ∀ (K : Kp) (ρ : Pm) (w : World) (a : Act) (cr : Option Nat) (n : Nat) (ops : Array Oper) (t t' : Env) (h h' : AH) (l : List Nat) (T : Nat) (Q : Exit → Act → World → Prop),
    Rel K ρ h w → ER ρ t n a.tmps → evDraw P R n ops t h = some (t', h') →
    (∀ ρ' a' w', Ext h.nx ρ h'.nx ρ' → Rel K ρ' h' w' → ER ρ' t' n a'.tmps → a'.defers = a.defers → Q .normal a' w') →
    wpOpsIn (Wd cr) 0 P ops Q (Region.schedule (P.follows .mixedOrders) ops T) a w

theorem roundIn_any {F : Fence} {n l' : Nat} {l : Nat} {f : FuncId} {tmps : Array Value} {assign body : Code} {w : World} {R : Ending → World → Prop} (hh : RoundIn (F.inRound l') n P l f tmps assign body w R) : RoundIn F n P l f tmps assign body w R := hh

theorem callsIn_any {n : Nat} {f : FuncId} {args : Array Value} {w : World} {R : Ending → World → Prop} {r : Option Nat} (hh : CallsIn Fence.wide n P f args w R) : CallsIn (Wd r) n P f args w R := hh

theorem bodied_spec {f : FuncId} (hb : bodied P f = true) : ∃ fn c, P.funcs[f]? = some fn ∧ fn.body = some c ∧ (fn.name == "runtime.NumGoroutine") = false := by
  unfold bodied at hb
  split at hb
  · rename_i fn hf
    simp only [Bool.and_eq_true, Bool.not_eq_true'] at hb
    cases hc : fn.body with
    | none => simp [hc] at hb
    | some c => exact ⟨fn, c, hf, hc, hb.2⟩
  · simp at hb

theorem callFunc_bodied {f : FuncId} (hb : bodied P f = true) (args : Array Value) (w : World) : (callFunc f args).run P w = .ok (.enter f args) w := by
  obtain ⟨fn, c, hf, hc, hn⟩ := bodied_spec hb
  unfold callFunc
  simp only [Sem.run_bind, run_program, Result.andThen_ok, hf, hn, Bool.false_eq_true, if_false, hc, Option.isNone_some, Sem.run_pure]

theorem getLoop_run {ρ : Pm} {h : AH} {w : World} {l : Nat} {p : Pl} {st : LoopState} {pend : Option Code} {fn : FuncId} {t : Env} {n : Nat} {ps : Array Tmp} {assign body : Code} {d : Nat} (hR : Rel K ρ h w) (hp : ρ l = some p)
    (hg : h.get l = some (.loop st pend fn t n ps assign body d)) :
    ∃ tmps pd fnc, w.heap[p.b]? = some (.loop { state := st, pending := pend, fn := fnc, tmps, params := ps, assign, body, defers := pd }) ∧ ER ρ t n tmps ∧ (∃ q, ρ d = some q ∧ q.b = pd) ∧
      (Instr.getLoop p.b).run P w = .ok { state := st, pending := pend, fn := fnc, tmps, params := ps, assign, body, defers := pd } w := by
  obtain ⟨q, hq, ⟨tmps, pd, fnc, h1, h2, h3⟩, _⟩ := hR.obj l _ hg
  rw [hp] at hq; cases hq
  refine ⟨tmps, pd, fnc, h1, h2, h3, ?_⟩
  unfold Instr.getLoop
  simp only [Sem.run_bind, run_getObj' h1 (fun _ _ _ hc => by cases hc), Result.andThen_ok, Sem.run_pure]

/-- The record of a loop over a function is laid. -/
theorem loopHead_sound {ρ : Pm} {w : World} {a : Act} {r cr : Option Nat} {n : Nat} {s : St} {fn fnc : FuncId} {ps : Array Tmp} {assign body : Code} {d : Nat} {h1 : AH} {ds : List Nat} (hr : RR ρ r cr) (hR : Rel K ρ s.h w) (he : ER ρ s.t n a.tmps) (hd : DR ρ s.d a.defers)
    (hb : loopHead r s = some (d, h1, ds)) :
    ∃ ρ' l mark w1, Ext s.h.nx ρ (h1.nx + 1) ρ' ∧ (Instr.enterLoop fnc a.tmps ps assign body cr).run P w = .ok (l, mark) w1 ∧ Rel K ρ' (h1.new (.loop .ready none fn s.t n ps assign body d)) w1 ∧ (∃ p, ρ' h1.nx = some p ∧ p.b = l) ∧ DR ρ' ds (mark ++ a.defers) := by
  cases r with
  | none =>
    cases cr with
    | some c => exact hr.elim
    | none =>
    simp only [loopHead, Prod.mk.injEq, Option.some.injEq] at hb
    obtain ⟨rfl, rfl, rfl⟩ := hb
    obtain ⟨hR1, hle1⟩ := hR.push (o := .defs true) (co := .deferred (some [])) (lim := 0) rfl rfl
    obtain ⟨hR2, hle2⟩ := hR1.push (o := .loop .ready none fn s.t n ps assign body s.h.nx) (co := .loop { state := .ready, pending := none, fn := fnc, tmps := a.tmps, params := ps, assign, body, defers := w.heap.size }) (lim := 0) rfl
      ⟨a.tmps, w.heap.size, fnc, rfl, he.mono (Pm.le_trans hle1.le (Pm.le_put (hR1.fresh _ (Nat.le_refl _)))), ⟨w.heap.size, 0, 0⟩, Pm.le_put (hR1.fresh _ (Nat.le_refl _)) _ _ (Pm.put_self _ _ _), rfl⟩
    refine ⟨_, (w.heap.push (.deferred (some []))).size, [{ target := .collected w.heap.size, args := #[] }], _, hle1.trans hle2, ?_, hR2, ⟨_, Pm.put_self _ _ _, rfl⟩, ?_⟩
    · unfold Instr.enterLoop
      simp only [Sem.run_bind, run_newObj, Result.andThen_ok, Sem.run_pure]
    · exact And.intro ⟨⟨w.heap.size, 0, 0⟩, hle2.le _ _ (Pm.put_self _ _ _), rfl⟩ (hd.mono (Pm.le_trans hle1.le hle2.le))
  | some l0 =>
    cases cr with
    | none => exact hr.elim
    | some c =>
    obtain ⟨p0, hp0, rfl⟩ := hr
    simp only [loopHead] at hb
    split at hb
    · rename_i st pend fn0 t0 n0 ps0 as0 bd0 d0 hg
      simp only [Option.some.injEq, Prod.mk.injEq] at hb
      obtain ⟨rfl, rfl, rfl⟩ := hb
      obtain ⟨tmps0, pd, fnc0, hh, he0, ⟨q, hq, hqb⟩, hrun⟩ := getLoop_run (P := P) hR hp0 hg
      obtain ⟨hR2, hle2⟩ := hR.push (o := .loop .ready none fn s.t n ps assign body d0) (co := .loop { state := .ready, pending := none, fn := fnc, tmps := a.tmps, params := ps, assign, body, defers := pd }) (lim := 0) rfl
        ⟨a.tmps, pd, fnc, rfl, he.mono (Pm.le_put (hR.fresh _ (Nat.le_refl _))), q, Pm.le_put (hR.fresh _ (Nat.le_refl _)) _ _ hq, hqb⟩
      refine ⟨_, w.heap.size, [], _, hle2, ?_, hR2, ⟨_, Pm.put_self _ _ _, rfl⟩, hd.mono hle2.le⟩
      unfold Instr.enterLoop
      simp only [Sem.run_bind, hrun, run_newObj, Result.andThen_ok, Sem.run_pure]
    · simp at hb

section
variable {b : Frame} {a : Act} {k : List Item} {cs : List Frame} {w : World} {c : Code} {F : Fence} {Q : Exit → Act → World → Prop}
theorem stepR_scope : step P (lone (b.atR a (.code (.scope c) :: k)) cs w) = .next (lone (b.atR a (.code c :: .inScope c :: k)) cs w) :=
  step_lone_go (by simp [stepG, stepG.exec, Frame.atR])
theorem stepR_inScope : step P (lone (b.atR a (.inScope c :: k)) cs w) = .next (lone (b.atR a k) cs w) :=
  step_lone_go (by simp [stepG, stepG.exec, Frame.atR])
/-- A scope through which the run goes without a jump to a label. -/
theorem wpIn_scope_on {n : Nat} (h : c.wpIn F n P (fun e a w => (∀ l, e ≠ .goto l) ∧ Q e a w) a w) : (Code.scope c).wpIn F n P Q a w := by
  intro b k cs hro hb hr
  have h0 : (lone (b.atR a (.code (.scope c) :: k)) cs w).fenced P F := fenced_calm hb hr rfl
  obtain ⟨e, a₁, w₁, ⟨hg, hq⟩, harr⟩ := h b (.inScope c :: k) cs hro hb hr
  cases e with
  | normal => exact ⟨.normal, a₁, w₁, hq, .head h0 stepR_scope (StepsIn.trans harr (.one (fenced_calm hb hr rfl) stepR_inScope))⟩
  | exit id =>
    have hx : exitTo id (.inScope c :: k) = exitTo id k := by simp [exitTo]
    exact ⟨.exit id, a₁, w₁, hq, fun k' hk => .head h0 stepR_scope (harr.1 k' (by rw [hx]; exact hk)),
      fun hr' hk => let ⟨k₁, h1, h2⟩ := harr.2 hr' (by rw [hx]; exact hk); ⟨k₁, h1, .head h0 stepR_scope h2⟩⟩
  | goto l => exact absurd rfl (hg l)
  | ret => exact ⟨_, a₁, w₁, hq, .of_steps (.one h0 stepR_scope) harr⟩
  | panic ch => exact ⟨_, a₁, w₁, hq, .of_steps (.one h0 stepR_scope) harr⟩
  | outgrown => exact ⟨_, a₁, w₁, hq, .of_steps (.one h0 stepR_scope) harr⟩
end

/-- Code. -/
theorem evCode_wp {R : Rec} {k : Nat} (hRec : RecOK P k R) (hDraw : DrawOK P R) {r cr : Option Nat} {fn n : Nat} : ∀ (c : Code) (ρ : Pm) (s s' : St) (ex : Ex) (a : Act) (w : World), RR ρ r cr → Rel K ρ s.h w → ER ρ s.t n a.tmps → DR ρ s.d a.defers →
    evCode P R r fn n c s = some (ex, s') → c.wpIn (Wd cr) 0 P (CodePost K s.h.nx ρ n ex s') a w := by
  intro c
  induction c with
  | skip =>
    intro ρ s s' ex a w hr hR he hd hb
    simp only [evCode, Option.some.injEq, Prod.mk.injEq] at hb
    obtain ⟨rfl, rfl⟩ := hb
    exact wpIn_skip ⟨ρ, Ext.refl _ _, trivial, hR, he, hd⟩
  | label l =>
    intro ρ s s' ex a w hr hR he hd hb
    simp only [evCode, Option.some.injEq, Prod.mk.injEq] at hb
    obtain ⟨rfl, rfl⟩ := hb
    exact wpIn_label ⟨ρ, Ext.refl _ _, trivial, hR, he, hd⟩
  | region id ops draw =>
    intro ρ s s' ex a w hr hR he hd hb
    cases draw with
    | false =>
      simp only [evCode] at hb
      cases h1 : evOps P R n ops ops.toList s.t s.h with
      | none => simp [h1] at hb
      | some th =>
        obtain ⟨t, h⟩ := th
        simp only [h1, Option.some.injEq, Prod.mk.injEq] at hb
        obtain ⟨rfl, rfl⟩ := hb
        refine wpIn_region ?_
        have := evOps_wp (cr := cr) (Q := CodePost K s.h.nx ρ n .normal { s with t, h }) hRec ops.toList 0 ρ s.t s.h a w (fun j => by simp) hR he h1 (fun ρ' a' w' hle hr' he' hd' => ⟨ρ', hle, trivial, hr', he', by rw [hd']; exact hd.mono hle.le⟩)
        rw [List.range_eq_range']
        simpa using this
    | true =>
      simp only [evCode] at hb
      cases h1 : evDraw P R n ops s.t s.h with
      | none => simp [h1] at hb
      | some th =>
        obtain ⟨t, h⟩ := th
        simp only [h1, Option.some.injEq, Prod.mk.injEq] at hb
        obtain ⟨rfl, rfl⟩ := hb
        refine wpIn_region_draw fun T => ?_
        exact hDraw K ρ _ a cr n ops s.t t s.h h [] T _ (hR.drawn _) he h1 (fun ρ' a' w' hle hr' he' hd' => ⟨ρ', hle, trivial, hr', he', by rw [hd']; exact hd.mono hle.le⟩)
  | seq x y ihx ihy =>
    intro ρ s s' ex a w hr hR he hd hb
    simp only [evCode] at hb
    cases h1 : evCode P R r fn n x s with
    | none => simp [h1] at hb
    | some es =>
      obtain ⟨e1, s1⟩ := es
      refine wpIn_seq (wpIn_mono (ihx ρ s s1 e1 a w hr hR he hd h1) fun e a1 w1 hp => ?_)
      obtain ⟨ρ1, hle, hex, hR1, he1, hd1⟩ := hp
      cases e1 with
      | normal =>
        simp only [h1] at hb
        cases e <;> simp only [ExR] at hex
        refine wpIn_mono (ihy ρ1 s1 s' ex a1 w1 (hr.mono hle.le) hR1 he1 hd1 hb) fun e2 a2 w2 hp2 => ?_
        obtain ⟨ρ2, hle2, rest⟩ := hp2
        exact ⟨ρ2, hle.trans hle2, rest⟩
      | exit i =>
        simp only [h1, Option.some.injEq, Prod.mk.injEq] at hb
        obtain ⟨rfl, rfl⟩ := hb
        cases e <;> simp only [ExR] at hex
        exact ⟨ρ1, hle, hex, hR1, he1, hd1⟩
      | ret =>
        simp only [h1, Option.some.injEq, Prod.mk.injEq] at hb
        obtain ⟨rfl, rfl⟩ := hb
        cases e <;> simp only [ExR] at hex
        exact ⟨ρ1, hle, trivial, hR1, he1, hd1⟩
  | cond x c1 c2 ih1 ih2 =>
    intro ρ s s' ex a w hr hR he hd hb
    simp only [evCode] at hb
    have hx := opnd_sound he x
    split at hb
    · rename_i t heq
      rw [heq] at hx
      generalize hcx : a.eval x = cx at hx
      cases hx
      refine wpIn_cond hcx ?_
      cases t with
      | true => exact ih1 ρ s s' ex a w hr hR he hd hb
      | false => exact ih2 ρ s s' ex a w hr hR he hd hb
    · simp at hb
  | block id c ih =>
    intro ρ s s' ex a w hr hR he hd hb
    simp only [evCode] at hb
    cases h1 : evCode P R r fn n c s with
    | none => simp [h1] at hb
    | some es =>
      obtain ⟨e1, s1⟩ := es
      refine wpIn_block (wpIn_mono (ih ρ s s1 e1 a w hr hR he hd h1) fun e a1 w1 hp => ?_)
      obtain ⟨ρ1, hle, hex, hR1, he1, hd1⟩ := hp
      cases e1 with
      | normal =>
        simp only [h1, Option.some.injEq, Prod.mk.injEq] at hb
        obtain ⟨rfl, rfl⟩ := hb
        cases e <;> simp only [ExR] at hex
        exact ⟨ρ1, hle, trivial, hR1, he1, hd1⟩
      | exit i =>
        simp only [h1, Option.some.injEq, Prod.mk.injEq, nbeq] at hb
        obtain ⟨rfl, rfl⟩ := hb
        cases e <;> simp only [ExR] at hex
        rename_i j
        subst hex
        simp only [Exit.inBlock]
        by_cases hij : i = id
        · simp only [hij, if_true, decide_true, cond_true]
          exact ⟨ρ1, hle, trivial, hR1, he1, hd1⟩
        · simp only [hij, if_false, decide_false, cond_false]
          exact ⟨ρ1, hle, rfl, hR1, he1, hd1⟩
      | ret =>
        simp only [h1, Option.some.injEq, Prod.mk.injEq] at hb
        obtain ⟨rfl, rfl⟩ := hb
        cases e <;> simp only [ExR] at hex
        exact ⟨ρ1, hle, trivial, hR1, he1, hd1⟩
  | loop c ih =>
    intro ρ s s' ex a w hr hR he hd hb
    simp only [evCode] at hb
    exact wpIn_loop_rounds k (hRec.loop K ρ w a r cr fn n c s s' ex hr hR he hd hb)
  | exit id =>
    intro ρ s s' ex a w hr hR he hd hb
    simp only [evCode, Option.some.injEq, Prod.mk.injEq] at hb
    obtain ⟨rfl, rfl⟩ := hb
    exact wpIn_exit ⟨ρ, Ext.refl _ _, rfl, hR, he, hd⟩
  | ret =>
    intro ρ s s' ex a w hr hR he hd hb
    simp only [evCode, Option.some.injEq, Prod.mk.injEq] at hb
    obtain ⟨rfl, rfl⟩ := hb
    exact wpIn_ret ⟨ρ, Ext.refl _ _, trivial, hR, he, hd⟩
  | scope c ih =>
    intro ρ s s' ex a w hr hR he hd hb
    simp only [evCode] at hb
    refine wpIn_scope_on (wpIn_mono (ih ρ s s' ex a w hr hR he hd hb) fun e a1 w1 hp => ?_)
    refine ⟨?_, hp⟩
    obtain ⟨ρ1, hle, hex, hR1, he1, hd1⟩ := hp
    intro l hl
    subst hl
    cases ex <;> exact hex
  | goto l => intro ρ s s' ex a w hr hR he hd hb; simp [evCode] at hb
  | refuse w => intro ρ s s' ex a w hr hR he hd hb; simp [evCode] at hb
  | rangeFunc g ps assign body ih1 ih2 =>
    intro ρ s s' ex a w hr hR he hd hb
    simp only [evCode] at hb
    cases hhead : loopHead r s with
    | none => simp [hhead] at hb
    | some tr =>
    obtain ⟨d, h1, ds⟩ := tr
    simp only [hhead] at hb
    split at hb
    · rename_i f first captured hfe
      split at hb
      · rename_i hbod
        cases hcall : R.call f (first ++ [.yld h1.nx] ++ captured) (h1.new (.loop .ready none fn s.t n ps assign body d)) with
        | none => rw [hcall] at hb; cases hb
        | some vh =>
          obtain ⟨v, h3⟩ := vh
          rw [hcall] at hb
          simp only at hb
          refine wpIn_rangeFunc fun fnc _ => ?_
          obtain ⟨ρ1, l, mark, w1, hle1, hent, hR1, ⟨pl, hpl, hplb⟩, hDR⟩ := loopHead_sound (fnc := fnc) (fn := fn) (ps := ps) (assign := assign) (body := body) hr hR he hd hhead
          have hgv := (opnd_sound he g).mono hle1.le
          rw [hfe] at hgv
          generalize hcg : a.eval g = cg at hgv
          cases hgv with
          | func _ hl hm =>
          rename_i cfirst ccap _
          subst hplb
          have hargs : VRs ρ1 (first ++ [.yld h1.nx] ++ captured) ((cfirst ++ #[Value.func (.yield pl.b) #[] #[]]) ++ ccap).toList := by
            rw [Array.toList_append, Array.toList_append]
            exact (hl.append (.cons (.yld hpl) .nil)).append hm
          obtain ⟨nx, w2, hrun, hmm⟩ := hRec.call K ρ1 _ w1 f _ _ v h3 hR1 hargs hcall
          rw [callFunc_bodied hbod] at hrun
          cases hrun
          simp only at hmm
          refine ⟨pl.b, mark, w1, { target := .fn (.func f) ccap, args := cfirst ++ #[Value.func (.yield pl.b) #[] #[]] }, w1, f, _, w1, hent, ?_, fun _ _ => trivial, callFunc_bodied hbod _ w1, (fun hd => by cases hd), ?_⟩
          · simp only [resolve, rangeCall, Sem.run_bind, hcg, Deferred.ofValue, Sem.run_pure, Result.andThen_ok]
            simp [Act.eval]
          · refine CallsIn.mono (callsIn_any hmm) fun e w3 hpost => ?_
            obtain ⟨cv, rfl, ρ3, hle3, _, hR3⟩ := hpost
            have hpl3 := hle3.le _ _ hpl
            have hle := hle1.trans hle3
            unfold loopTail at hb
            split at hb
            · simp at hb
            · rename_i st pend fn' t' n' ps' a' b' d' hst hg3
              have hst : st ≠ .busy := hst
              obtain ⟨tmps3, pd3, fnc3, hh3, he3, hd3, hget3⟩ := getLoop_run (P := P) hR3 hpl3 hg3
              have hend : (Instr.endLoop pl.b).run P w3 = .ok pend { w3 with heap := w3.heap.setIfInBounds pl.b (.loop { state := .exhausted, pending := pend, fn := fnc3, tmps := tmps3, params := ps', assign := a', body := b', defers := pd3 }) } := by
                unfold Instr.endLoop
                have hnb : (st == LoopState.busy) = false := by cases st <;> first | rfl | exact absurd rfl hst
                simp only [Sem.run_bind, hget3, Result.andThen_ok, hnb, Bool.false_eq_true, if_false, run_setObj' hh3 (fun _ _ _ hc => by cases hc), Sem.run_pure]
              have hR4 := hR3.setObj hg3 hpl3 rfl rfl (o' := .loop .exhausted pend fn' t' n' ps' a' b' d') (co' := .loop { state := .exhausted, pending := pend, fn := fnc3, tmps := tmps3, params := ps', assign := a', body := b', defers := pd3 }) ⟨tmps3, pd3, fnc3, rfl, he3, hd3⟩
              refine ⟨pend, _, hend, ?_⟩
              simp only at hb
              split at hb
              · simp only [Option.some.injEq, Prod.mk.injEq] at hb
                obtain ⟨rfl, rfl⟩ := hb
                exact ⟨ρ3, hle, trivial, hR4, he.mono hle.le, hDR.mono hle3.le⟩
              · simp only [Option.some.injEq, Prod.mk.injEq] at hb
                obtain ⟨rfl, rfl⟩ := hb
                exact wpIn_ret ⟨ρ3, hle, trivial, hR4, he.mono hle.le, hDR.mono hle3.le⟩
              · simp only [Option.some.injEq, Prod.mk.injEq] at hb
                obtain ⟨rfl, rfl⟩ := hb
                exact wpIn_exit ⟨ρ3, hle, rfl, hR4, he.mono hle.le, hDR.mono hle3.le⟩
              · simp at hb
            · simp at hb
      · simp at hb
    · simp at hb

/-! ### Rounds -/
theorem setArgs_sound {ρ : Pm} : ∀ (ps : List Tmp) (as : List AV) (cas : List Value) (n : Nat) (t t' : Env) (tmps : Array Value), ER ρ t n tmps → VRs ρ as cas → setArgs ps as n t = some t' →
    ps.length = as.length ∧ ER ρ t' n ((ps.zip cas).foldl (fun tmps (x : Tmp × Value) => tmps.setIfInBounds x.1 x.2) tmps)
  | [], [], cas, n, t, t', tmps, he, hv, hb => by
    simp only [setArgs, Option.some.injEq] at hb; subst hb
    exact ⟨rfl, by simpa using he⟩
  | p :: ps, a :: as, cas, n, t, t', tmps, he, hv, hb => by
    cases hv with
    | cons h1 h2 =>
    simp only [setArgs] at hb
    split at hb
    · rename_i hlt
      obtain ⟨e1, e2⟩ := setArgs_sound ps as _ n _ t' _ (he.set hlt h1) h2 hb
      exact ⟨by simp [e1], by simpa using e2⟩
    · simp at hb
  | [], _ :: _, _, _, _, _, _, _, _, hb => by simp [setArgs] at hb
  | _ :: _, [], _, _, _, _, _, _, _, hb => by simp [setArgs] at hb

theorem evRound_ok {R : Rec} {k : Nat} (hRec : RecOK P k R) (hDraw : DrawOK P R) {ρ : Pm} {h : AH} {w : World} {id : Nat} {p : Pl} {args : List AV} {cargs : Array Value} {v : AV} {h' : AH} (hp : ρ id = some p) (hR : Rel K ρ h w) (hargs : VRs ρ args cargs.toList)
    (hb : evRound P R id args h = some (v, h')) : RoundRes P p.b cargs w (CallPost K h ρ v h') := by
  unfold evRound at hb
  split at hb
  · rename_i st pend fn t n ps assign body d hg
    obtain ⟨tmps, pd, fnc, hh, he, hd, hget⟩ := getLoop_run (P := P) hR hp hg
    cases hsa : setArgs ps.toList args n t with
    | none => simp [hsa] at hb
    | some t' =>
      simp only [hsa] at hb
      obtain ⟨hlen, he'⟩ := setArgs_sound ps.toList args cargs.toList n t t' tmps he hargs hsa
      have hsz : cargs.size = ps.size := by have := hargs.length; simp at hlen this; omega
      have hfold : (ps.zip cargs).foldl (fun tmps (x : Tmp × Value) => tmps.setIfInBounds x.1 x.2) tmps = (ps.toList.zip cargs.toList).foldl (fun tmps (x : Tmp × Value) => tmps.setIfInBounds x.1 x.2) tmps := by
        rw [← Array.foldl_toList, Array.toList_zip]
      refine ⟨fnc, (ps.zip cargs).foldl (fun tmps (x : Tmp × Value) => tmps.setIfInBounds x.1 x.2) tmps, assign, body, w, ?_, ?_⟩
      · unfold Instr.yield
        simp only [Sem.run_bind, hget, Result.andThen_ok, hsz, ne_eq, not_true, if_false, Sem.run_pure]
      · rw [hfold]
        split at hb
        · rename_i s1 h1
          split at hb
          · rename_i pend1 fn1 t1 n1 ps1 as1 bd1 d1 hg1
            split at hb
            · rename_i ex s2 h2
              split at hb
              · rename_i st2 pend2 fn2 t2 n2 ps2 as2 bd2 d2 hg2
                refine roundIn_of_wpIn trivial ?_
                have hassign := evCode_wp (r := some id) (cr := some p.b) hRec hDraw assign ρ { t := t', h, d := [] } s1 .normal { tmps := (ps.toList.zip cargs.toList).foldl (fun tmps (x : Tmp × Value) => tmps.setIfInBounds x.1 x.2) tmps, defers := [] } w ⟨p, hp, rfl⟩ hR he' trivial h1
                refine wpIn_mono (F := Wd (some p.b)) hassign fun e a1 w1 hpost => ?_
                obtain ⟨ρ1, hle1, hex, hR1, he1, hd1⟩ := hpost
                cases e <;> simp only [ExR] at hex
                have hp1 := hle1.le _ _ hp
                obtain ⟨tmps1, pd1, fnc1, hh1, he11, hd11, hget1⟩ := getLoop_run (P := P) hR1 hp1 hg1
                have hR1' := hR1.setObj hg1 hp1 rfl rfl (o' := .loop .busy pend1 fn1 t1 n1 ps1 as1 bd1 d1) (co' := .loop { state := .busy, pending := pend1, fn := fnc1, tmps := tmps1, params := ps1, assign := as1, body := bd1, defers := pd1 }) ⟨tmps1, pd1, fnc1, rfl, he11, hd11⟩
                refine ⟨{ w1 with heap := w1.heap.setIfInBounds p.b (.loop { state := .busy, pending := pend1, fn := fnc1, tmps := tmps1, params := ps1, assign := as1, body := bd1, defers := pd1 }) }, ?_, ?_⟩
                · unfold Instr.beginRound
                  simp only [Sem.run_bind, hget1, Result.andThen_ok, run_setObj' hh1 (fun _ _ _ hc => by cases hc), Sem.run_pure]
                have hbody := evCode_wp (r := some id) (cr := some p.b) hRec hDraw body ρ1 { s1 with h := s1.h.put id (.loop .busy pend1 fn1 t1 n1 ps1 as1 bd1 d1) } s2 ex a1 _ ⟨p, hp1, rfl⟩ hR1' he1 hd1 h2
                refine wpIn_mono (F := Wd (some p.b)) hbody fun e a2 w2 hpost2 => ?_
                obtain ⟨ρ2, hle2, hex2, hR2, he2, hd2⟩ := hpost2
                have hp2 := hle2.le _ _ hp1
                obtain ⟨tmps2, pd2, fnc2, hh2, he22, hd22, hget2⟩ := getLoop_run (P := P) hR2 hp2 hg2
                have hle := hle1.trans hle2
                have hend : ∀ (j : Option Code), ∃ w3, (Instr.endRound p.b j).run P w2 = .ok (.bool j.isNone) w3 ∧ Rel K ρ2 (s2.h.put id (.loop (if j.isNone then .ready else .done) j fn2 t2 n2 ps2 as2 bd2 d2)) w3 := by
                  intro j
                  refine ⟨_, ?_, hR2.setObj hg2 hp2 rfl rfl (o' := .loop (if j.isNone then .ready else .done) j fn2 t2 n2 ps2 as2 bd2 d2) (co' := .loop { state := if j.isNone then .ready else .done, pending := j, fn := fnc2, tmps := tmps2, params := ps2, assign := as2, body := bd2, defers := pd2 }) ⟨tmps2, pd2, fnc2, rfl, he22, hd22⟩⟩
                  unfold Instr.endRound
                  simp only [Sem.run_bind, hget2, Result.andThen_ok, run_setObj' hh2 (fun _ _ _ hc => by cases hc), Sem.run_pure]
                cases ex with
                | normal =>
                  simp only [Option.some.injEq, Prod.mk.injEq] at hb
                  obtain ⟨rfl, rfl⟩ := hb
                  cases e <;> simp only [ExR] at hex2
                  obtain ⟨w3, q1, q2⟩ := hend none
                  exact ⟨_, w3, q1, _, rfl, ρ2, hle, .bool _, q2⟩
                | ret =>
                  simp only [Option.some.injEq, Prod.mk.injEq] at hb
                  obtain ⟨rfl, rfl⟩ := hb
                  cases e <;> simp only [ExR] at hex2
                  obtain ⟨w3, q1, q2⟩ := hend (some .ret)
                  exact ⟨_, w3, q1, _, rfl, ρ2, hle, .bool _, q2⟩
                | exit i =>
                  simp only [Option.some.injEq, Prod.mk.injEq] at hb
                  obtain ⟨rfl, rfl⟩ := hb
                  cases e <;> simp only [ExR] at hex2
                  subst hex2
                  obtain ⟨w3, q1, q2⟩ := hend (some (.exit i))
                  exact ⟨_, w3, q1, _, rfl, ρ2, hle, .bool _, q2⟩
              · simp at hb
            · simp at hb
          · simp at hb
        · simp at hb
  · simp at hb

end
end Go.Abs
