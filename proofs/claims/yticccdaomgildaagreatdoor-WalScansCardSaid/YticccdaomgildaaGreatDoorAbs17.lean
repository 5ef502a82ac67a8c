/- The abstract layer, part 17: functions; the evaluator's word. -/
import Derived.Test.YticccdaomgildaaGreatDoorAbs16
namespace Go.Abs
open Go
set_option linter.unusedVariables false
set_option linter.unusedSimpArgs false

section
variable {P : Program} {K : Kp}

/-- What is known beforehand is so. -/
def SumsOK (P : Program) (S : Sums) : Prop :=
  ∀ (K : Kp) (ρ : Pm) (h : AH) (w : World) (f : FuncId) (args : List AV) (cargs : Array Value) (v : AV) (h' : AH), Rel K ρ h w → VRs ρ args cargs.toList → S f args h = some (v, h') →
    CallRes P f cargs w (CallPost K h ρ v h')

theorem argsEnv_sound {ρ : Pm} : ∀ (l : List AV) (i n : Nat) (t : Env) (tmps : Array Value), ER ρ t n tmps → i + l.length ≤ n → (∀ j a, l[j]? = some a → ∃ v, tmps[i + j]? = some v ∧ VR ρ a v) → ER ρ (argsEnv l i t) n tmps
  | [], i, n, t, tmps, he, _, _ => he
  | a :: l, i, n, t, tmps, he, hle, hv => by
    simp only [argsEnv]
    refine argsEnv_sound l (i + 1) n _ tmps ⟨he.1, fun j b hj => ?_⟩ (by simp at hle; omega) (fun j b hj => ?_)
    · rw [Tr.get_set] at hj
      by_cases e : j = i
      · subst e
        simp only [if_true, Option.some.injEq] at hj
        subst hj
        obtain ⟨v, h1, h2⟩ := hv 0 a rfl
        exact ⟨v, by simpa using h1, h2⟩
      · rw [if_neg e] at hj
        exact he.2 j b hj
    · obtain ⟨v, h1, h2⟩ := hv (j + 1) b (by simpa using hj)
      exact ⟨v, by rw [show i + 1 + j = i + (j + 1) by omega]; exact h1, h2⟩

theorem takeMarks_nx : ∀ (ds : List Nat) (h h' : AH), takeMarks ds h = some h' → h'.nx = h.nx
  | [], h, h', hb => by simp only [takeMarks, Option.some.injEq] at hb; subst hb; rfl
  | d :: ds, h, h', hb => by
    simp only [takeMarks] at hb
    split at hb
    · rw [takeMarks_nx ds _ h' hb]; rfl
    · simp at hb

theorem takeMarks_sound {ρ : Pm} {fn : Func} {tmps : Array Value} {Rr : Ending → World → Prop} : ∀ (ds : List Nat) (h h' : AH) (l : List Deferred) (w : World), Rel K ρ h w → DR ρ ds l → takeMarks ds h = some h' →
    (∀ w', Rel K ρ h' w' → LeavesIn Fence.wide 0 P fn tmps Rr [] .returning w') → LeavesInM Fence.wide 0 P fn tmps Rr l .returning w
  | [], h, h', [], w, hR, _, hb, hk => by
    simp only [takeMarks, Option.some.injEq] at hb; subst hb
    exact hk w hR
  | d :: ds, h, h', x :: l, w, hR, ⟨⟨p, hp, hx⟩, ht⟩, hb, hk => by
    simp only [takeMarks] at hb
    split at hb
    · rename_i hg
      subst hx
      obtain ⟨q, hq, ho, _⟩ := hR.obj d _ hg
      rw [hp] at hq; cases hq
      have hh : w.heap[p.b]? = some (.deferred (some [])) := ho
      have hR' := hR.setObj hg hp rfl rfl (o' := .defs false) (co' := .deferred none) rfl
      refine ⟨(fun hc => by cases hc), .inl ⟨p.b, _, rfl, ?_, takeMarks_sound ds _ h' l _ hR' ht hb hk⟩⟩
      unfold Instr.takeDeferred
      simp only [Sem.run_bind, run_getObj' hh (fun _ _ _ hc => by cases hc), Result.andThen_ok, run_setObj' hh (fun _ _ _ hc => by cases hc), Sem.run_pure]
    · simp at hb
  | [], _, _, _ :: _, _, _, hh, _, _ => hh.elim
  | _ :: _, _, _, [], _, _, hh, _, _ => hh.elim

def resSem (tmps : Array Value) : ResultVar → Sem Value
  | .tmp t => pure (tmps.getD t undef)
  | .cell a t => do loadVar t (← asAddr (tmps.getD a undef))

theorem results_eq (fn : Func) (tmps : Array Value) : results fn tmps = (do
    let vs ← fn.results.mapM (resSem tmps)
    pure (if h : vs.size = 1 then vs[0] else .tuple vs)) := by
  unfold results
  congr 1

theorem resultA_sound {ρ : Pm} {h : AH} {w : World} {t : Env} {n : Nat} {tmps : Array Value} {rv : ResultVar} {a : AV} (hR : Rel K ρ h w) (he : ER ρ t n tmps) (hb : resultA P h t rv = some a) :
    ∃ v, (resSem tmps rv).run P w = .ok v w ∧ VR ρ a v := by
  have hget : ∀ i, VR ρ ((t.get i).getD .junk) (tmps.getD i undef) := fun i => by
    cases hg : t.get i with
    | none => exact .junk _
    | some v =>
      obtain ⟨u, hu, r⟩ := he.2 i v hg
      simpa [Array.getD_eq_getD_getElem?, hu] using r
  cases rv with
  | tmp i =>
    simp only [resultA, Option.some.injEq] at hb
    subst hb
    exact ⟨_, rfl, hget i⟩
  | cell x ty =>
    simp only [resultA] at hb
    obtain ⟨cv, r1, r2⟩ := evLoad_sound (P := P) hR (hget x) hb
    refine ⟨cv, ?_, r2⟩
    have hx := hget x
    generalize (t.get x).getD .junk = xa at hb hx
    unfold evLoad at hb
    split at hb
    · rw [show resSem tmps (.cell x ty) = (do loadVar ty (← asAddr (tmps.getD x undef))) from rfl]
      generalize tmps.getD x undef = cx at hx r1 ⊢
      cases hx with
      | ptr hp =>
      simpa [Instr.loadAt, Instr.sureAddr, asAddr] using r1
    · simp at hb

theorem resultsA_sound {ρ : Pm} {h : AH} {w : World} {t : Env} {n : Nat} {tmps : Array Value} {fn : Func} {v : AV} (hR : Rel K ρ h w) (he : ER ρ t n tmps) (hb : resultsA P h t fn.results.toList = some v) :
    ∃ cv, (results fn tmps).run P w = .ok cv w ∧ VR ρ v cv := by
  have key : ∀ (l : List ResultVar) (vs : List AV), l.mapM (resultA P h t) = some vs → ∃ cvs : List Value, (l.mapM (m := Sem) (resSem tmps)).run P w = .ok cvs w ∧ VRs ρ vs cvs := by
    intro l
    induction l with
    | nil => intro vs hb; simp at hb; subst hb; exact ⟨[], rfl, .nil⟩
    | cons r l ih =>
      intro vs hb
      rw [List.mapM_cons] at hb
      cases h1 : resultA P h t r with
      | none => simp [h1] at hb
      | some a =>
        cases h2 : l.mapM (resultA P h t) with
        | none => simp [h1, h2] at hb
        | some as =>
          simp only [h1, h2, Option.bind_eq_bind, Option.bind_some, Option.pure_def, Option.some.injEq] at hb
          subst hb
          obtain ⟨cv, r1, r2⟩ := resultA_sound hR he h1
          obtain ⟨cvs, r3, r4⟩ := ih as h2
          refine ⟨cv :: cvs, ?_, .cons r2 r4⟩
          rw [List.mapM_cons, Sem.run_bind, r1]
          simp only [Result.andThen_ok, Sem.run_bind]
          rw [r3]
          rfl
  unfold resultsA at hb
  cases hm : fn.results.toList.mapM (resultA P h t) with
  | none => simp [hm] at hb
  | some vs =>
    obtain ⟨cvs, r1, r2⟩ := key _ vs hm
    have hr : (results fn tmps).run P w = .ok (if h : cvs.toArray.size = 1 then cvs.toArray[0] else .tuple cvs.toArray) w := by
      rw [results_eq, Sem.run_bind, Array.mapM_eq_mapM_toList, Sem.run_map, r1]
      rfl
    rw [hr]
    rw [hm] at hb
    cases r2 with
    | nil =>
      simp only [Option.some.injEq] at hb; subst hb
      exact ⟨_, rfl, .tup .nil⟩
    | cons a1 t1 =>
      cases t1 with
      | nil =>
        simp only [Option.some.injEq] at hb; subst hb
        exact ⟨_, rfl, by simpa using a1⟩
      | cons a2 t2 =>
        simp only [Option.some.injEq] at hb; subst hb
        exact ⟨_, rfl, by simpa using VR.tup (.cons a1 (.cons a2 t2))⟩

theorem roundsIn_mono {F : Fence} {n : Nat} {c : Code} {Q Q' : Exit → Act → World → Prop} (hq : ∀ e a w, Q e a w → Q' e a w) : ∀ (m : Nat) (a : Act) (w : World), Code.roundsIn F n P c Q m a w → Code.roundsIn F n P c Q' m a w
  | 0, a, w, hh => hh.elim
  | m + 1, a, w, hh => by
    rw [roundsIn_succ] at hh ⊢
    refine wpIn_mono hh fun e a w he => ?_
    cases e <;> simp only [Exit.then] at he ⊢ <;> first | exact roundsIn_mono hq m _ _ he | exact hq _ _ _ he

theorem evFn_ok {S : Sums} (hS : SumsOK P S) {R : Rec} {k : Nat} (hRec : RecOK P k R) (hDraw : DrawOK P R) {ρ : Pm} {h : AH} {w : World} {f : FuncId} {args : List AV} {cargs : Array Value} {v : AV} {h' : AH} (hR : Rel K ρ h w) (hargs : VRs ρ args cargs.toList)
    (hb : evFn P S R f args h = some (v, h')) : CallRes P f cargs w (CallPost K h ρ v h') := by
  unfold evFn at hb
  split at hb
  · rename_i r hs
    simp only [Option.some.injEq] at hb
    subst hb
    exact hS K ρ h w f args cargs v h' hR hargs hs
  · split at hb
    · simp at hb
    · rename_i hbod
      have hbod' : bodied P f = true := by
        cases hh : bodied P f with
        | true => rfl
        | false => rw [hh] at hbod; simp at hbod
      refine ⟨.enter f cargs, w, callFunc_bodied hbod' cargs w, ?_⟩
      split at hb
      · rename_i fn hf
        split at hb
        · rename_i c hc
          have hlen : args.length = cargs.size := by have := hargs.length; simpa using this
          have he0 : ER ρ (argsEnv args 0 .nil) (nTmps fn args) (cargs ++ Array.replicate (fn.ntmps - cargs.size) undef) := by
            refine argsEnv_sound args 0 _ .nil _ ⟨by simp [nTmps, hlen], fun i a hi => by rw [Tr.get_nil] at hi; cases hi⟩ (by simp [nTmps]) (fun j a hj => ?_)
            obtain ⟨u, hu, r⟩ := hargs.get hj
            refine ⟨u, ?_, r⟩
            have hjl : j < cargs.size := by have := (List.getElem?_eq_some_iff.1 hu).1; simpa using this
            rw [Nat.zero_add, Array.getElem?_append_left hjl, ← Array.getElem?_toList]
            exact hu
          refine callsIn_of_wp_marks hf hc trivial ?_
          -- how the body may end
          have ends : ∀ (ex : Ex) (s : St), (ex = .normal ∨ ex = .ret) → (match takeMarks s.d s.h with | some h' => (resultsA P h' s.t fn.results.toList).map (·, h') | none => none) = some (v, h') →
              ∀ e a w', CodePost K h.nx ρ (nTmps fn args) ex s e a w' → bodyPostM Fence.wide 0 P fn (fun e w2 => ∃ cv, e = .returned cv ∧ CallPost K h ρ v h' cv w2) e a w' := by
            intro ex s hex hs e a w' hpost
            obtain ⟨ρ1, hle, hx, hR1, he1, hd1⟩ := hpost
            cases ht : takeMarks s.d s.h with
            | none => simp [ht] at hs
            | some h2 =>
              cases hres : resultsA P h2 s.t fn.results.toList with
              | none => simp [ht, hres] at hs
              | some v2 =>
                simp only [ht, hres, Option.map_some, Option.some.injEq, Prod.mk.injEq] at hs
                obtain ⟨rfl, rfl⟩ := hs
                have hleave := takeMarks_sound (P := P) (fn := fn) (tmps := a.tmps) (Rr := fun e w2 => ∃ cv, e = .returned cv ∧ CallPost K h ρ v2 h2 cv w2) s.d s.h h2 a.defers w' hR1 hd1 ht (fun w2 hR2 => by
                  obtain ⟨cv, r1, r2⟩ := resultsA_sound hR2 he1 hres
                  exact ⟨cv, r1, cv, rfl, ρ1, ⟨hle.le, by rw [takeMarks_nx _ _ _ ht]; exact hle.nx, hle.old⟩, r2, hR2⟩)
                rcases hex with rfl | rfl <;> cases e <;> simp only [ExR] at hx <;> exact hleave
          split at hb
          · simp at hb
          · rename_i ex s hne heq
            have hex : ex = .normal ∨ ex = .ret := by
              cases ex with
              | normal => exact .inl rfl
              | ret => exact .inr rfl
              | exit i => exact (hne i rfl).elim
            exact wpIn_mono (evCode_wp (r := none) (cr := none) hRec hDraw c ρ { t := argsEnv args 0 .nil, h, d := [] } s ex { tmps := cargs ++ Array.replicate (fn.ntmps - cargs.size) undef, defers := [] } w trivial hR he0 trivial heq) (ends ex s hex hb)
          · simp at hb
        · simp at hb
      · simp at hb

/-- The evaluator's word, at every depth. -/
theorem evN_ok {S : Sums} (hS : SumsOK P S) (hDraw : ∀ (k : Nat) (R : Rec), RecOK P k R → DrawOK P R) : ∀ k, RecOK P k (evN P S k)
  | 0 => ⟨fun _ _ _ _ _ _ _ _ _ _ _ hb => by simp [evN] at hb, fun _ _ _ _ _ _ _ _ _ _ _ _ _ hb => by simp [evN] at hb, fun _ _ _ _ _ _ _ _ _ _ _ _ _ _ _ _ hb => by simp [evN] at hb⟩
  | k + 1 => by
    have ih := evN_ok hS hDraw k
    have hd := hDraw k _ ih
    refine ⟨fun K ρ h w f args cargs v h' hR hargs hb => evFn_ok hS ih hd hR hargs hb, fun K ρ h w id p args cargs v h' hp hR hargs hb => evRound_ok ih hd hp hR hargs hb, fun K ρ w a r cr fn n c s s' ex hr hR he hdr hb => ?_⟩
    rw [roundsIn_succ]
    simp only [evN] at hb
    cases h1 : evCode P (evN P S k) r fn n c s with
    | none => simp [h1] at hb
    | some es =>
      obtain ⟨e1, s1⟩ := es
      refine wpIn_mono (evCode_wp ih hd c ρ s s1 e1 a w hr hR he hdr h1) fun e a1 w1 hp => ?_
      obtain ⟨ρ1, hle, hex, hR1, he1, hd1⟩ := hp
      cases e1 with
      | normal =>
        simp only [h1] at hb
        cases e <;> simp only [ExR] at hex
        have := ih.loop K ρ1 w1 a1 r cr fn n c s1 s' ex (hr.mono hle.le) hR1 he1 hd1 hb
        simp only [Exit.then]
        exact roundsIn_mono (fun e a w hq => by
          obtain ⟨ρ2, hle2, rest⟩ := hq
          exact ⟨ρ2, hle.trans hle2, rest⟩) k _ _ this
      | exit i =>
        simp only [h1, Option.some.injEq, Prod.mk.injEq] at hb
        obtain ⟨rfl, rfl⟩ := hb
        cases e <;> simp only [ExR] at hex
        exact ⟨ρ1, hle, hex, hR1, he1, hd1⟩
      | ret =>
        simp only [h1, Option.some.injEq, Prod.mk.injEq] at hb
        obtain ⟨rfl, rfl⟩ := hb
        cases e <;> simp only [ExR] at hex
        exact ⟨ρ1, hle, trivial, hR1, he1, hd1⟩

end
end Go.Abs
