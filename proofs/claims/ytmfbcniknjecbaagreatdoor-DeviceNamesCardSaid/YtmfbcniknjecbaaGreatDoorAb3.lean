/- The abstract layer, parts 15 to 25. Conditions: none. -/
import Derived.Test.YtmfbcniknjecbaaGreatDoorAb2
import Derived.LoopNIn
import Derived.OrdersIn
import Derived.Lib.Bytealg
import Derived.Laws.Externs
import Derived.Sort.KeysCollected
import Derived.Laws.AppendOwn
import Derived.Sort.Walk0

section
namespace Go.Abs
open Go
set_option linter.unusedVariables false
set_option linter.unusedSimpArgs false

def Wd (r : Option Nat) : Fence := { fn := fun _ => True, depth := none, alive := false, round := r }
theorem Wd_none : Wd none = Fence.wide := rfl

section
variable {P : Program} {ρ : Pm} {w : World} {K : Kp} {h : AH}

def RR (ρ : Pm) : Option Nat → Option Nat → Prop
  | none, none => True
  | some l, some c => ∃ p, ρ l = some p ∧ p.b = c
  | _, _ => False
theorem RR.mono {ρ ρ' : Pm} (hle : ρ.le ρ') : ∀ {r c : Option Nat}, RR ρ r c → RR ρ' r c
  | none, none, _ => trivial
  | some _, some _, ⟨p, hp, e⟩ => ⟨p, hle _ _ hp, e⟩
  | none, some _, hh => hh.elim
  | some _, none, hh => hh.elim

def DR (ρ : Pm) : List Nat → List Deferred → Prop
  | [], [] => True
  | d :: l, x :: m => (∃ p, ρ d = some p ∧ x = { target := .collected p.b, args := #[] }) ∧ DR ρ l m
  | _, _ => False
theorem DR.mono {ρ ρ' : Pm} (hle : ρ.le ρ') : ∀ {l : List Nat} {m : List Deferred}, DR ρ l m → DR ρ' l m
  | [], [], _ => trivial
  | _ :: _, _ :: _, ⟨⟨p, hp, e⟩, t⟩ => ⟨⟨p, hle _ _ hp, e⟩, DR.mono hle t⟩
  | [], _ :: _, hh => hh.elim
  | _ :: _, [], hh => hh.elim

def ExR : Ex → Exit → Prop
  | .normal, .normal => True
  | .exit i, .exit j => i = j
  | .ret, .ret => True
  | _, _ => False

def CallPost (K : Kp) (h : AH) (ρ : Pm) (v : AV) (h' : AH) (cv : Value) (w' : World) : Prop := ∃ ρ', Ext h.nx ρ h'.nx ρ' ∧ VR ρ' v cv ∧ Rel K ρ' h' w'

def CallRes (P : Program) (f : FuncId) (cargs : Array Value) (w : World) (Q : Value → World → Prop) : Prop :=
  ∃ n w1, (callFunc f cargs).run P w = .ok n w1 ∧
    match n with
    | .enter g a => CallsIn Fence.wide 0 P g a w1 fun e w2 => ∃ cv, e = .returned cv ∧ Q cv w2
    | .value cv => Q cv w1
    | _ => False

def RoundRes (P : Program) (l : Nat) (cargs : Array Value) (w : World) (Q : Value → World → Prop) : Prop :=
  ∃ f tmps assign body w1, (Instr.yield l cargs).run P w = .ok (.round l f tmps assign body) w1 ∧ RoundIn Fence.wide 0 P l f tmps assign body w1 fun e w2 => ∃ cv, e = .returned cv ∧ Q cv w2

def CodePost (K : Kp) (x : Nat) (ρ : Pm) (n : Nat) (ex : Ex) (s' : St) (e : Exit) (a' : Act) (w' : World) : Prop :=
  ∃ ρ', Ext x ρ s'.h.nx ρ' ∧ ExR ex e ∧ Rel K ρ' s'.h w' ∧ ER ρ' s'.t n a'.tmps ∧ DR ρ' s'.d a'.defers

structure RecOK (P : Program) (k : Nat) (R : Rec) : Prop where
  call : ∀ (K : Kp) (ρ : Pm) (h : AH) (w : World) (f : FuncId) (args : List AV) (cargs : Array Value) (v : AV) (h' : AH), Rel K ρ h w → VRs ρ args cargs.toList → R.call f args h = some (v, h') →
    CallRes P f cargs w (CallPost K h ρ v h')
  round : ∀ (K : Kp) (ρ : Pm) (h : AH) (w : World) (id : Nat) (p : Pl) (args : List AV) (cargs : Array Value) (v : AV) (h' : AH), ρ id = some p → Rel K ρ h w → VRs ρ args cargs.toList → R.round id args h = some (v, h') →
    RoundRes P p.b cargs w (CallPost K h ρ v h')
  loop : ∀ (K : Kp) (ρ : Pm) (w : World) (a : Act) (r cr : Option Nat) (fn n : Nat) (c : Code) (s s' : St) (ex : Ex), RR ρ r cr → Rel K ρ s.h w → ER ρ s.t n a.tmps → DR ρ s.d a.defers → R.loop r fn n c s = some (ex, s') →
    Code.roundsIn (Wd cr) 0 P c (CodePost K s.h.nx ρ n ex s') k a w

theorem putA_sound {n : Nat} {t t' : Env} {dst : Option Tmp} {v : AV} {cv : Value} {a : Act} (he : ER ρ t n a.tmps) (hv : VR ρ v cv) (hp : putA n t dst v = some t') : ER ρ t' n (a.put dst cv).tmps ∧ (a.put dst cv).defers = a.defers := by
  unfold putA at hp
  split at hp
  · simp only [Option.some.injEq] at hp; subst hp; exact ⟨he, rfl⟩
  · split at hp
    · rename_i d hd
      simp only [Option.some.injEq] at hp; subst hp
      exact ⟨he.set hd hv, rfl⟩
    · simp at hp

theorem wantedA_sound {ops : Array Oper} {t : Env} {n : Nat} {o : Oper} {tmps : Array Value} {b : Bool} (he : ER ρ t n tmps) (hw : wantedA ops t o = some b) : Region.wanted o (yielded ops tmps) = b := by
  unfold wantedA at hw
  unfold Region.wanted
  split at hw
  · rename_i hg
    simp only [Option.some.injEq] at hw
    rw [hg, hw]
  · rename_i j want hg
    simp only [hg]
    unfold yielded
    cases hd : (ops[j]?).bind (·.dst) with
    | none => simp only [hd, Option.some.injEq] at hw; subst hw; simp
    | some d =>
      simp only [hd] at hw
      cases hg' : t.get d with
      | none => simp [hg'] at hw
      | some v =>
        obtain ⟨u, hu, r⟩ := he.2 d v hg'
        simp only [Option.bind_some, hu]
        cases r <;> simp only [hg', Option.some.injEq, reduceCtorEq] at hw <;> subst hw <;> simp

theorem evOper_noDefer {E : Operand → AV} {o : Oper} {r : ORes} (hb : evOper P E o h = some r) : ∀ c, o.op ≠ .defer c := by
  intro c hc
  unfold evOper at hb
  rw [hc] at hb
  simp at hb

theorem evOp_wp {R : Rec} {k : Nat} (hRec : RecOK P k R) (hR : Rel K ρ h w) {n : Nat} {cr : Option Nat} {E : Operand → AV} {o : Oper} {a : Act} (hE : ∀ x, VR ρ (E x) (a.eval x)) {r : ORes} (hb : evOper P E o h = some r)
    {next : Act → World → Prop} {Q : Exit → Act → World → Prop}
    (hval : ∀ v h', r = .val v h' → ∀ ρ' cv w', Ext h.nx ρ h'.nx ρ' → VR ρ' v cv → Rel K ρ' h' w' → next (a.put o.dst cv) w')
    (hskip : ∀ h', r = .skip h' → ∀ w', h.nx ≤ h'.nx → Rel K ρ h' w' → next (a.put o.dst undef) w')
    (hcall : ∀ f args, r = .call f args → ∃ v h', R.call f args h = some (v, h') ∧ ∀ ρ' cv w', Ext h.nx ρ h'.nx ρ' → VR ρ' v cv → Rel K ρ' h' w' → next (a.put o.dst cv) w')
    (hyield : ∀ id args, r = .yield id args → ∃ v h', R.round id args h = some (v, h') ∧ ∀ ρ' cv w', Ext h.nx ρ h'.nx ρ' → VR ρ' v cv → Rel K ρ' h' w' → next (a.put o.dst cv) w') :
    o.wpIn (Wd cr) 0 P a w next Q := by
  refine ⟨fun _ _ => trivial, ?_⟩
  rw [Oper.semAt_eq _ _ _ (evOper_noDefer hb)]
  have hpost := evOper_sound hR hE hb
  cases r with
  | val v h' =>
    obtain ⟨ρ', cv, w', hrun, hle, hv, hr⟩ := hpost
    rw [hrun]
    exact hval v h' rfl ρ' cv w' hle hv hr
  | skip h' =>
    obtain ⟨w', hrun, hnx, hr⟩ := hpost
    rw [hrun]
    exact hskip h' rfl w' hnx hr
  | call f args =>
    obtain ⟨cargs, hrun, hargs⟩ := hpost
    obtain ⟨v, h', hc, hk⟩ := hcall f args rfl
    obtain ⟨nx, w1, hcr, hm⟩ := hRec.call K ρ h w f args cargs v h' hR hargs hc
    rw [hrun, hcr]
    cases nx <;> simp only at hm
    · obtain ⟨ρ', hle, hv, hr⟩ := hm
      exact hk ρ' _ _ hle hv hr
    · refine ⟨(fun hd => by cases hd), CallsIn.mono (R := fun e w2 => ∃ cv, e = .returned cv ∧ CallPost K h ρ v h' cv w2) (by exact hm) fun e w2 he => ?_⟩
      obtain ⟨cv, rfl, ρ', hle, hv, hr⟩ := he
      exact hk ρ' cv w2 hle hv hr
  | yield id args =>
    obtain ⟨p, cargs, hp, hrun, hargs⟩ := hpost
    obtain ⟨v, h', hc, hk⟩ := hyield id args rfl
    obtain ⟨f, tmps, assign, body, w1, hy, hro⟩ := hRec.round K ρ h w id p args cargs v h' hp hR hargs hc
    rw [hrun, hy]
    refine ⟨(fun hd => by cases hd), RoundIn.mono (R := fun e w2 => ∃ cv, e = .returned cv ∧ CallPost K h ρ v h' cv w2) (by exact hro) fun e w2 he => ?_⟩
    obtain ⟨cv, rfl, ρ', hle, hv, hr⟩ := he
    exact hk ρ' cv w2 hle hv hr

theorem undef_VR : VR ρ (.tup []) undef := .tup .nil

theorem evOps_wp {R : Rec} {k : Nat} (hRec : RecOK P k R) {n : Nat} {cr : Option Nat} {ops : Array Oper} {t' : Env} {h' : AH} {Q : Exit → Act → World → Prop} :
    ∀ (l : List Oper) (i : Nat) (ρ : Pm) (t : Env) (h : AH) (a : Act) (w : World), (∀ j, l[j]? = ops[i + j]?) → Rel K ρ h w → ER ρ t n a.tmps → evOps P R n ops l t h = some (t', h') →
      (∀ ρ' a' w', Ext h.nx ρ h'.nx ρ' → Rel K ρ' h' w' → ER ρ' t' n a'.tmps → a'.defers = a.defers → Q .normal a' w') →
      wpOpsIn (Wd cr) 0 P ops Q ((List.range' i l.length)) a w
  | [], i, ρ, t, h, a, w, hl, hR, he, hb, hQ => by
    simp only [evOps, Option.some.injEq, Prod.mk.injEq] at hb
    obtain ⟨rfl, rfl⟩ := hb
    exact hQ ρ a w (Ext.refl _ _) hR he rfl
  | o :: l, i, ρ, t, h, a, w, hl, hR, he, hb, hQ => by
    have ho : ops[i]? = some o := by have := hl 0; simpa using this.symm
    have hl' : ∀ j, l[j]? = ops[i + 1 + j]? := fun j => by have := hl (j + 1); rw [show i + 1 + j = i + (j + 1) by omega]; simpa using this
    simp only [evOps] at hb
    cases h1 : evOp1 P R n ops o t h with
    | none => simp [h1] at hb
    | some th =>
      obtain ⟨t1, h1'⟩ := th
      simp only [h1] at hb
      simp only [List.length_cons, List.range'_succ, wpOpsIn, ho]
      unfold evOp1 at h1
      -- what follows
      have follow : ∀ ρ' cv w' v, Ext h.nx ρ h1'.nx ρ' → VR ρ' v cv → Rel K ρ' h1' w' → putA n t o.dst v = some t1 → wpOpsIn (Wd cr) 0 P ops Q (List.range' (i + 1) l.length) (a.put o.dst cv) w' := by
        intro ρ' cv w' v hle hv hr hp
        obtain ⟨e1, e2⟩ := putA_sound (he.mono hle.le) hv hp
        exact evOps_wp hRec l (i + 1) ρ' t1 h1' _ w' hl' hr e1 hb fun ρ'' a' w'' hle' hr' he' hd' => hQ ρ'' a' w'' (hle.trans hle') hr' he' (hd'.trans e2)
      split at h1
      · rename_i hw
        rw [if_pos (wantedA_sound he hw)]
        split at h1
        · rename_i v hv' hb1
          cases hp : putA n t o.dst v with
          | none => simp [hp] at h1
          | some t2 =>
            simp only [hp, Option.map_some, Option.some.injEq, Prod.mk.injEq] at h1
            obtain ⟨rfl, rfl⟩ := h1
            exact evOp_wp (n := n) hRec hR (opnd_sound he) hb1 (fun v h' hr ρ' cv w' hle hv hrel => by cases hr; exact follow ρ' cv w' _ hle hv hrel hp) (fun _ hr => by cases hr) (fun _ _ hr => by cases hr) (fun _ _ hr => by cases hr)
        · rename_i hv' hb1
          cases hp : putA n t o.dst (.tup []) with
          | none => simp [hp] at h1
          | some t2 =>
            simp only [hp, Option.map_some, Option.some.injEq, Prod.mk.injEq] at h1
            obtain ⟨rfl, rfl⟩ := h1
            exact evOp_wp (n := n) hRec hR (opnd_sound he) hb1 (fun _ _ hr => by cases hr) (fun h' hr w' hnx hrel => by cases hr; exact follow ρ undef w' _ ⟨Pm.le_refl _, hnx, fun _ _ => rfl⟩ undef_VR hrel hp) (fun _ _ hr => by cases hr) (fun _ _ hr => by cases hr)
        · rename_i f args hb1
          split at h1
          · rename_i v hv' hc
            cases hp : putA n t o.dst v with
            | none => simp [hp] at h1
            | some t2 =>
              simp only [hp, Option.map_some, Option.some.injEq, Prod.mk.injEq] at h1
              obtain ⟨rfl, rfl⟩ := h1
              exact evOp_wp (n := n) hRec hR (opnd_sound he) hb1 (fun _ _ hr => by cases hr) (fun _ hr => by cases hr) (fun f' args' hr => by cases hr; exact ⟨v, _, hc, fun ρ' cv w' hle hv hrel => follow ρ' cv w' _ hle hv hrel hp⟩) (fun _ _ hr => by cases hr)
          · simp at h1
        · rename_i id args hb1
          split at h1
          · rename_i v hv' hc
            cases hp : putA n t o.dst v with
            | none => simp [hp] at h1
            | some t2 =>
              simp only [hp, Option.map_some, Option.some.injEq, Prod.mk.injEq] at h1
              obtain ⟨rfl, rfl⟩ := h1
              exact evOp_wp (n := n) hRec hR (opnd_sound he) hb1 (fun _ _ hr => by cases hr) (fun _ hr => by cases hr) (fun _ _ hr => by cases hr) (fun f' args' hr => by cases hr; exact ⟨v, _, hc, fun ρ' cv w' hle hv hrel => follow ρ' cv w' _ hle hv hrel hp⟩)
          · simp at h1
        · simp at h1
      · rename_i hw
        rw [if_neg (by rw [wantedA_sound he hw]; simp)]
        cases hp : putA n t o.dst (.tup []) with
        | none => simp [hp] at h1
        | some t2 =>
          simp only [hp, Option.map_some, Option.some.injEq, Prod.mk.injEq] at h1
          obtain ⟨rfl, rfl⟩ := h1
          exact ⟨fun _ _ => trivial, follow ρ undef w _ (Ext.refl _ _) undef_VR hR hp⟩
      · simp at h1

end
end Go.Abs
end

section
namespace Go.Abs
open Go
set_option linter.unusedVariables false
set_option linter.unusedSimpArgs false

section
variable {P : Program} {K : Kp}

def DrawOK (P : Program) (R : Rec) : Prop :=
  ∀ (K : Kp) (ρ : Pm) (w : World) (a : Act) (cr : Option Nat) (n : Nat) (ops : Array Oper) (t t' : Env) (h h' : AH) (l : List Nat) (T : Nat) (Q : Exit → Act → World → Prop),
    Rel K ρ h w → ER ρ t n a.tmps → evDraw P R n ops t h = some (t', h') →
    (∀ ρ' a' w', Ext h.nx ρ h'.nx ρ' → Rel K ρ' h' w' → ER ρ' t' n a'.tmps → a'.defers = a.defers → Q .normal a' w') →
    wpOpsIn (Wd cr) 0 P ops Q (Region.schedule (P.follows .mixedOrders) ops T) a w

theorem roundIn_any {F : Fence} {n l' : Nat} {l : Nat} {f : FuncId} {tmps : Array Value} {assign body : Code} {w : World} {R : Ending → World → Prop} (hh : RoundIn (F.inRound l') n P l f tmps assign body w R) : RoundIn F n P l f tmps assign body w R := hh

theorem callsIn_any {n : Nat} {f : FuncId} {args : Array Value} {w : World} {R : Ending → World → Prop} {r : Option Nat} (hh : CallsIn Fence.wide n P f args w R) : CallsIn (Wd r) n P f args w R := hh

theorem bodied_spec {f : FuncId} (hb : bodied P f = true) : ∃ fn c, P.funcs[f]? = some fn ∧ fn.body = some c ∧ (fn.name == "runtime.NumGoroutine") = false := by
  unfold bodied at hb
  split at hb
  · rename_i fn hf
    simp only [Bool.and_eq_true, Bool.not_eq_true'] at hb
    cases hc : fn.body with
    | none => simp [hc] at hb
    | some c => exact ⟨fn, c, hf, hc, hb.2⟩
  · simp at hb

theorem callFunc_bodied {f : FuncId} (hb : bodied P f = true) (args : Array Value) (w : World) : (callFunc f args).run P w = .ok (.enter f args) w := by
  obtain ⟨fn, c, hf, hc, hn⟩ := bodied_spec hb
  unfold callFunc
  simp only [Sem.run_bind, run_program, Result.andThen_ok, hf, hn, Bool.false_eq_true, if_false, hc, Option.isNone_some, Sem.run_pure]

theorem getLoop_run {ρ : Pm} {h : AH} {w : World} {l : Nat} {p : Pl} {st : LoopState} {pend : Option Code} {fn : FuncId} {t : Env} {n : Nat} {ps : Array Tmp} {assign body : Code} {d : Nat} (hR : Rel K ρ h w) (hp : ρ l = some p)
    (hg : h.get l = some (.loop st pend fn t n ps assign body d)) :
    ∃ tmps pd fnc, w.heap[p.b]? = some (.loop { state := st, pending := pend, fn := fnc, tmps, params := ps, assign, body, defers := pd }) ∧ ER ρ t n tmps ∧ (∃ q, ρ d = some q ∧ q.b = pd) ∧
      (Instr.getLoop p.b).run P w = .ok { state := st, pending := pend, fn := fnc, tmps, params := ps, assign, body, defers := pd } w := by
  obtain ⟨q, hq, ⟨tmps, pd, fnc, h1, h2, h3⟩, _⟩ := hR.obj l _ hg
  rw [hp] at hq; cases hq
  refine ⟨tmps, pd, fnc, h1, h2, h3, ?_⟩
  unfold Instr.getLoop
  simp only [Sem.run_bind, run_getObj' h1 (fun _ _ _ hc => by cases hc), Result.andThen_ok, Sem.run_pure]

theorem loopHead_sound {ρ : Pm} {w : World} {a : Act} {r cr : Option Nat} {n : Nat} {s : St} {fn fnc : FuncId} {ps : Array Tmp} {assign body : Code} {d : Nat} {h1 : AH} {ds : List Nat} (hr : RR ρ r cr) (hR : Rel K ρ s.h w) (he : ER ρ s.t n a.tmps) (hd : DR ρ s.d a.defers)
    (hb : loopHead r s = some (d, h1, ds)) :
    ∃ ρ' l mark w1, Ext s.h.nx ρ (h1.nx + 1) ρ' ∧ (Instr.enterLoop fnc a.tmps ps assign body cr).run P w = .ok (l, mark) w1 ∧ Rel K ρ' (h1.new (.loop .ready none fn s.t n ps assign body d)) w1 ∧ (∃ p, ρ' h1.nx = some p ∧ p.b = l) ∧ DR ρ' ds (mark ++ a.defers) := by
  cases r with
  | none =>
    cases cr with
    | some c => exact hr.elim
    | none =>
    simp only [loopHead, Prod.mk.injEq, Option.some.injEq] at hb
    obtain ⟨rfl, rfl, rfl⟩ := hb
    obtain ⟨hR1, hle1⟩ := hR.push (o := .defs true) (co := .deferred (some [])) (lim := 0) rfl rfl
    obtain ⟨hR2, hle2⟩ := hR1.push (o := .loop .ready none fn s.t n ps assign body s.h.nx) (co := .loop { state := .ready, pending := none, fn := fnc, tmps := a.tmps, params := ps, assign, body, defers := w.heap.size }) (lim := 0) rfl
      ⟨a.tmps, w.heap.size, fnc, rfl, he.mono (Pm.le_trans hle1.le (Pm.le_put (hR1.fresh _ (Nat.le_refl _)))), ⟨w.heap.size, 0, 0⟩, Pm.le_put (hR1.fresh _ (Nat.le_refl _)) _ _ (Pm.put_self _ _ _), rfl⟩
    refine ⟨_, (w.heap.push (.deferred (some []))).size, [{ target := .collected w.heap.size, args := #[] }], _, hle1.trans hle2, ?_, hR2, ⟨_, Pm.put_self _ _ _, rfl⟩, ?_⟩
    · unfold Instr.enterLoop
      simp only [Sem.run_bind, run_newObj, Result.andThen_ok, Sem.run_pure]
    · exact And.intro ⟨⟨w.heap.size, 0, 0⟩, hle2.le _ _ (Pm.put_self _ _ _), rfl⟩ (hd.mono (Pm.le_trans hle1.le hle2.le))
  | some l0 =>
    cases cr with
    | none => exact hr.elim
    | some c =>
    obtain ⟨p0, hp0, rfl⟩ := hr
    simp only [loopHead] at hb
    split at hb
    · rename_i st pend fn0 t0 n0 ps0 as0 bd0 d0 hg
      simp only [Option.some.injEq, Prod.mk.injEq] at hb
      obtain ⟨rfl, rfl, rfl⟩ := hb
      obtain ⟨tmps0, pd, fnc0, hh, he0, ⟨q, hq, hqb⟩, hrun⟩ := getLoop_run (P := P) hR hp0 hg
      obtain ⟨hR2, hle2⟩ := hR.push (o := .loop .ready none fn s.t n ps assign body d0) (co := .loop { state := .ready, pending := none, fn := fnc, tmps := a.tmps, params := ps, assign, body, defers := pd }) (lim := 0) rfl
        ⟨a.tmps, pd, fnc, rfl, he.mono (Pm.le_put (hR.fresh _ (Nat.le_refl _))), q, Pm.le_put (hR.fresh _ (Nat.le_refl _)) _ _ hq, hqb⟩
      refine ⟨_, w.heap.size, [], _, hle2, ?_, hR2, ⟨_, Pm.put_self _ _ _, rfl⟩, hd.mono hle2.le⟩
      unfold Instr.enterLoop
      simp only [Sem.run_bind, hrun, run_newObj, Result.andThen_ok, Sem.run_pure]
    · simp at hb

section
variable {b : Frame} {a : Act} {k : List Item} {cs : List Frame} {w : World} {c : Code} {F : Fence} {Q : Exit → Act → World → Prop}
theorem stepR_scope : step P (lone (b.atR a (.code (.scope c) :: k)) cs w) = .next (lone (b.atR a (.code c :: .inScope c :: k)) cs w) :=
  step_lone_go (by simp [stepG, stepG.exec, Frame.atR])
theorem stepR_inScope : step P (lone (b.atR a (.inScope c :: k)) cs w) = .next (lone (b.atR a k) cs w) :=
  step_lone_go (by simp [stepG, stepG.exec, Frame.atR])
theorem wpIn_scope_on {n : Nat} (h : c.wpIn F n P (fun e a w => (∀ l, e ≠ .goto l) ∧ Q e a w) a w) : (Code.scope c).wpIn F n P Q a w := by
  intro b k cs hro hb hr
  have h0 : (lone (b.atR a (.code (.scope c) :: k)) cs w).fenced P F := fenced_calm hb hr rfl
  obtain ⟨e, a₁, w₁, ⟨hg, hq⟩, harr⟩ := h b (.inScope c :: k) cs hro hb hr
  cases e with
  | normal => exact ⟨.normal, a₁, w₁, hq, .head h0 stepR_scope (StepsIn.trans harr (.one (fenced_calm hb hr rfl) stepR_inScope))⟩
  | exit id =>
    have hx : exitTo id (.inScope c :: k) = exitTo id k := by simp [exitTo]
    exact ⟨.exit id, a₁, w₁, hq, fun k' hk => .head h0 stepR_scope (harr.1 k' (by rw [hx]; exact hk)),
      fun hr' hk => let ⟨k₁, h1, h2⟩ := harr.2 hr' (by rw [hx]; exact hk); ⟨k₁, h1, .head h0 stepR_scope h2⟩⟩
  | goto l => exact absurd rfl (hg l)
  | ret => exact ⟨_, a₁, w₁, hq, .of_steps (.one h0 stepR_scope) harr⟩
  | panic ch => exact ⟨_, a₁, w₁, hq, .of_steps (.one h0 stepR_scope) harr⟩
  | outgrown => exact ⟨_, a₁, w₁, hq, .of_steps (.one h0 stepR_scope) harr⟩
end

theorem evCode_wp {R : Rec} {k : Nat} (hRec : RecOK P k R) (hDraw : DrawOK P R) {r cr : Option Nat} {fn n : Nat} : ∀ (c : Code) (ρ : Pm) (s s' : St) (ex : Ex) (a : Act) (w : World), RR ρ r cr → Rel K ρ s.h w → ER ρ s.t n a.tmps → DR ρ s.d a.defers →
    evCode P R r fn n c s = some (ex, s') → c.wpIn (Wd cr) 0 P (CodePost K s.h.nx ρ n ex s') a w := by
  intro c
  induction c with
  | skip =>
    intro ρ s s' ex a w hr hR he hd hb
    simp only [evCode, Option.some.injEq, Prod.mk.injEq] at hb
    obtain ⟨rfl, rfl⟩ := hb
    exact wpIn_skip ⟨ρ, Ext.refl _ _, trivial, hR, he, hd⟩
  | label l =>
    intro ρ s s' ex a w hr hR he hd hb
    simp only [evCode, Option.some.injEq, Prod.mk.injEq] at hb
    obtain ⟨rfl, rfl⟩ := hb
    exact wpIn_label ⟨ρ, Ext.refl _ _, trivial, hR, he, hd⟩
  | region id ops draw =>
    intro ρ s s' ex a w hr hR he hd hb
    cases draw with
    | false =>
      simp only [evCode] at hb
      cases h1 : evOps P R n ops ops.toList s.t s.h with
      | none => simp [h1] at hb
      | some th =>
        obtain ⟨t, h⟩ := th
        simp only [h1, Option.some.injEq, Prod.mk.injEq] at hb
        obtain ⟨rfl, rfl⟩ := hb
        refine wpIn_region ?_
        have := evOps_wp (cr := cr) (Q := CodePost K s.h.nx ρ n .normal { s with t, h }) hRec ops.toList 0 ρ s.t s.h a w (fun j => by simp) hR he h1 (fun ρ' a' w' hle hr' he' hd' => ⟨ρ', hle, trivial, hr', he', by rw [hd']; exact hd.mono hle.le⟩)
        rw [List.range_eq_range']
        simpa using this
    | true =>
      simp only [evCode] at hb
      cases h1 : evDraw P R n ops s.t s.h with
      | none => simp [h1] at hb
      | some th =>
        obtain ⟨t, h⟩ := th
        simp only [h1, Option.some.injEq, Prod.mk.injEq] at hb
        obtain ⟨rfl, rfl⟩ := hb
        refine wpIn_region_draw fun T => ?_
        exact hDraw K ρ _ a cr n ops s.t t s.h h [] T _ (hR.drawn _) he h1 (fun ρ' a' w' hle hr' he' hd' => ⟨ρ', hle, trivial, hr', he', by rw [hd']; exact hd.mono hle.le⟩)
  | seq x y ihx ihy =>
    intro ρ s s' ex a w hr hR he hd hb
    simp only [evCode] at hb
    cases h1 : evCode P R r fn n x s with
    | none => simp [h1] at hb
    | some es =>
      obtain ⟨e1, s1⟩ := es
      refine wpIn_seq (wpIn_mono (ihx ρ s s1 e1 a w hr hR he hd h1) fun e a1 w1 hp => ?_)
      obtain ⟨ρ1, hle, hex, hR1, he1, hd1⟩ := hp
      cases e1 with
      | normal =>
        simp only [h1] at hb
        cases e <;> simp only [ExR] at hex
        refine wpIn_mono (ihy ρ1 s1 s' ex a1 w1 (hr.mono hle.le) hR1 he1 hd1 hb) fun e2 a2 w2 hp2 => ?_
        obtain ⟨ρ2, hle2, rest⟩ := hp2
        exact ⟨ρ2, hle.trans hle2, rest⟩
      | exit i =>
        simp only [h1, Option.some.injEq, Prod.mk.injEq] at hb
        obtain ⟨rfl, rfl⟩ := hb
        cases e <;> simp only [ExR] at hex
        exact ⟨ρ1, hle, hex, hR1, he1, hd1⟩
      | ret =>
        simp only [h1, Option.some.injEq, Prod.mk.injEq] at hb
        obtain ⟨rfl, rfl⟩ := hb
        cases e <;> simp only [ExR] at hex
        exact ⟨ρ1, hle, trivial, hR1, he1, hd1⟩
  | cond x c1 c2 ih1 ih2 =>
    intro ρ s s' ex a w hr hR he hd hb
    simp only [evCode] at hb
    have hx := opnd_sound he x
    split at hb
    · rename_i t heq
      rw [heq] at hx
      generalize hcx : a.eval x = cx at hx
      cases hx
      refine wpIn_cond hcx ?_
      cases t with
      | true => exact ih1 ρ s s' ex a w hr hR he hd hb
      | false => exact ih2 ρ s s' ex a w hr hR he hd hb
    · simp at hb
  | block id c ih =>
    intro ρ s s' ex a w hr hR he hd hb
    simp only [evCode] at hb
    cases h1 : evCode P R r fn n c s with
    | none => simp [h1] at hb
    | some es =>
      obtain ⟨e1, s1⟩ := es
      refine wpIn_block (wpIn_mono (ih ρ s s1 e1 a w hr hR he hd h1) fun e a1 w1 hp => ?_)
      obtain ⟨ρ1, hle, hex, hR1, he1, hd1⟩ := hp
      cases e1 with
      | normal =>
        simp only [h1, Option.some.injEq, Prod.mk.injEq] at hb
        obtain ⟨rfl, rfl⟩ := hb
        cases e <;> simp only [ExR] at hex
        exact ⟨ρ1, hle, trivial, hR1, he1, hd1⟩
      | exit i =>
        simp only [h1, Option.some.injEq, Prod.mk.injEq, nbeq] at hb
        obtain ⟨rfl, rfl⟩ := hb
        cases e <;> simp only [ExR] at hex
        rename_i j
        subst hex
        simp only [Exit.inBlock]
        by_cases hij : i = id
        · simp only [hij, if_true, decide_true, cond_true]
          exact ⟨ρ1, hle, trivial, hR1, he1, hd1⟩
        · simp only [hij, if_false, decide_false, cond_false]
          exact ⟨ρ1, hle, rfl, hR1, he1, hd1⟩
      | ret =>
        simp only [h1, Option.some.injEq, Prod.mk.injEq] at hb
        obtain ⟨rfl, rfl⟩ := hb
        cases e <;> simp only [ExR] at hex
        exact ⟨ρ1, hle, trivial, hR1, he1, hd1⟩
  | loop c ih =>
    intro ρ s s' ex a w hr hR he hd hb
    simp only [evCode] at hb
    exact wpIn_loop_rounds k (hRec.loop K ρ w a r cr fn n c s s' ex hr hR he hd hb)
  | exit id =>
    intro ρ s s' ex a w hr hR he hd hb
    simp only [evCode, Option.some.injEq, Prod.mk.injEq] at hb
    obtain ⟨rfl, rfl⟩ := hb
    exact wpIn_exit ⟨ρ, Ext.refl _ _, rfl, hR, he, hd⟩
  | ret =>
    intro ρ s s' ex a w hr hR he hd hb
    simp only [evCode, Option.some.injEq, Prod.mk.injEq] at hb
    obtain ⟨rfl, rfl⟩ := hb
    exact wpIn_ret ⟨ρ, Ext.refl _ _, trivial, hR, he, hd⟩
  | scope c ih =>
    intro ρ s s' ex a w hr hR he hd hb
    simp only [evCode] at hb
    refine wpIn_scope_on (wpIn_mono (ih ρ s s' ex a w hr hR he hd hb) fun e a1 w1 hp => ?_)
    refine ⟨?_, hp⟩
    obtain ⟨ρ1, hle, hex, hR1, he1, hd1⟩ := hp
    intro l hl
    subst hl
    cases ex <;> exact hex
  | goto l => intro ρ s s' ex a w hr hR he hd hb; simp [evCode] at hb
  | refuse w => intro ρ s s' ex a w hr hR he hd hb; simp [evCode] at hb
  | rangeFunc g ps assign body ih1 ih2 =>
    intro ρ s s' ex a w hr hR he hd hb
    simp only [evCode] at hb
    cases hhead : loopHead r s with
    | none => simp [hhead] at hb
    | some tr =>
    obtain ⟨d, h1, ds⟩ := tr
    simp only [hhead] at hb
    split at hb
    · rename_i f first captured hfe
      split at hb
      · rename_i hbod
        cases hcall : R.call f (first ++ [.yld h1.nx] ++ captured) (h1.new (.loop .ready none fn s.t n ps assign body d)) with
        | none => rw [hcall] at hb; cases hb
        | some vh =>
          obtain ⟨v, h3⟩ := vh
          rw [hcall] at hb
          simp only at hb
          refine wpIn_rangeFunc fun fnc _ => ?_
          obtain ⟨ρ1, l, mark, w1, hle1, hent, hR1, ⟨pl, hpl, hplb⟩, hDR⟩ := loopHead_sound (fnc := fnc) (fn := fn) (ps := ps) (assign := assign) (body := body) hr hR he hd hhead
          have hgv := (opnd_sound he g).mono hle1.le
          rw [hfe] at hgv
          generalize hcg : a.eval g = cg at hgv
          cases hgv with
          | func _ hl hm =>
          rename_i cfirst ccap _
          subst hplb
          have hargs : VRs ρ1 (first ++ [.yld h1.nx] ++ captured) ((cfirst ++ #[Value.func (.yield pl.b) #[] #[]]) ++ ccap).toList := by
            rw [Array.toList_append, Array.toList_append]
            exact (hl.append (.cons (.yld hpl) .nil)).append hm
          obtain ⟨nx, w2, hrun, hmm⟩ := hRec.call K ρ1 _ w1 f _ _ v h3 hR1 hargs hcall
          rw [callFunc_bodied hbod] at hrun
          cases hrun
          simp only at hmm
          refine ⟨pl.b, mark, w1, { target := .fn (.func f) ccap, args := cfirst ++ #[Value.func (.yield pl.b) #[] #[]] }, w1, f, _, w1, hent, ?_, fun _ _ => trivial, callFunc_bodied hbod _ w1, (fun hd => by cases hd), ?_⟩
          · simp only [resolve, rangeCall, Sem.run_bind, hcg, Deferred.ofValue, Sem.run_pure, Result.andThen_ok]
            simp [Act.eval]
          · refine CallsIn.mono (callsIn_any hmm) fun e w3 hpost => ?_
            obtain ⟨cv, rfl, ρ3, hle3, _, hR3⟩ := hpost
            have hpl3 := hle3.le _ _ hpl
            have hle := hle1.trans hle3
            unfold loopTail at hb
            split at hb
            · simp at hb
            · rename_i st pend fn' t' n' ps' a' b' d' hst hg3
              have hst : st ≠ .busy := hst
              obtain ⟨tmps3, pd3, fnc3, hh3, he3, hd3, hget3⟩ := getLoop_run (P := P) hR3 hpl3 hg3
              have hend : (Instr.endLoop pl.b).run P w3 = .ok pend { w3 with heap := w3.heap.setIfInBounds pl.b (.loop { state := .exhausted, pending := pend, fn := fnc3, tmps := tmps3, params := ps', assign := a', body := b', defers := pd3 }) } := by
                unfold Instr.endLoop
                have hnb : (st == LoopState.busy) = false := by cases st <;> first | rfl | exact absurd rfl hst
                simp only [Sem.run_bind, hget3, Result.andThen_ok, hnb, Bool.false_eq_true, if_false, run_setObj' hh3 (fun _ _ _ hc => by cases hc), Sem.run_pure]
              have hR4 := hR3.setObj hg3 hpl3 rfl rfl (o' := .loop .exhausted pend fn' t' n' ps' a' b' d') (co' := .loop { state := .exhausted, pending := pend, fn := fnc3, tmps := tmps3, params := ps', assign := a', body := b', defers := pd3 }) ⟨tmps3, pd3, fnc3, rfl, he3, hd3⟩
              refine ⟨pend, _, hend, ?_⟩
              simp only at hb
              split at hb
              · simp only [Option.some.injEq, Prod.mk.injEq] at hb
                obtain ⟨rfl, rfl⟩ := hb
                exact ⟨ρ3, hle, trivial, hR4, he.mono hle.le, hDR.mono hle3.le⟩
              · simp only [Option.some.injEq, Prod.mk.injEq] at hb
                obtain ⟨rfl, rfl⟩ := hb
                exact wpIn_ret ⟨ρ3, hle, trivial, hR4, he.mono hle.le, hDR.mono hle3.le⟩
              · simp only [Option.some.injEq, Prod.mk.injEq] at hb
                obtain ⟨rfl, rfl⟩ := hb
                exact wpIn_exit ⟨ρ3, hle, rfl, hR4, he.mono hle.le, hDR.mono hle3.le⟩
              · simp at hb
            · simp at hb
      · simp at hb
    · simp at hb

/-! ### Rounds -/
theorem setArgs_sound {ρ : Pm} : ∀ (ps : List Tmp) (as0 : List AV) (cas : List Value) (n : Nat) (t t' : Env) (tmps : Array Value), ER ρ t n tmps → VRs ρ as0 cas → setArgs ps as0 n t = some t' →
    ps.length = as0.length ∧ ER ρ t' n ((ps.zip cas).foldl (fun tmps (x : Tmp × Value) => tmps.setIfInBounds x.1 x.2) tmps)
  | [], [], cas, n, t, t', tmps, he, hv, hb => by
    simp only [setArgs, Option.some.injEq] at hb; subst hb
    exact ⟨rfl, by simpa using he⟩
  | p :: ps, a :: as0, cas, n, t, t', tmps, he, hv, hb => by
    cases hv with
    | cons h1 h2 =>
    simp only [setArgs] at hb
    split at hb
    · rename_i hlt
      obtain ⟨e1, e2⟩ := setArgs_sound ps as0 _ n _ t' _ (he.set hlt h1) h2 hb
      exact ⟨by simp [e1], by simpa using e2⟩
    · simp at hb
  | [], _ :: _, _, _, _, _, _, _, _, hb => by simp [setArgs] at hb
  | _ :: _, [], _, _, _, _, _, _, _, hb => by simp [setArgs] at hb

theorem evRound_ok {R : Rec} {k : Nat} (hRec : RecOK P k R) (hDraw : DrawOK P R) {ρ : Pm} {h : AH} {w : World} {id : Nat} {p : Pl} {args : List AV} {cargs : Array Value} {v : AV} {h' : AH} (hp : ρ id = some p) (hR : Rel K ρ h w) (hargs : VRs ρ args cargs.toList)
    (hb : evRound P R id args h = some (v, h')) : RoundRes P p.b cargs w (CallPost K h ρ v h') := by
  unfold evRound at hb
  split at hb
  · rename_i st pend fn t n ps assign body d hg
    obtain ⟨tmps, pd, fnc, hh, he, hd, hget⟩ := getLoop_run (P := P) hR hp hg
    cases hsa : setArgs ps.toList args n t with
    | none => simp [hsa] at hb
    | some t' =>
      simp only [hsa] at hb
      obtain ⟨hlen, he'⟩ := setArgs_sound ps.toList args cargs.toList n t t' tmps he hargs hsa
      have hsz : cargs.size = ps.size := by have := hargs.length; simp at hlen this; omega
      have hfold : (ps.zip cargs).foldl (fun tmps (x : Tmp × Value) => tmps.setIfInBounds x.1 x.2) tmps = (ps.toList.zip cargs.toList).foldl (fun tmps (x : Tmp × Value) => tmps.setIfInBounds x.1 x.2) tmps := by
        rw [← Array.foldl_toList, Array.toList_zip]
      refine ⟨fnc, (ps.zip cargs).foldl (fun tmps (x : Tmp × Value) => tmps.setIfInBounds x.1 x.2) tmps, assign, body, w, ?_, ?_⟩
      · unfold Instr.yield
        simp only [Sem.run_bind, hget, Result.andThen_ok, hsz, ne_eq, not_true, if_false, Sem.run_pure]
      · rw [hfold]
        split at hb
        · rename_i s1 h1
          split at hb
          · rename_i pend1 fn1 t1 n1 ps1 as1 bd1 d1 hg1
            split at hb
            · rename_i ex s2 h2
              split at hb
              · rename_i st2 pend2 fn2 t2 n2 ps2 as2 bd2 d2 hg2
                refine roundIn_of_wpIn trivial ?_
                have hassign := evCode_wp (r := some id) (cr := some p.b) hRec hDraw assign ρ { t := t', h, d := [] } s1 .normal { tmps := (ps.toList.zip cargs.toList).foldl (fun tmps (x : Tmp × Value) => tmps.setIfInBounds x.1 x.2) tmps, defers := [] } w ⟨p, hp, rfl⟩ hR he' trivial h1
                refine wpIn_mono (F := Wd (some p.b)) hassign fun e a1 w1 hpost => ?_
                obtain ⟨ρ1, hle1, hex, hR1, he1, hd1⟩ := hpost
                cases e <;> simp only [ExR] at hex
                have hp1 := hle1.le _ _ hp
                obtain ⟨tmps1, pd1, fnc1, hh1, he11, hd11, hget1⟩ := getLoop_run (P := P) hR1 hp1 hg1
                have hR1' := hR1.setObj hg1 hp1 rfl rfl (o' := .loop .busy pend1 fn1 t1 n1 ps1 as1 bd1 d1) (co' := .loop { state := .busy, pending := pend1, fn := fnc1, tmps := tmps1, params := ps1, assign := as1, body := bd1, defers := pd1 }) ⟨tmps1, pd1, fnc1, rfl, he11, hd11⟩
                refine ⟨{ w1 with heap := w1.heap.setIfInBounds p.b (.loop { state := .busy, pending := pend1, fn := fnc1, tmps := tmps1, params := ps1, assign := as1, body := bd1, defers := pd1 }) }, ?_, ?_⟩
                · unfold Instr.beginRound
                  simp only [Sem.run_bind, hget1, Result.andThen_ok, run_setObj' hh1 (fun _ _ _ hc => by cases hc), Sem.run_pure]
                have hbody := evCode_wp (r := some id) (cr := some p.b) hRec hDraw body ρ1 { s1 with h := s1.h.put id (.loop .busy pend1 fn1 t1 n1 ps1 as1 bd1 d1) } s2 ex a1 _ ⟨p, hp1, rfl⟩ hR1' he1 hd1 h2
                refine wpIn_mono (F := Wd (some p.b)) hbody fun e a2 w2 hpost2 => ?_
                obtain ⟨ρ2, hle2, hex2, hR2, he2, hd2⟩ := hpost2
                have hp2 := hle2.le _ _ hp1
                obtain ⟨tmps2, pd2, fnc2, hh2, he22, hd22, hget2⟩ := getLoop_run (P := P) hR2 hp2 hg2
                have hle := hle1.trans hle2
                have hend : ∀ (j : Option Code), ∃ w3, (Instr.endRound p.b j).run P w2 = .ok (.bool j.isNone) w3 ∧ Rel K ρ2 (s2.h.put id (.loop (if j.isNone then .ready else .done) j fn2 t2 n2 ps2 as2 bd2 d2)) w3 := by
                  intro j
                  refine ⟨_, ?_, hR2.setObj hg2 hp2 rfl rfl (o' := .loop (if j.isNone then .ready else .done) j fn2 t2 n2 ps2 as2 bd2 d2) (co' := .loop { state := if j.isNone then .ready else .done, pending := j, fn := fnc2, tmps := tmps2, params := ps2, assign := as2, body := bd2, defers := pd2 }) ⟨tmps2, pd2, fnc2, rfl, he22, hd22⟩⟩
                  unfold Instr.endRound
                  simp only [Sem.run_bind, hget2, Result.andThen_ok, run_setObj' hh2 (fun _ _ _ hc => by cases hc), Sem.run_pure]
                cases ex with
                | normal =>
                  simp only [Option.some.injEq, Prod.mk.injEq] at hb
                  obtain ⟨rfl, rfl⟩ := hb
                  cases e <;> simp only [ExR] at hex2
                  obtain ⟨w3, q1, q2⟩ := hend none
                  exact ⟨_, w3, q1, _, rfl, ρ2, hle, .bool _, q2⟩
                | ret =>
                  simp only [Option.some.injEq, Prod.mk.injEq] at hb
                  obtain ⟨rfl, rfl⟩ := hb
                  cases e <;> simp only [ExR] at hex2
                  obtain ⟨w3, q1, q2⟩ := hend (some .ret)
                  exact ⟨_, w3, q1, _, rfl, ρ2, hle, .bool _, q2⟩
                | exit i =>
                  simp only [Option.some.injEq, Prod.mk.injEq] at hb
                  obtain ⟨rfl, rfl⟩ := hb
                  cases e <;> simp only [ExR] at hex2
                  subst hex2
                  obtain ⟨w3, q1, q2⟩ := hend (some (.exit i))
                  exact ⟨_, w3, q1, _, rfl, ρ2, hle, .bool _, q2⟩
              · simp at hb
            · simp at hb
          · simp at hb
        · simp at hb
  · simp at hb

end
end Go.Abs
end

section
namespace Go.Abs
open Go
set_option linter.unusedVariables false
set_option linter.unusedSimpArgs false

section
variable {P : Program} {K : Kp}

def SumsOK (P : Program) (S : Sums) : Prop :=
  ∀ (K : Kp) (ρ : Pm) (h : AH) (w : World) (f : FuncId) (args : List AV) (cargs : Array Value) (v : AV) (h' : AH), Rel K ρ h w → VRs ρ args cargs.toList → S f args h = some (v, h') →
    CallRes P f cargs w (CallPost K h ρ v h')

theorem argsEnv_sound {ρ : Pm} : ∀ (l : List AV) (i n : Nat) (t : Env) (tmps : Array Value), ER ρ t n tmps → i + l.length ≤ n → (∀ j a, l[j]? = some a → ∃ v, tmps[i + j]? = some v ∧ VR ρ a v) → ER ρ (argsEnv l i t) n tmps
  | [], i, n, t, tmps, he, _, _ => he
  | a :: l, i, n, t, tmps, he, hle, hv => by
    simp only [argsEnv]
    refine argsEnv_sound l (i + 1) n _ tmps ⟨he.1, fun j b hj => ?_⟩ (by simp at hle; omega) (fun j b hj => ?_)
    · rw [Tr.get_set] at hj
      by_cases e : j = i
      · subst e
        simp only [if_true, Option.some.injEq] at hj
        subst hj
        obtain ⟨v, h1, h2⟩ := hv 0 a rfl
        exact ⟨v, by simpa using h1, h2⟩
      · rw [if_neg e] at hj
        exact he.2 j b hj
    · obtain ⟨v, h1, h2⟩ := hv (j + 1) b (by simpa using hj)
      exact ⟨v, by rw [show i + 1 + j = i + (j + 1) by omega]; exact h1, h2⟩

theorem takeMarks_nx : ∀ (ds : List Nat) (h h' : AH), takeMarks ds h = some h' → h'.nx = h.nx
  | [], h, h', hb => by simp only [takeMarks, Option.some.injEq] at hb; subst hb; rfl
  | d :: ds, h, h', hb => by
    simp only [takeMarks] at hb
    split at hb
    · rw [takeMarks_nx ds _ h' hb]; rfl
    · simp at hb

theorem takeMarks_sound {ρ : Pm} {fn : Func} {tmps : Array Value} {Rr : Ending → World → Prop} : ∀ (ds : List Nat) (h h' : AH) (l : List Deferred) (w : World), Rel K ρ h w → DR ρ ds l → takeMarks ds h = some h' →
    (∀ w', Rel K ρ h' w' → LeavesIn Fence.wide 0 P fn tmps Rr [] .returning w') → LeavesInM Fence.wide 0 P fn tmps Rr l .returning w
  | [], h, h', [], w, hR, _, hb, hk => by
    simp only [takeMarks, Option.some.injEq] at hb; subst hb
    exact hk w hR
  | d :: ds, h, h', x :: l, w, hR, ⟨⟨p, hp, hx⟩, ht⟩, hb, hk => by
    simp only [takeMarks] at hb
    split at hb
    · rename_i hg
      subst hx
      obtain ⟨q, hq, ho, _⟩ := hR.obj d _ hg
      rw [hp] at hq; cases hq
      have hh : w.heap[p.b]? = some (.deferred (some [])) := ho
      have hR' := hR.setObj hg hp rfl rfl (o' := .defs false) (co' := .deferred none) rfl
      refine ⟨(fun hc => by cases hc), .inl ⟨p.b, _, rfl, ?_, takeMarks_sound ds _ h' l _ hR' ht hb hk⟩⟩
      unfold Instr.takeDeferred
      simp only [Sem.run_bind, run_getObj' hh (fun _ _ _ hc => by cases hc), Result.andThen_ok, run_setObj' hh (fun _ _ _ hc => by cases hc), Sem.run_pure]
    · simp at hb
  | [], _, _, _ :: _, _, _, hh, _, _ => hh.elim
  | _ :: _, _, _, [], _, _, hh, _, _ => hh.elim

def resSem (tmps : Array Value) : ResultVar → Sem Value
  | .tmp t => pure (tmps.getD t undef)
  | .cell a t => do loadVar t (← asAddr (tmps.getD a undef))

theorem results_eq (fn : Func) (tmps : Array Value) : results fn tmps = (do
    let vs ← fn.results.mapM (resSem tmps)
    pure (if h : vs.size = 1 then vs[0] else .tuple vs)) := by
  unfold results
  congr 1

theorem resultA_sound {ρ : Pm} {h : AH} {w : World} {t : Env} {n : Nat} {tmps : Array Value} {rv : ResultVar} {a : AV} (hR : Rel K ρ h w) (he : ER ρ t n tmps) (hb : resultA P h t rv = some a) :
    ∃ v, (resSem tmps rv).run P w = .ok v w ∧ VR ρ a v := by
  have hget : ∀ i, VR ρ ((t.get i).getD .junk) (tmps.getD i undef) := fun i => by
    cases hg : t.get i with
    | none => exact .junk _
    | some v =>
      obtain ⟨u, hu, r⟩ := he.2 i v hg
      simpa [Array.getD_eq_getD_getElem?, hu] using r
  cases rv with
  | tmp i =>
    simp only [resultA, Option.some.injEq] at hb
    subst hb
    exact ⟨_, rfl, hget i⟩
  | cell x ty =>
    simp only [resultA] at hb
    obtain ⟨cv, r1, r2⟩ := evLoad_sound (P := P) hR (hget x) hb
    refine ⟨cv, ?_, r2⟩
    have hx := hget x
    generalize (t.get x).getD .junk = xa at hb hx
    unfold evLoad at hb
    split at hb
    · rw [show resSem tmps (.cell x ty) = (do loadVar ty (← asAddr (tmps.getD x undef))) from rfl]
      generalize tmps.getD x undef = cx at hx r1 ⊢
      cases hx with
      | ptr hp =>
      simpa [Instr.loadAt, Instr.sureAddr, asAddr] using r1
    · simp at hb

theorem resultsA_sound {ρ : Pm} {h : AH} {w : World} {t : Env} {n : Nat} {tmps : Array Value} {fn : Func} {v : AV} (hR : Rel K ρ h w) (he : ER ρ t n tmps) (hb : resultsA P h t fn.results.toList = some v) :
    ∃ cv, (results fn tmps).run P w = .ok cv w ∧ VR ρ v cv := by
  have key : ∀ (l : List ResultVar) (vs : List AV), l.mapM (resultA P h t) = some vs → ∃ cvs : List Value, (l.mapM (m := Sem) (resSem tmps)).run P w = .ok cvs w ∧ VRs ρ vs cvs := by
    intro l
    induction l with
    | nil => intro vs hb; simp at hb; subst hb; exact ⟨[], rfl, .nil⟩
    | cons r l ih =>
      intro vs hb
      rw [List.mapM_cons] at hb
      cases h1 : resultA P h t r with
      | none => simp [h1] at hb
      | some a =>
        cases h2 : l.mapM (resultA P h t) with
        | none => simp [h1, h2] at hb
        | some as0 =>
          simp only [h1, h2, Option.bind_eq_bind, Option.bind_some, Option.pure_def, Option.some.injEq] at hb
          subst hb
          obtain ⟨cv, r1, r2⟩ := resultA_sound hR he h1
          obtain ⟨cvs, r3, r4⟩ := ih as0 h2
          refine ⟨cv :: cvs, ?_, .cons r2 r4⟩
          rw [List.mapM_cons, Sem.run_bind, r1]
          simp only [Result.andThen_ok, Sem.run_bind]
          rw [r3]
          rfl
  unfold resultsA at hb
  cases hm : fn.results.toList.mapM (resultA P h t) with
  | none => simp [hm] at hb
  | some vs =>
    obtain ⟨cvs, r1, r2⟩ := key _ vs hm
    have hr : (results fn tmps).run P w = .ok (if h : cvs.toArray.size = 1 then cvs.toArray[0] else .tuple cvs.toArray) w := by
      rw [results_eq, Sem.run_bind, Array.mapM_eq_mapM_toList, Sem.run_map, r1]
      rfl
    rw [hr]
    rw [hm] at hb
    cases r2 with
    | nil =>
      simp only [Option.some.injEq] at hb; subst hb
      exact ⟨_, rfl, .tup .nil⟩
    | cons a1 t1 =>
      cases t1 with
      | nil =>
        simp only [Option.some.injEq] at hb; subst hb
        exact ⟨_, rfl, by simpa using a1⟩
      | cons a2 t2 =>
        simp only [Option.some.injEq] at hb; subst hb
        exact ⟨_, rfl, by simpa using VR.tup (.cons a1 (.cons a2 t2))⟩

theorem roundsIn_mono {F : Fence} {n : Nat} {c : Code} {Q Q' : Exit → Act → World → Prop} (hq : ∀ e a w, Q e a w → Q' e a w) : ∀ (m : Nat) (a : Act) (w : World), Code.roundsIn F n P c Q m a w → Code.roundsIn F n P c Q' m a w
  | 0, a, w, hh => hh.elim
  | m + 1, a, w, hh => by
    rw [roundsIn_succ] at hh ⊢
    refine wpIn_mono hh fun e a w he => ?_
    cases e <;> simp only [Exit.then] at he ⊢ <;> first | exact roundsIn_mono hq m _ _ he | exact hq _ _ _ he

theorem evFn_ok {S : Sums} (hS : SumsOK P S) {R : Rec} {k : Nat} (hRec : RecOK P k R) (hDraw : DrawOK P R) {ρ : Pm} {h : AH} {w : World} {f : FuncId} {args : List AV} {cargs : Array Value} {v : AV} {h' : AH} (hR : Rel K ρ h w) (hargs : VRs ρ args cargs.toList)
    (hb : evFn P S R f args h = some (v, h')) : CallRes P f cargs w (CallPost K h ρ v h') := by
  unfold evFn at hb
  split at hb
  · rename_i r hs
    simp only [Option.some.injEq] at hb
    subst hb
    exact hS K ρ h w f args cargs v h' hR hargs hs
  · split at hb
    · simp at hb
    · rename_i hbod
      have hbod' : bodied P f = true := by
        cases hh : bodied P f with
        | true => rfl
        | false => rw [hh] at hbod; simp at hbod
      refine ⟨.enter f cargs, w, callFunc_bodied hbod' cargs w, ?_⟩
      split at hb
      · rename_i fn hf
        split at hb
        · rename_i c hc
          have hlen : args.length = cargs.size := by have := hargs.length; simpa using this
          have he0 : ER ρ (argsEnv args 0 .nil) (nTmps fn args) (cargs ++ Array.replicate (fn.ntmps - cargs.size) undef) := by
            refine argsEnv_sound args 0 _ .nil _ ⟨by simp [nTmps, hlen], fun i a hi => by rw [Tr.get_nil] at hi; cases hi⟩ (by simp [nTmps]) (fun j a hj => ?_)
            obtain ⟨u, hu, r⟩ := hargs.get hj
            refine ⟨u, ?_, r⟩
            have hjl : j < cargs.size := by have := (List.getElem?_eq_some_iff.1 hu).1; simpa using this
            rw [Nat.zero_add, Array.getElem?_append_left hjl, ← Array.getElem?_toList]
            exact hu
          refine callsIn_of_wp_marks hf hc trivial ?_
          -- how the body may end
          have ends : ∀ (ex : Ex) (s : St), (ex = .normal ∨ ex = .ret) → (match takeMarks s.d s.h with | some h' => (resultsA P h' s.t fn.results.toList).map (·, h') | none => none) = some (v, h') →
              ∀ e a w', CodePost K h.nx ρ (nTmps fn args) ex s e a w' → bodyPostM Fence.wide 0 P fn (fun e w2 => ∃ cv, e = .returned cv ∧ CallPost K h ρ v h' cv w2) e a w' := by
            intro ex s hex hs e a w' hpost
            obtain ⟨ρ1, hle, hx, hR1, he1, hd1⟩ := hpost
            cases ht : takeMarks s.d s.h with
            | none => simp [ht] at hs
            | some h2 =>
              cases hres : resultsA P h2 s.t fn.results.toList with
              | none => simp [ht, hres] at hs
              | some v2 =>
                simp only [ht, hres, Option.map_some, Option.some.injEq, Prod.mk.injEq] at hs
                obtain ⟨rfl, rfl⟩ := hs
                have hleave := takeMarks_sound (P := P) (fn := fn) (tmps := a.tmps) (Rr := fun e w2 => ∃ cv, e = .returned cv ∧ CallPost K h ρ v2 h2 cv w2) s.d s.h h2 a.defers w' hR1 hd1 ht (fun w2 hR2 => by
                  obtain ⟨cv, r1, r2⟩ := resultsA_sound hR2 he1 hres
                  exact ⟨cv, r1, cv, rfl, ρ1, ⟨hle.le, by rw [takeMarks_nx _ _ _ ht]; exact hle.nx, hle.old⟩, r2, hR2⟩)
                rcases hex with rfl | rfl <;> cases e <;> simp only [ExR] at hx <;> exact hleave
          split at hb
          · simp at hb
          · rename_i ex s hne heq
            have hex : ex = .normal ∨ ex = .ret := by
              cases ex with
              | normal => exact .inl rfl
              | ret => exact .inr rfl
              | exit i => exact (hne i rfl).elim
            exact wpIn_mono (evCode_wp (r := none) (cr := none) hRec hDraw c ρ { t := argsEnv args 0 .nil, h, d := [] } s ex { tmps := cargs ++ Array.replicate (fn.ntmps - cargs.size) undef, defers := [] } w trivial hR he0 trivial heq) (ends ex s hex hb)
          · simp at hb
        · simp at hb
      · simp at hb

theorem evN_ok {S : Sums} (hS : SumsOK P S) (hDraw : ∀ (k : Nat) (R : Rec), RecOK P k R → DrawOK P R) : ∀ k, RecOK P k (evN P S k)
  | 0 => ⟨fun _ _ _ _ _ _ _ _ _ _ _ hb => by simp [evN] at hb, fun _ _ _ _ _ _ _ _ _ _ _ _ _ hb => by simp [evN] at hb, fun _ _ _ _ _ _ _ _ _ _ _ _ _ _ _ _ hb => by simp [evN] at hb⟩
  | k + 1 => by
    have ih := evN_ok hS hDraw k
    have hd := hDraw k _ ih
    refine ⟨fun K ρ h w f args cargs v h' hR hargs hb => evFn_ok hS ih hd hR hargs hb, fun K ρ h w id p args cargs v h' hp hR hargs hb => evRound_ok ih hd hp hR hargs hb, fun K ρ w a r cr fn n c s s' ex hr hR he hdr hb => ?_⟩
    rw [roundsIn_succ]
    simp only [evN] at hb
    cases h1 : evCode P (evN P S k) r fn n c s with
    | none => simp [h1] at hb
    | some es =>
      obtain ⟨e1, s1⟩ := es
      refine wpIn_mono (evCode_wp ih hd c ρ s s1 e1 a w hr hR he hdr h1) fun e a1 w1 hp => ?_
      obtain ⟨ρ1, hle, hex, hR1, he1, hd1⟩ := hp
      cases e1 with
      | normal =>
        simp only [h1] at hb
        cases e <;> simp only [ExR] at hex
        have := ih.loop K ρ1 w1 a1 r cr fn n c s1 s' ex (hr.mono hle.le) hR1 he1 hd1 hb
        simp only [Exit.then]
        exact roundsIn_mono (fun e a w hq => by
          obtain ⟨ρ2, hle2, rest⟩ := hq
          exact ⟨ρ2, hle.trans hle2, rest⟩) k _ _ this
      | exit i =>
        simp only [h1, Option.some.injEq, Prod.mk.injEq] at hb
        obtain ⟨rfl, rfl⟩ := hb
        cases e <;> simp only [ExR] at hex
        exact ⟨ρ1, hle, hex, hR1, he1, hd1⟩
      | ret =>
        simp only [h1, Option.some.injEq, Prod.mk.injEq] at hb
        obtain ⟨rfl, rfl⟩ := hb
        cases e <;> simp only [ExR] at hex
        exact ⟨ρ1, hle, trivial, hR1, he1, hd1⟩

end
end Go.Abs
end

section
namespace Go.Abs
open Go
set_option linter.unusedVariables false
set_option linter.unusedSimpArgs false

section
variable {P : Program} {ρ : Pm} {w : World} {K : Kp} {h : AH}

structure KExt (K Kx : Kp) : Prop where
  os : Kx.os = K.os
  tape : Kx.tape = K.tape
  output : Kx.output = K.output
  size : Kx.size = K.size
  ro : Kx.ro = K.ro
  at_ : ∀ b o, K.at_ b = some o → Kx.at_ b = some o

def Held (K Kx : Kp) (ρ : Pm) (id : Nat) (ob : AO) : Prop :=
  ∃ pl co, ρ id = some pl ∧ OR ρ pl ob (some co) ∧ ob.own = true ∧ K.at_ pl.b = none ∧ K.size ≤ pl.b ∧ Kx.at_ pl.b = some co

def Framed (K : Kp) (ρ : Pm) (h : AH) (w : World) (S : Nat → AO → Prop) : Prop :=
  ∃ Kx, KExt K Kx ∧ Rel Kx ρ h w ∧ (∀ id ob, S id ob → Held K Kx ρ id ob) ∧
    ∀ id ob id' ob' pl pl', S id ob → S id' ob' → id ≠ id' → ρ id = some pl → ρ id' = some pl' → pl.b ≠ pl'.b

theorem Framed.of_rel (hR : Rel K ρ h w) {S : Nat → AO → Prop} (hS : ∀ id ob, ¬ S id ob) : Framed K ρ h w S :=
  ⟨K, ⟨rfl, rfl, rfl, rfl, rfl, fun _ _ h => h⟩, hR, fun id ob hs => (hS id ob hs).elim, fun id ob _ _ _ _ hs => (hS id ob hs).elim⟩

theorem Framed.rel {S : Nat → AO → Prop} (hF : Framed K ρ h w S) : Rel K ρ h w := by
  obtain ⟨Kx, hK, hR, _, _⟩ := hF
  refine ⟨hR.os.trans hK.os, hR.tape.trans hK.tape, hR.output.trans hK.output, by rw [← hK.size]; exact hR.size, fun b o hb => hR.keep b o (hK.at_ b o hb), hR.fresh, fun id o hg => ?_, hR.inj⟩
  obtain ⟨p, hp, hor, h1, h2⟩ := hR.obj id o hg
  refine ⟨p, hp, hor, fun ho => ⟨?_, by rw [← hK.size]; exact (h1 ho).2⟩, fun ho => by rw [← hK.ro]; exact h2 ho⟩
  cases hk : K.at_ p.b with
  | none => rfl
  | some x => have := hK.at_ _ _ hk; rw [(h1 ho).1] at this; cases this

theorem Framed.weaken {S S' : Nat → AO → Prop} (hF : Framed K ρ h w S) (hs : ∀ id ob, S' id ob → S id ob) : Framed K ρ h w S' := by
  obtain ⟨Kx, hK, hR, h1, h2⟩ := hF
  exact ⟨Kx, hK, hR, fun id ob h => h1 id ob (hs id ob h), fun id ob id' ob' pl pl' a b => h2 id ob id' ob' pl pl' (hs _ _ a) (hs _ _ b)⟩

theorem Framed.absorb1 {S : Nat → AO → Prop} (hF : Framed K ρ h w S) {id : Nat} {ob : AO} (hs : S id ob) : Framed K ρ (h.put id ob) w (fun i o => S i o ∧ i ≠ id) := by
  obtain ⟨Kx, hK, hR, h1, h2⟩ := hF
  obtain ⟨pl, co, hpl, hor, hown, hKn, hKs, hKx⟩ := h1 id ob hs
  have hro : Kx.ro pl.b = false := by
    rw [hK.ro]
    cases hr : K.ro pl.b with
    | false => rfl
    | true => have := K.roAt _ hr; rw [hKn] at this; cases this
  have hroAt : ∀ b, Kx.ro b = true → ((fun b => if b = pl.b then none else Kx.at_ b) b).isSome = true := fun b hb => by
    have hne : b ≠ pl.b := fun e => by rw [e, hro] at hb; cases hb
    simp only [if_neg hne]; exact Kx.roAt b hb
  let Ky : Kp := { os := Kx.os, tape := Kx.tape, output := Kx.output, size := Kx.size, at_ := fun b => if b = pl.b then none else Kx.at_ b, ro := Kx.ro, roAt := hroAt }
  refine ⟨Ky, ⟨hK.os, hK.tape, hK.output, hK.size, hK.ro, fun b o hb => ?_⟩, ⟨hR.os, hR.tape, hR.output, hR.size, fun b o hb => ?_, fun i hi => hR.fresh i (by simpa using hi), fun i o hg => ?_, ?_⟩, fun i o hio => ?_, fun i o i' o' pi pi' hi hi' hne => h2 i o i' o' pi pi' hi.1 hi'.1 hne⟩
  · have hne : b ≠ pl.b := fun e => by rw [e, hKn] at hb; cases hb
    simp only [Ky, if_neg hne]; exact hK.at_ b o hb
  · by_cases e : b = pl.b
    · simp only [Ky, if_pos e] at hb; cases hb
    · simp only [Ky, if_neg e] at hb; exact hR.keep b o hb
  · rw [AH.get_put] at hg
    by_cases e : i = id
    · subst e
      simp only [if_true, Option.some.injEq] at hg
      subst hg
      refine ⟨pl, hpl, by rw [hR.keep _ _ hKx]; exact hor, fun _ => ⟨by simp [Ky], by show Kx.size ≤ _; rw [hK.size]; exact hKs⟩, fun hn => by rw [hown] at hn; cases hn⟩
    · rw [if_neg e] at hg
      obtain ⟨p, hp, ho, a1, a2⟩ := hR.obj i o hg
      refine ⟨p, hp, ho, fun hw => ⟨?_, (a1 hw).2⟩, a2⟩
      by_cases e' : p.b = pl.b
      · simp [Ky, e']
      · simp only [Ky, if_neg e']; exact (a1 hw).1
  · intro i j oi oj pi pj hi hj ho1 ho2 hpi hpj hb
    rw [AH.get_put] at hi hj
    have key : ∀ (i : Nat) (oi : AO) (pi : Pl), h.get i = some oi → oi.own = true → ρ i = some pi → pi.b ≠ pl.b := fun i oi pi hi ho hp eb => by
      obtain ⟨p, hp', _, a1, _⟩ := hR.obj i oi hi
      rw [hp] at hp'; cases hp'
      have := (a1 ho).1
      rw [eb, hKx] at this; cases this
    by_cases ei : i = id <;> by_cases ej : j = id
    · rw [ei, ej]
    · rw [if_neg ej] at hj
      subst ei
      rw [hpl] at hpi; cases hpi
      exact (key j oj pj hj ho2 hpj hb.symm).elim
    · rw [if_neg ei] at hi
      subst ej
      rw [hpl] at hpj; cases hpj
      exact (key i oi pi hi ho1 hpi hb).elim
    · rw [if_neg ei] at hi
      rw [if_neg ej] at hj
      exact hR.inj i j oi oj pi pj hi hj ho1 ho2 hpi hpj hb
  · obtain ⟨p, c, b1, b2, b3, b4, b5, b6⟩ := h1 i o hio.1
    have hne : p.b ≠ pl.b := h2 i o id ob p pl hio.1 hs hio.2 b1 hpl
    exact ⟨p, c, b1, b2, b3, b4, b5, by simp only [Ky, if_neg hne]; exact b6⟩

theorem Framed.absorbL : ∀ (L : List (Nat × AO)) {h : AH} {S : Nat → AO → Prop}, Framed K ρ h w S → (L.map (·.1)).Nodup → (∀ id ob, (id, ob) ∈ L → S id ob) → Framed K ρ (absorb L h) w (fun i o => S i o ∧ ∀ ob, (i, ob) ∉ L)
  | [], h, S, hF, _, _ => by
    refine hF.weaken fun id ob hs => hs.1
  | (id, ob) :: L, h, S, hF, hn, hL => by
    simp only [List.map_cons, List.nodup_cons] at hn
    have hF1 := hF.absorb1 (hL id ob (List.mem_cons_self ..))
    have hF2 := Framed.absorbL L hF1 hn.2 fun i o hi => ⟨hL i o (List.mem_cons_of_mem _ hi), fun e => hn.1 (by subst e; exact List.mem_map_of_mem (f := (·.1)) hi)⟩
    refine hF2.weaken fun i o hs => ⟨⟨hs.1, fun e => hs.2 ob (by subst e; exact List.mem_cons_self ..)⟩, fun o' hm => hs.2 o' (List.mem_cons_of_mem _ hm)⟩

theorem absorb_nx : ∀ (L : List (Nat × AO)) (h : AH), (absorb L h).nx = h.nx
  | [], _ => rfl
  | (id, ob) :: L, h => by simp [absorb, absorb_nx L]

theorem Framed.make {S : Nat → AO → Prop} (hF : Framed K ρ h w S) {id : Nat} {ob : AO} {co : Obj} {lim : Nat} (hid : id < h.nx) (hnone : ρ id = none) (hown : ob.own = true)
    (hor : OR (ρ.put id ⟨w.heap.size, 0, lim⟩) ⟨w.heap.size, 0, lim⟩ ob (some co)) :
    Framed K (ρ.put id ⟨w.heap.size, 0, lim⟩) h { w with heap := w.heap.push co } (fun i o => S i o ∨ (i = id ∧ o = ob)) := by
  obtain ⟨Kx, hK, hR, h1, h2⟩ := hF
  have hle : ρ.le (ρ.put id ⟨w.heap.size, 0, lim⟩) := Pm.le_put hnone
  have hold : ∀ b, b < w.heap.size → (w.heap.push co)[b]? = w.heap[b]? := fun b hb => by rw [Array.getElem?_push, if_neg (by omega)]
  have hKn : Kx.at_ w.heap.size = none := by
    cases hk : Kx.at_ w.heap.size with
    | none => rfl
    | some o' => have := hR.size_le _ _ hk; omega
  have hKn0 : K.at_ w.heap.size = none := by
    cases hk : K.at_ w.heap.size with
    | none => rfl
    | some o' => have := hK.at_ _ _ hk; rw [hKn] at this; cases this
  have hroAt : ∀ b, Kx.ro b = true → ((fun b => if b = w.heap.size then some co else Kx.at_ b) b).isSome = true := fun b hb => by
    by_cases e : b = w.heap.size
    · simp [e]
    · simp only [if_neg e]; exact Kx.roAt b hb
  let Ky : Kp := { os := Kx.os, tape := Kx.tape, output := Kx.output, size := Kx.size, at_ := fun b => if b = w.heap.size then some co else Kx.at_ b, ro := Kx.ro, roAt := hroAt }
  have hsame : ∀ i pi, i ≠ id → (ρ.put id ⟨w.heap.size, 0, lim⟩) i = some pi → ρ i = some pi := fun i pi hne hp => by simpa [Pm.put, hne] using hp
  refine ⟨Ky, ⟨hK.os, hK.tape, hK.output, hK.size, hK.ro, fun b o hb => ?_⟩, ⟨hR.os, hR.tape, hR.output, by simp; have := hR.size; exact Nat.le_succ_of_le this, fun b o hb => ?_, fun i hi => ?_, fun i o hg => ?_, ?_⟩, fun i o hio => ?_, ?_⟩
  · have hne : b ≠ w.heap.size := fun e => by rw [e, hKn0] at hb; cases hb
    simp only [Ky, if_neg hne]; exact hK.at_ b o hb
  · by_cases e : b = w.heap.size
    · simp only [Ky, if_pos e, Option.some.injEq] at hb
      subst hb; subst e; simp
    · simp only [Ky, if_neg e] at hb
      rw [show ({ w with heap := w.heap.push co } : World).heap = w.heap.push co from rfl, hold b (hR.size_le b o hb)]
      exact hR.keep b o hb
  · have hne : i ≠ id := by omega
    simp only [Pm.put, if_neg hne]; exact hR.fresh i hi
  · obtain ⟨p, hp, ho, a1, a2⟩ := hR.obj i o hg
    have hlt := hR.lt hg hp
    refine ⟨p, hle _ _ hp, ?_, fun hw => ⟨?_, (a1 hw).2⟩, a2⟩
    · rw [show ({ w with heap := w.heap.push co } : World).heap = w.heap.push co from rfl, hold p.b hlt]
      exact ho.mono hle
    · have hne : p.b ≠ w.heap.size := by omega
      simp only [Ky, if_neg hne]; exact (a1 hw).1
  · intro i j oi oj pi pj hi hj ho1 ho2 hpi hpj hb
    have fi : i ≠ id := fun e => by
      obtain ⟨p, hp, _⟩ := hR.obj i oi hi
      rw [e, hnone] at hp; cases hp
    have fj : j ≠ id := fun e => by
      obtain ⟨p, hp, _⟩ := hR.obj j oj hj
      rw [e, hnone] at hp; cases hp
    exact hR.inj i j oi oj pi pj hi hj ho1 ho2 (hsame i pi fi hpi) (hsame j pj fj hpj) hb
  · rcases hio with hs | ⟨rfl, rfl⟩
    · obtain ⟨p, c, b1, b2, b3, b4, b5, b6⟩ := h1 i o hs
      have hne : p.b ≠ w.heap.size := fun e => by rw [e, hKn] at b6; cases b6
      exact ⟨p, c, hle _ _ b1, b2.mono hle, b3, b4, b5, by simp only [Ky, if_neg hne]; exact b6⟩
    · exact ⟨⟨w.heap.size, 0, lim⟩, co, Pm.put_self _ _ _, hor, hown, hKn0, by have := hR.size; rw [hK.size] at this; exact this, by simp [Ky]⟩
  · have hfar : ∀ i o pi, S i o → (ρ.put id ⟨w.heap.size, 0, lim⟩) i = some pi → pi.b ≠ w.heap.size ∧ i ≠ id ∧ ρ i = some pi := fun i o pi hs hp => by
      obtain ⟨p, c, b1, b2, b3, b4, b5, b6⟩ := h1 i o hs
      have hne : i ≠ id := fun e => by rw [e, hnone] at b1; cases b1
      have := hsame i pi hne hp
      rw [b1] at this; cases this
      exact ⟨(fun e => by rw [e, hKn] at b6; cases b6), hne, b1⟩
    intro i o i' o' pi pi' hs hs' hne hp hp'
    rcases hs with hs | ⟨rfl, rfl⟩ <;> rcases hs' with hs' | ⟨rfl, rfl⟩
    · exact h2 i o i' o' pi pi' hs hs' hne (hfar i o pi hs hp).2.2 (hfar i' o' pi' hs' hp').2.2
    · rw [Pm.put_self] at hp'; cases hp'
      exact (hfar i o pi hs hp).1
    · rw [Pm.put_self] at hp; cases hp
      exact fun e => (hfar i' o' pi' hs' hp').1 e.symm
    · exact (hne rfl).elim

theorem Framed.step {S : Nat → AO → Prop} (hF : Framed K ρ h w S) (hlt : ∀ id ob, S id ob → id < h.nx) :
    ∃ Kx, Rel Kx ρ h w ∧ ∀ ρ' h' w', Ext h.nx ρ h'.nx ρ' → Rel Kx ρ' h' w' → Framed K ρ' h' w' S := by
  obtain ⟨Kx, hK, hR, h1, h2⟩ := hF
  refine ⟨Kx, hR, fun ρ' h' w' hE hR' => ⟨Kx, hK, hR', fun id ob hs => ?_, fun id ob id' ob' pl pl' hs hs' hne hp hp' => ?_⟩⟩
  · obtain ⟨p, c, b1, b2, b3, b4, b5, b6⟩ := h1 id ob hs
    exact ⟨p, c, hE.le _ _ b1, b2.mono hE.le, b3, b4, b5, b6⟩
  · rw [hE.old _ (hlt _ _ hs)] at hp
    rw [hE.old _ (hlt _ _ hs')] at hp'
    exact h2 id ob id' ob' pl pl' hs hs' hne hp hp'

end
end Go.Abs
end

section
namespace Go.Abs
open Go
set_option linter.unusedVariables false
set_option linter.unusedSimpArgs false

section
variable {P : Program}

theorem mbit_eq (m i : Nat) : mbit m i = m.testBit i := by
  unfold mbit
  rw [nbeq, Nat.testBit_eq_decide_div_mod_eq]
  congr 1
  rw [show Nat.shiftRight m i = m >>> i from rfl, Nat.shiftRight_eq_div_pow]

theorem mbit_lor (a b i : Nat) : mbit (Nat.lor a b) i = (mbit a i || mbit b i) := by
  rw [mbit_eq, mbit_eq, mbit_eq, show Nat.lor a b = a ||| b from rfl, Nat.testBit_or]

theorem mbit_pow (k i : Nat) : mbit (2 ^ k) i = decide (k = i) := by
  rw [mbit_eq, Nat.testBit_two_pow]

theorem mbit_zero (i : Nat) : mbit 0 i = false := by
  rw [mbit_eq, Nat.zero_testBit]

theorem edgeMask_spec {ms : List Nat} {i : Nat} : ∀ (l : List Edge) (m0 m : Nat), edgeMask ms i l m0 = some m →
    (∀ e ∈ l, Region.binds .any e = true → e.on < i) ∧
    ∀ b, mbit m b = true → mbit m0 b = true ∨ ∃ e ∈ l, Region.binds .any e = true ∧ (e.on = b ∨ mbit (ms.getD e.on 0) b = true)
  | [], m0, m, h => by
    simp only [edgeMask, Option.some.injEq] at h
    subst h
    exact ⟨fun e he => (by cases he), fun b hb => .inl hb⟩
  | e :: l, m0, m, h => by
    simp only [edgeMask] at h
    split at h
    · rename_i hbi
      split at h
      · rename_i hlt
        obtain ⟨h1, h2⟩ := edgeMask_spec l _ m h
        refine ⟨fun e' he' hb' => ?_, fun b hb => ?_⟩
        · rcases List.mem_cons.1 he' with rfl | he'
          · exact hlt
          · exact h1 e' he' hb'
        · rcases h2 b hb with h3 | ⟨e', he', h3⟩
          · rw [mbit_lor, mbit_lor, mbit_pow] at h3
            simp only [Bool.or_eq_true, decide_eq_true_eq] at h3
            rcases h3 with h3 | h3 | h3
            · exact .inl h3
            · exact .inr ⟨e, List.mem_cons_self .., hbi, .inl h3⟩
            · exact .inr ⟨e, List.mem_cons_self .., hbi, .inr h3⟩
          · exact .inr ⟨e', List.mem_cons_of_mem _ he', h3⟩
      · simp at h
    · rename_i hbi
      obtain ⟨h1, h2⟩ := edgeMask_spec l _ m h
      refine ⟨fun e' he' hb' => ?_, fun b hb => ?_⟩
      · rcases List.mem_cons.1 he' with rfl | he'
        · exact absurd hb' hbi
        · exact h1 e' he' hb'
      · rcases h2 b hb with h3 | ⟨e', he', h3⟩
        · exact .inl h3
        · exact .inr ⟨e', List.mem_cons_of_mem _ he', h3⟩

theorem statAt_spec {ops : Array Oper} {o : Oper} {m : Nat} : ∀ (l : List Oper) (j0 : Nat), statAt P ops o m j0 l = true →
    ∀ j p, l[j]? = some p → mbit m (j0 + j) = true ∨ (p.apart ops o = true ∧ ¬ (clsOf P o.op = 3 ∧ 2 ≤ clsOf P p.op))
  | [], j0, h, j, p, hj => by simp at hj
  | q :: l, j0, h, j, p, hj => by
    simp only [statAt, Bool.and_eq_true] at h
    cases j with
    | zero =>
      simp only [List.getElem?_cons_zero, Option.some.injEq] at hj
      subst hj
      have h1 := h.1
      simp only [Bool.or_eq_true, Bool.and_eq_true, Bool.not_eq_true', nbeq] at h1
      rcases h1 with h1 | ⟨h1, h2⟩
      · exact .inl h1
      · refine .inr ⟨h1, fun hc => ?_⟩
        rw [hc.1] at h2
        simp only [decide_true, Bool.true_and] at h2
        have := Nat.ble_eq_true_of_le hc.2
        rw [this] at h2; cases h2
    | succ j =>
      have := statAt_spec l (j0 + 1) h.2 j p (by simpa using hj)
      rw [show j0 + (j + 1) = j0 + 1 + j by omega]; exact this

theorem pairsAt_spec {o : Oper} {m i : Nat} : ∀ (l : List Oper) (j0 j : Nat) (p : Oper), l[j]? = some p → mbit m (j0 + j) = false → ((clsOf P o.op = 1 ∧ clsOf P p.op = 3) ∨ (clsOf P o.op = 3 ∧ clsOf P p.op = 1)) →
    (j0 + j, i) ∈ pairsAt P o m i j0 l
  | [], j0, j, p, hj, _, _ => by simp at hj
  | q :: l, j0, j, p, hj, hm, hc => by
    cases j with
    | zero =>
      simp only [List.getElem?_cons_zero, Option.some.injEq] at hj
      subst hj
      have hm' : mbit m j0 = false := hm
      have : (!(mbit m j0) && ((Nat.beq (clsOf P o.op) 1 && Nat.beq (clsOf P q.op) 3) || (Nat.beq (clsOf P o.op) 3 && Nat.beq (clsOf P q.op) 1))) = true := by
        rw [hm']
        rcases hc with ⟨h1, h2⟩ | ⟨h1, h2⟩ <;> simp [h1, h2]
      simp only [pairsAt, this, if_true]
      exact List.mem_cons_self ..
    | succ j =>
      have ih := pairsAt_spec (i := i) l (j0 + 1) j p (by simpa using hj) (by rw [show j0 + 1 + j = j0 + (j + 1) by omega]; exact hm) hc
      rw [show j0 + (j + 1) = j0 + 1 + j by omega]
      simp only [pairsAt]
      split
      · exact List.mem_cons_of_mem _ ih
      · exact ih

structure Stat (P : Program) (ops : Array Oper) (prs : List (Nat × Nat)) (M : Nat → Nat → Bool) : Prop where
  back : ∀ i o, ops[i]? = some o → ∀ e ∈ o.after, Region.binds .any e = true → e.on < i
  why : ∀ i o b, ops[i]? = some o → M i b = true → ∃ e ∈ o.after, Region.binds .any e = true ∧ (e.on = b ∨ M e.on b = true)
  apart : ∀ j i oj oi, j < i → ops[j]? = some oj → ops[i]? = some oi → M i j = true ∨ (oj.apart ops oi = true ∧ ¬ (clsOf P oi.op = 3 ∧ 2 ≤ clsOf P oj.op))
  pair : ∀ j i oj oi, j < i → ops[j]? = some oj → ops[i]? = some oi → M i j = false → ((clsOf P oi.op = 1 ∧ clsOf P oj.op = 3) ∨ (clsOf P oi.op = 3 ∧ clsOf P oj.op = 1)) → (j, i) ∈ prs

theorem statGo_spec {ops : Array Oper} : ∀ (r prev : List Oper) (ms : List Nat) (acc prs : List (Nat × Nat)), prev.length = ms.length →
    (∀ i o m, prev[i]? = some o → ms[i]? = some m → (∀ e ∈ o.after, Region.binds .any e = true → e.on < i) ∧ (∀ b, mbit m b = true → ∃ e ∈ o.after, Region.binds .any e = true ∧ (e.on = b ∨ mbit (ms.getD e.on 0) b = true)) ∧
      (∀ j p, j < i → prev[j]? = some p → (mbit m j = true ∨ (p.apart ops o = true ∧ ¬ (clsOf P o.op = 3 ∧ 2 ≤ clsOf P p.op))) ∧ (mbit m j = false → ((clsOf P o.op = 1 ∧ clsOf P p.op = 3) ∨ (clsOf P o.op = 3 ∧ clsOf P p.op = 1)) → (j, i) ∈ acc))) →
    statGo P ops r prev.length prev ms acc = some prs →
    ∃ ms' : List Nat, (prev ++ r).length = ms'.length ∧ ∀ i o m, (prev ++ r)[i]? = some o → ms'[i]? = some m → (∀ e ∈ o.after, Region.binds .any e = true → e.on < i) ∧ (∀ b, mbit m b = true → ∃ e ∈ o.after, Region.binds .any e = true ∧ (e.on = b ∨ mbit (ms'.getD e.on 0) b = true)) ∧
      (∀ j p, j < i → (prev ++ r)[j]? = some p → (mbit m j = true ∨ (p.apart ops o = true ∧ ¬ (clsOf P o.op = 3 ∧ 2 ≤ clsOf P p.op))) ∧ (mbit m j = false → ((clsOf P o.op = 1 ∧ clsOf P p.op = 3) ∨ (clsOf P o.op = 3 ∧ clsOf P p.op = 1)) → (j, i) ∈ prs))
  | [], prev, ms, acc, prs, hlen, hinv, h => by
    simp only [statGo, Option.some.injEq] at h
    subst h
    exact ⟨ms, by simpa using hlen, by simpa using hinv⟩
  | o :: r, prev, ms, acc, prs, hlen, hinv, h => by
    simp only [statGo] at h
    cases hm : edgeMask ms prev.length o.after.toList 0 with
    | none => simp [hm] at h
    | some m =>
      simp only [hm] at h
      split at h
      · rename_i hst
        obtain ⟨e1, e2⟩ := edgeMask_spec _ _ _ hm
        have hs := statAt_spec prev 0 hst
        have := statGo_spec r (prev ++ [o]) (ms ++ [m]) (acc ++ pairsAt P o m prev.length 0 prev) prs (by simp [hlen]) (fun i oi mi hoi hmi => ?_) (by simpa using h)
        · simpa using this
        · have hgetD : ∀ k, k < ms.length → (ms ++ [m]).getD k 0 = ms.getD k 0 := fun k hk => by
            simp [List.getD_eq_getElem?_getD, List.getElem?_append_left hk]
          by_cases hi : i < prev.length
          · rw [List.getElem?_append_left hi] at hoi
            rw [List.getElem?_append_left (by omega)] at hmi
            obtain ⟨a1, a2, a3⟩ := hinv i oi mi hoi hmi
            refine ⟨a1, fun b hb => ?_, fun j p hj hp => ?_⟩
            · obtain ⟨e, he, hbi, hor⟩ := a2 b hb
              have := a1 e he hbi
              exact ⟨e, he, hbi, by rw [hgetD _ (by omega)]; exact hor⟩
            · rw [List.getElem?_append_left (by omega)] at hp
              obtain ⟨b1, b2⟩ := a3 j p hj hp
              exact ⟨b1, fun x y => List.mem_append_left _ (b2 x y)⟩
          · have hi' : i = prev.length := by
              have := (List.getElem?_eq_some_iff.1 hoi).1
              simp at this; omega
            subst hi'
            have ho' : oi = o := by simpa using hoi.symm
            have hm' : mi = m := by rw [hlen] at hmi; simpa using hmi.symm
            subst ho'; subst hm'
            refine ⟨fun e he hb => e1 e (by simpa using he) hb, fun b hb => ?_, fun j p hj hp => ?_⟩
            · rcases e2 b hb with h0 | ⟨e, he, hbi, hor⟩
              · rw [mbit_zero] at h0; cases h0
              · exact ⟨e, by simpa using he, hbi, by rw [hgetD _ (by have := e1 e he hbi; omega)]; exact hor⟩
            · rw [List.getElem?_append_left hj] at hp
              refine ⟨?_, fun x y => List.mem_append_right _ ?_⟩
              · have := hs j p hp
                simpa using this
              · have := pairsAt_spec (P := P) (o := oi) (m := mi) (i := prev.length) prev 0 j p hp (by simpa using x) y
                simpa using this
      · simp at h

theorem stat_spec {ops : Array Oper} {prs : List (Nat × Nat)} (h : statGo P ops ops.toList 0 [] [] [] = some prs) : ∃ M, Stat P ops prs M := by
  obtain ⟨ms, hlen, hinv⟩ := statGo_spec (P := P) (ops := ops) ops.toList [] [] [] prs rfl (fun i o m hh => by simp at hh) h
  simp only [List.nil_append] at hlen hinv
  have hget : ∀ i o, ops[i]? = some o → ∃ m, ms[i]? = some m ∧ ms.getD i 0 = m := fun i o hi => by
    have : i < ms.length := by rw [← hlen]; have := (Array.getElem?_eq_some_iff.1 hi).1; simpa using this
    exact ⟨ms[i], by simp [this], by simp [this]⟩
  refine ⟨fun i b => mbit (ms.getD i 0) b, ⟨fun i o hi => ?_, fun i o b hi hb => ?_, fun j i oj oi hj h1 h2 => ?_, fun j i oj oi hj h1 h2 h3 h4 => ?_⟩⟩
  · obtain ⟨m, hm, _⟩ := hget i o hi
    exact (hinv i o m (by simpa using hi) hm).1
  · obtain ⟨m, hm, hd⟩ := hget i o hi
    exact (hinv i o m (by simpa using hi) hm).2.1 b (by rw [← hd]; exact hb)
  · obtain ⟨m, hm, hd⟩ := hget i oi h2
    have := ((hinv i oi m (by simpa using h2) hm).2.2 j oj hj (by simpa using h1)).1
    rw [← hd] at this; exact this
  · obtain ⟨m, hm, hd⟩ := hget i oi h2
    refine ((hinv i oi m (by simpa using h2) hm).2.2 j oj hj (by simpa using h1)).2 (by rw [← hd]; exact h3) h4

/-! ### The trace -/
theorem drawGo_spec {R : Rec} {n : Nat} {ops : Array Oper} {base : Nat} : ∀ (l : List Oper) (i : Nat) (s : DS) (ss : List DS), drawGo P R n ops base l i s = some ss →
    ss.length = l.length + 1 ∧ ss[0]? = some s ∧ ∀ k o, l[k]? = some o → ∃ s1 s2, ss[k]? = some s1 ∧ ss[k + 1]? = some s2 ∧ drawStep P R n ops base (i + k) o s1 = some s2
  | [], i, s, ss, h => by
    simp only [drawGo, Option.some.injEq] at h
    subst h
    exact ⟨rfl, rfl, fun k o hk => by simp at hk⟩
  | o :: l, i, s, ss, h => by
    simp only [drawGo] at h
    cases h1 : drawStep P R n ops base i o s with
    | none => simp [h1] at h
    | some s' =>
      simp only [h1] at h
      cases h2 : drawGo P R n ops base l (i + 1) s' with
      | none => simp [h2] at h
      | some l' =>
        simp only [h2, Option.some.injEq] at h
        subst h
        obtain ⟨e1, e2, e3⟩ := drawGo_spec l (i + 1) s' l' h2
        refine ⟨by simp [e1], rfl, fun k o' hk => ?_⟩
        cases k with
        | zero =>
          simp only [List.getElem?_cons_zero, Option.some.injEq] at hk
          subst hk
          exact ⟨s, s', rfl, by simpa using e2, by simpa using h1⟩
        | succ k =>
          obtain ⟨s1, s2, q1, q2, q3⟩ := e3 k o' (by simpa using hk)
          exact ⟨s1, s2, by simpa using q1, by simpa using q2, by rw [show i + (k + 1) = i + 1 + k by omega]; exact q3⟩

theorem restr_spec {t : Env} : ∀ (l : List Tmp) (e : Env) (x : Nat) (a : AV), (restr t l e).get x = some a → (x ∈ l ∧ t.get x = some a) ∨ e.get x = some a
  | [], e, x, a, h => .inr h
  | d :: l, e, x, a, h => by
    simp only [restr] at h
    rcases restr_spec l _ x a h with ⟨h1, h2⟩ | h1
    · exact .inl ⟨List.mem_cons_of_mem _ h1, h2⟩
    · split at h1
      · rename_i v hv
        rw [Tr.get_set] at h1
        by_cases e' : x = d
        · subst e'
          simp only [if_true] at h1
          exact .inl ⟨List.mem_cons_self .., by rw [hv]; exact h1⟩
        · rw [if_neg e'] at h1; exact .inr h1
      · exact .inr h1

theorem restr_get {t : Env} {l : List Tmp} {x : Nat} {a : AV} (h : (restr t l .nil).get x = some a) : x ∈ l ∧ t.get x = some a := by
  rcases restr_spec l _ x a h with h1 | h1
  · exact h1
  · rw [Tr.get_nil] at h1; cases h1

theorem sameL_eq {f : AV → AV → Bool} (hf : ∀ a b, f a b = true → a = b) : ∀ {l m : List AV}, sameL f l m = true → l = m
  | [], [], _ => rfl
  | a :: l, b :: m, h => by
    simp only [sameL, Bool.and_eq_true] at h
    rw [hf a b h.1, sameL_eq hf h.2]
  | [], _ :: _, h => by simp [sameL] at h
  | _ :: _, [], h => by simp [sameL] at h

theorem sameAV_eq : ∀ (f : Nat) (a b : AV), sameAV f a b = true → a = b := by
  intro f
  induction f with
  | zero => intro a b h; simp [sameAV] at h
  | succ f ih =>
    intro a b h
    cases a <;> cases b <;> simp only [sameAV, Bool.and_eq_true, decide_eq_true_eq, beq_iff_eq, nbeq] at h <;> first
      | rfl
      | (cases h; done)
      | (simp only [h]; done)
      | (obtain ⟨h1, h2⟩ := h; subst h1; subst h2; rfl)
      | (obtain ⟨h1, h2⟩ := h; rw [h1, ih _ _ h2]; done)
      | (rw [sameL_eq ih h]; done)
      | (obtain ⟨h1, h2, h3, h4, h5⟩ := h; subst h1; subst h2; subst h3; subst h4; subst h5; rfl)

end
end Go.Abs
end

section
namespace Go.Abs
open Go
set_option linter.unusedVariables false
set_option linter.unusedSimpArgs false

section
variable {P : Program} {ρ : Pm} {w : World} {K : Kp} {h : AH}

theorem val?_spec {q : Option AV} {r : ORes} (hb : val? h q = some r) : ∃ v, q = some v ∧ r = .val v h := by
  cases q with
  | none => simp [val?] at hb
  | some v => simp only [val?, Option.some.injEq] at hb; exact ⟨v, rfl, hb.symm⟩

theorem val?_val {q : Option AV} {r : ORes} (hb : val? h q = some r) : ∃ v, r = .val v h :=
  let ⟨v, _, hv⟩ := val?_spec hb; ⟨v, hv⟩

theorem evConvert_read {src dst : TypeId} {x : AV} {r : ORes} (hc : (match P.underlying dst with | some (.int _) => 1 | some .string => 1 | _ => 3) ≤ 1) (hb : evConvert P h src dst x = some r) : ∃ v, r = .val v h := by
  unfold evConvert at hb
  split at hb
  · obtain ⟨v, _, hv⟩ := val?_spec hb; exact ⟨v, hv⟩
  · obtain ⟨v, _, hv⟩ := val?_spec hb; exact ⟨v, hv⟩
  · rename_i e s h1 h2
    rw [h2] at hc; simp at hc
  · rename_i e id off len sz c h1 h2
    rw [h2] at hc; simp at hc
  · rename_i x' _ _ _ e _ _ _
    split at hb
    · cases hl : lenA x' with
      | none => simp [hl] at hb
      | some n =>
        simp only [hl, Option.bind_eq_bind, Option.bind_some] at hb
        · cases h3 : firstA h 1 n x' with
          | none => simp [h3] at hb
          | some cs =>
            cases h4 : bytesA cs with
            | none => simp [h3, h4] at hb
            | some bs =>
              simp only [h3, h4, Option.bind_some, Option.some.injEq] at hb
              exact ⟨_, hb.symm⟩
    · simp at hb
  · simp at hb

theorem evCall_read {E : Operand → AV} {c : Call} {r : ORes} (hc : (match c.callee with | .builtin .len => 1 | .builtin .cap => 1 | .builtin .max => 1 | .builtin .min => 1 | _ => 3) ≤ 1) (hb : evCall P h E c = some r) : ∃ v, r = .val v h := by
  unfold evCall at hb
  simp only at hb
  cases hcal : c.callee with
  | builtin b =>
    rw [hcal] at hc hb
    cases b <;> simp at hc <;> simp only at hb <;> (first | exact val?_val hb | skip) <;> split at hb <;> first
      | exact val?_val hb
      | (simp at hb; done)
      | (rename_i hh _; cases hh; done)
      | (rename_i hh; cases hh; done)
  | invoke r n => rw [hcal] at hc; simp at hc
  | value f => rw [hcal] at hc; simp at hc

theorem evOper_read {E : Operand → AV} {o : Oper} {r : ORes} (hc : clsOf P o.op ≤ 1) (hb : evOper P E o h = some r) : ∃ v, r = .val v h := by
  obtain ⟨dst, op, ty, pos, after, guard⟩ := o
  unfold evOper at hb
  cases op <;> simp only [clsOf] at hc <;> (first | (exact absurd hc (by decide)) | skip) <;> simp only at hb
  case convert => exact evConvert_read hc hb
  case call => exact evCall_read hc hb
  all_goals
    first
      | exact val?_val hb
      | exact ⟨_, (Option.some.inj hb).symm⟩
      | (split at hb <;> first
          | exact val?_val hb
          | exact ⟨_, (Option.some.inj hb).symm⟩
          | (simp at hb; done)
          | (split at hb <;> first
              | exact val?_val hb
              | exact ⟨_, (Option.some.inj hb).symm⟩
              | (simp at hb; done)
              | (split at hb <;> first
                  | exact ⟨_, (Option.some.inj hb).symm⟩
                  | (simp at hb; done))))

theorem val?_move {q : Option AV} {v : AV} (h' : AH) (hb : val? h q = some (.val v h)) : val? h' q = some (.val v h') := by
  obtain ⟨u, h1, h2⟩ := val?_spec hb
  cases h2
  simp [val?, h1]

theorem binA_loc {t : TypeId} {k : IntKind} (hu : P.underlying t = some (.int k)) (h h' : AH) (op : BinOp) (x y : AV) : binA P h' op t x y = binA P h op t x y := by
  have he : ∀ a b, eqA P h' 12 t a b = eqA P h 12 t a b := fun a b => by
    show eqA P h' (11 + 1) t a b = eqA P h (11 + 1) t a b
    unfold eqA
    rw [hu]
    cases a <;> first | rfl | (cases b <;> rfl)
  unfold binA
  split <;> first
    | rfl
    | rw [he]
theorem evSlice_loc {t : TypeId} (hu : (∃ e, P.underlying t = some (.slice e)) ∨ P.underlying t = some .string) (h h' : AH) (x : AV) (a b c : Option AV) : evSlice P h' t x a b c = evSlice P h t x a b c := by
  unfold evSlice
  rcases hu with ⟨e, hu⟩ | hu <;> rw [hu] <;> cases x <;> rfl

theorem evOper_loc {E : Operand → AV} {o : Oper} {v : AV} (h' : AH) (hc : clsOf P o.op = 0) (hb : evOper P E o h = some (.val v h)) : evOper P E o h' = some (.val v h') := by
  obtain ⟨dst, op, ty, pos, after, guard⟩ := o
  unfold evOper at hb ⊢
  cases op <;> simp only [clsOf] at hc <;> (first | (exact absurd hc (by decide)) | skip) <;> simp only at hb ⊢
  case convert src d x => 
    exfalso; split at hc <;> cases hc
  case call c =>
    exfalso; split at hc <;> cases hc
  case binOp bop bt bx bz bu =>
    split at hc
    · rename_i k hk
      rw [binA_loc hk h h']
      exact val?_move h' hb
    · cases hc
  case slice st sx slo shi smx =>
    split at hc
    · rename_i e hk
      rw [evSlice_loc (.inl ⟨e, hk⟩) h h']
      exact val?_move h' hb
    · rename_i hk
      rw [evSlice_loc (.inr hk) h h']
      exact val?_move h' hb
    · cases hc
  all_goals
    first
      | exact val?_move h' hb
      | (cases hb; rfl)
      | (split at hb <;> first
          | exact val?_move h' hb
          | (cases hb; done)
              | (cases hb; simp_all; done)
          | (split at hb <;> first
              | exact val?_move h' hb
              | (cases hb; done)
              | (cases hb; simp_all; done)
              | (split at hb <;> first
                  | (cases hb; done)
                  | (cases hb; rfl)
                  | (cases hb; simp_all; done))))

theorem evOp1_read {R : Rec} {n : Nat} {ops : Array Oper} {o : Oper} {t t' : Env} {h' : AH} (hc : clsOf P o.op ≤ 1) (hb : evOp1 P R n ops o t h = some (t', h')) : h' = h := by
  unfold evOp1 at hb
  split at hb
  · cases hr : evOper P (opnd t) o h with
    | none => simp [hr] at hb
    | some r =>
      obtain ⟨v, rfl⟩ := evOper_read hc hr
      simp only [hr] at hb
      cases hp : putA n t o.dst v with
      | none => simp [hp] at hb
      | some t2 => simp only [hp, Option.map_some, Option.some.injEq, Prod.mk.injEq] at hb; exact hb.2.symm
  · cases hp : putA n t o.dst (.tup []) with
    | none => simp [hp] at hb
    | some t2 => simp only [hp, Option.map_some, Option.some.injEq, Prod.mk.injEq] at hb; exact hb.2.symm
  · simp at hb

theorem evOp1_loc {R : Rec} {n : Nat} {ops : Array Oper} {o : Oper} {t t' : Env} {h1 : AH} (h' : AH) (hc : clsOf P o.op = 0) (hb : evOp1 P R n ops o t h = some (t', h1)) : evOp1 P R n ops o t h' = some (t', h') := by
  unfold evOp1 at hb ⊢
  split at hb
  · rename_i hw
    cases hr : evOper P (opnd t) o h with
    | none => simp [hr] at hb
    | some r =>
      obtain ⟨v, rfl⟩ := evOper_read (by omega) hr
      rw [evOper_loc h' hc hr]
      simp only [hr] at hb
      cases hp : putA n t o.dst v with
      | none => simp [hp] at hb
      | some t2 => simp only [hp, Option.map_some, Option.some.injEq, Prod.mk.injEq] at hb; simp [hp, hb.1]
  · rename_i hw
    cases hp : putA n t o.dst (.tup []) with
    | none => simp [hp] at hb
    | some t2 => simp only [hp, Option.map_some, Option.some.injEq, Prod.mk.injEq] at hb; simp [hp, hb.1]
  · simp at hb

theorem evOp1_wp {R : Rec} {k : Nat} (hRec : RecOK P k R) (hR : Rel K ρ h w) {n i : Nat} {cr : Option Nat} {ops : Array Oper} {o : Oper} {t t' : Env} {h' : AH} {a : Act} (he : ER ρ t n a.tmps) (ho : ops[i]? = some o)
    (hb : evOp1 P R n ops o t h = some (t', h')) {next : Act → World → Prop} {Q : Exit → Act → World → Prop}
    (hk : ∀ ρ' cv v w', Ext h.nx ρ h'.nx ρ' → VR ρ' v cv → Rel K ρ' h' w' → putA n t o.dst v = some t' → next (a.put o.dst cv) w') : wpOpIn (Wd cr) 0 P ops Q i next a w := by
  unfold wpOpIn
  simp only [ho]
  unfold evOp1 at hb
  split at hb
  · rename_i hw
    rw [if_pos (wantedA_sound he hw)]
    split at hb
    · rename_i v hv' hb1
      cases hp : putA n t o.dst v with
      | none => simp [hp] at hb
      | some t2 =>
        simp only [hp, Option.map_some, Option.some.injEq, Prod.mk.injEq] at hb
        obtain ⟨rfl, rfl⟩ := hb
        exact evOp_wp (n := n) hRec hR (opnd_sound he) hb1 (fun v h' hr ρ' cv w' hle hv hrel => by cases hr; exact hk ρ' cv _ w' hle hv hrel hp) (fun _ hr => by cases hr) (fun _ _ hr => by cases hr) (fun _ _ hr => by cases hr)
    · rename_i hv' hb1
      cases hp : putA n t o.dst (.tup []) with
      | none => simp [hp] at hb
      | some t2 =>
        simp only [hp, Option.map_some, Option.some.injEq, Prod.mk.injEq] at hb
        obtain ⟨rfl, rfl⟩ := hb
        exact evOp_wp (n := n) hRec hR (opnd_sound he) hb1 (fun _ _ hr => by cases hr) (fun h' hr w' hnx hrel => by cases hr; exact hk ρ undef _ w' ⟨Pm.le_refl _, hnx, fun _ _ => rfl⟩ undef_VR hrel hp) (fun _ _ hr => by cases hr) (fun _ _ hr => by cases hr)
    · rename_i f args hb1
      split at hb
      · rename_i v hv' hc
        cases hp : putA n t o.dst v with
        | none => simp [hp] at hb
        | some t2 =>
          simp only [hp, Option.map_some, Option.some.injEq, Prod.mk.injEq] at hb
          obtain ⟨rfl, rfl⟩ := hb
          exact evOp_wp (n := n) hRec hR (opnd_sound he) hb1 (fun _ _ hr => by cases hr) (fun _ hr => by cases hr) (fun f' args' hr => by cases hr; exact ⟨v, _, hc, fun ρ' cv w' hle hv hrel => hk ρ' cv _ w' hle hv hrel hp⟩) (fun _ _ hr => by cases hr)
      · simp at hb
    · rename_i id args hb1
      split at hb
      · rename_i v hv' hc
        cases hp : putA n t o.dst v with
        | none => simp [hp] at hb
        | some t2 =>
          simp only [hp, Option.map_some, Option.some.injEq, Prod.mk.injEq] at hb
          obtain ⟨rfl, rfl⟩ := hb
          exact evOp_wp (n := n) hRec hR (opnd_sound he) hb1 (fun _ _ hr => by cases hr) (fun _ hr => by cases hr) (fun _ _ hr => by cases hr) (fun f' args' hr => by cases hr; exact ⟨v, _, hc, fun ρ' cv w' hle hv hrel => hk ρ' cv _ w' hle hv hrel hp⟩)
      · simp at hb
    · simp at hb
  · rename_i hw
    rw [if_neg (by rw [wantedA_sound he hw]; simp)]
    cases hp : putA n t o.dst (.tup []) with
    | none => simp [hp] at hb
    | some t2 =>
      simp only [hp, Option.map_some, Option.some.injEq, Prod.mk.injEq] at hb
      obtain ⟨rfl, rfl⟩ := hb
      exact ⟨fun _ _ => trivial, hk ρ undef _ w (Ext.refl _ _) undef_VR hR hp⟩
  · simp at hb

end
end Go.Abs
end

section
namespace Go.Abs
open Go
set_option linter.unusedVariables false
set_option linter.unusedSimpArgs false

noncomputable def dsAt (ss : List DS) (k : Nat) : DS := (ss[k]?).getD { t := .nil, h := { tr := .nil, nx := 0 }, pend := [] }

theorem sameAt_spec {P : Program} {R : Rec} {n : Nat} {ops : Array Oper} {i : Nat} {t t' : Env} {h : AH} {o : Oper} (ho : ops[i]? = some o) (hs : sameAt P R n ops i t t' h = true) :
    ∃ t2 h2, evOp1 P R n ops o (restr t (o.looksAt ops) .nil) h = some (t2, h2) ∧ ∀ d, o.dst = some d → ∃ v, t2.get d = some v ∧ t'.get d = some v := by
  unfold sameAt at hs
  simp only [ho] at hs
  cases h1 : evOp1 P R n ops o (restr t (o.looksAt ops) .nil) h with
  | none => simp [h1] at hs
  | some th =>
    obtain ⟨t2, h2⟩ := th
    refine ⟨t2, h2, rfl, fun d hd => ?_⟩
    simp only [h1, hd] at hs
    split at hs
    · rename_i a b ha hb
      have := sameAV_eq 20 a b hs
      subst this
      exact ⟨a, ha, hb⟩
    · simp at hs

theorem sameAll_spec {P : Program} {R : Rec} {n : Nat} {ops : Array Oper} {ss : List DS} : ∀ (prs : List (Nat × Nat)), sameAll P R n ops ss prs = true →
    ∀ j i o, (j, i) ∈ prs → ops[i]? = some o → (clsOf P o.op = 1 → sameAt P R n ops i (dsAt ss i).t (dsAt ss (i + 1)).t (dsAt ss j).h = true) ∧
      (clsOf P o.op ≠ 1 → sameAt P R n ops j (dsAt ss j).t (dsAt ss (j + 1)).t (dsAt ss (i + 1)).h = true)
  | [], _, j, i, o, hm, _ => by cases hm
  | (j0, i0) :: r, hs, j, i, o, hm, ho => by
    simp only [sameAll, Bool.and_eq_true] at hs
    rcases List.mem_cons.1 hm with hm | hm
    · cases hm
      have h1 := hs.1
      split at h1
      · rename_i o' si si' sj sj' q1 q2 q3 q4 q5
        rw [ho] at q1; cases q1
        simp only [dsAt, q2, q3, q4, q5, Option.getD_some]
        simp only [nbeq, decide_eq_true_eq] at h1
        split at h1
        · rename_i hc
          exact ⟨fun _ => h1, fun hn => (hn hc).elim⟩
        · rename_i hc
          exact ⟨fun hn => (hc hn).elim, fun _ => h1⟩
      · simp at h1
    · exact sameAll_spec r hs.2 j i o hm ho

section
variable {P : Program} {R : Rec} {n : Nat} {ops : Array Oper} {base : Nat} {D : Nat → DS}

def LaysAt (P : Program) (ops : Array Oper) (D : Nat → DS) (j : Nat) (ob : AO) : Prop :=
  ∃ o mk, ops[j]? = some o ∧ clsOf P o.op = 2 ∧ wantedA ops (restr (D j).t (o.looksAt ops) .nil) o = some true ∧ allocA P (opnd (restr (D j).t (o.looksAt ops) .nil)) o.op = some (ob, mk)

theorem backA_get {t t' : Env} {dst : Option Tmp} : (∀ x, dst ≠ some x → (backA t dst t').get x = t.get x) ∧ ∀ d, dst = some d → (backA t dst t').get d = t'.get d := by
  cases dst with
  | none => exact ⟨fun _ _ => rfl, fun _ h => by cases h⟩
  | some d =>
    refine ⟨fun x hx => ?_, fun e he => ?_⟩
    · simp only [backA]; rw [Tr.get_set, if_neg (fun e => hx (by rw [e]))]
    · cases he; simp only [backA]; rw [Tr.get_set, if_pos rfl]

theorem putA_get {t t' : Env} {dst : Option Tmp} {v : AV} (hp : putA n t dst v = some t') : (∀ x, dst ≠ some x → t'.get x = t.get x) ∧ ∀ d, dst = some d → d < n ∧ t'.get d = some v := by
  unfold putA at hp
  split at hp
  · simp only [Option.some.injEq] at hp; subst hp; exact ⟨fun _ _ => rfl, fun _ h => by cases h⟩
  · rename_i d
    split at hp
    · rename_i hd
      simp only [Option.some.injEq] at hp; subst hp
      refine ⟨fun x hx => by rw [Tr.get_set, if_neg (fun e => hx (by rw [e]))], fun e he => ?_⟩
      cases he; exact ⟨hd, by rw [Tr.get_set, if_pos rfl]⟩
    · simp at hp

theorem drawStep_low {i : Nat} {o : Oper} {s s' : DS} (hc : clsOf P o.op ≤ 1) (hs : drawStep P R n ops base i o s = some s') :
    ∃ t', evOp1 P R n ops o (restr s.t (o.looksAt ops) .nil) s.h = some (t', s.h) ∧ s'.t = backA s.t o.dst t' ∧ s'.h = s.h ∧ s'.pend = s.pend := by
  unfold drawStep at hs
  split at hs
  · rename_i h2; omega
  · rename_i h2; omega
  · cases h1 : evOp1 P R n ops o (restr s.t (o.looksAt ops) .nil) s.h with
    | none => simp [h1] at hs
    | some th =>
      obtain ⟨t', h'⟩ := th
      have := evOp1_read hc h1
      subst this
      simp only [h1, Option.some.injEq] at hs
      subst hs
      exact ⟨t', rfl, rfl, rfl, rfl⟩

theorem drawStep_eff {i : Nat} {o : Oper} {s s' : DS} (hc : clsOf P o.op = 3) (hs : drawStep P R n ops base i o s = some s') :
    ∃ t', evOp1 P R n ops o (restr s.t (o.looksAt ops) .nil) (absorb s.pend s.h) = some (t', s'.h) ∧ s'.t = backA s.t o.dst t' ∧ s'.pend = [] := by
  unfold drawStep at hs
  rw [hc] at hs
  simp only at hs
  cases h1 : evOp1 P R n ops o (restr s.t (o.looksAt ops) .nil) (absorb s.pend s.h) with
  | none => simp [h1] at hs
  | some th =>
    obtain ⟨t', h'⟩ := th
    simp only [h1, Option.some.injEq] at hs
    subst hs
    exact ⟨t', rfl, rfl, rfl⟩

theorem drawStep_al {i : Nat} {o : Oper} {s s' : DS} (hc : clsOf P o.op = 2) (hs : drawStep P R n ops base i o s = some s') :
    s'.h = s.h ∧ ((wantedA ops (restr s.t (o.looksAt ops) .nil) o = some false ∧ putA n s.t o.dst (.tup []) = some s'.t ∧ s'.pend = s.pend) ∨
      ∃ ob mk, wantedA ops (restr s.t (o.looksAt ops) .nil) o = some true ∧ allocA P (opnd (restr s.t (o.looksAt ops) .nil)) o.op = some (ob, mk) ∧ putA n s.t o.dst (mk (base + i)) = some s'.t ∧ s'.pend = s.pend ++ [(base + i, ob)]) := by
  unfold drawStep at hs
  rw [hc] at hs
  simp only at hs
  cases hw : wantedA ops (restr s.t (o.looksAt ops) .nil) o with
  | none => simp [hw] at hs
  | some b =>
    cases b with
    | false =>
      simp only [hw] at hs
      cases hp : putA n s.t o.dst (.tup []) with
      | none => simp [hp] at hs
      | some t' =>
        simp only [hp, Option.some.injEq] at hs
        subst hs
        exact ⟨rfl, .inl ⟨rfl, rfl, rfl⟩⟩
    | true =>
      simp only [hw] at hs
      cases ha : allocA P (opnd (restr s.t (o.looksAt ops) .nil)) o.op with
      | none => simp [ha] at hs
      | some om =>
        obtain ⟨ob, mk⟩ := om
        simp only [ha] at hs
        cases hp : putA n s.t o.dst (mk (base + i)) with
        | none => simp [hp] at hs
        | some t' =>
          simp only [hp, Option.some.injEq] at hs
          subst hs
          exact ⟨rfl, .inr ⟨ob, mk, rfl, rfl, hp, rfl⟩⟩

theorem clsOf_le (P : Program) (op : Op) : clsOf P op ≤ 3 := by
  cases op <;> simp only [clsOf] <;> (first | decide | skip)
  all_goals (split <;> decide)

theorem cls_cases (P : Program) (op : Op) : clsOf P op ≤ 1 ∨ clsOf P op = 2 ∨ clsOf P op = 3 := by
  have := clsOf_le P op; omega

theorem drawStep_env {i : Nat} {o : Oper} {s s' : DS} (hs : drawStep P R n ops base i o s = some s') : ∀ x, o.dst ≠ some x → s'.t.get x = s.t.get x := by
  intro x hx
  rcases cls_cases P o.op with hc | hc | hc
  · obtain ⟨t', _, h2, _⟩ := drawStep_low hc hs
    rw [h2]; exact backA_get.1 x hx
  · obtain ⟨_, ⟨_, h2, _⟩ | ⟨ob, mk, _, _, h2, _⟩⟩ := drawStep_al hc hs
    · exact (putA_get h2).1 x hx
    · exact (putA_get h2).1 x hx
  · obtain ⟨t', _, h2, _⟩ := drawStep_eff hc hs
    rw [h2]; exact backA_get.1 x hx

theorem drawStep_heap {i : Nat} {o : Oper} {s s' : DS} (hs : drawStep P R n ops base i o s = some s') (hc : clsOf P o.op ≠ 3) : s'.h = s.h := by
  rcases cls_cases P o.op with h | h | h
  · obtain ⟨t', _, _, h2, _⟩ := drawStep_low h hs; exact h2
  · exact (drawStep_al h hs).1
  · exact (hc h).elim

/-! ### The temporaries, after some of the operations -/
noncomputable def envAt (ops : Array Oper) (D : Nat → DS) (X : Nat → Bool) (x : Nat) : Nat → Option AV
  | 0 => (D 0).t.get x
  | k + 1 => if X k = true ∧ (ops[k]?).bind (·.dst) = some x then (D (k + 1)).t.get x else envAt ops D X x k

def Steps (P : Program) (R : Rec) (n : Nat) (ops : Array Oper) (base : Nat) (D : Nat → DS) : Prop := ∀ k o, ops[k]? = some o → drawStep P R n ops base k o (D k) = some (D (k + 1))

theorem envAt_text (hst : Steps P R n ops base D) {X : Nat → Bool} {x : Nat} : ∀ i, i ≤ ops.size → (∀ j, j < i → (ops[j]?).bind (·.dst) = some x → X j = true) → envAt ops D X x i = (D i).t.get x
  | 0, _, _ => rfl
  | k + 1, hk, hX => by
    have ho : ops[k]? = some ops[k] := by simp
    simp only [envAt]
    split
    · rfl
    · rename_i hn
      rw [envAt_text hst k (by omega) fun j hj => hX j (by omega)]
      refine (drawStep_env (hst k _ ho) x fun hd => hn ⟨hX k (by omega) ?_, ?_⟩).symm <;> simp [ho, hd]

theorem envAt_stop {X : Nat → Bool} {x i : Nat} : ∀ k, i ≤ k → (∀ j, i ≤ j → j < k → (ops[j]?).bind (·.dst) = some x → X j = false) → envAt ops D X x k = envAt ops D X x i
  | 0, hk, _ => by
    have : i = 0 := by omega
    rw [this]
  | k + 1, hk, hX => by
    by_cases e : i = k + 1
    · rw [e]
    · simp only [envAt]
      split
      · rename_i hn
        rw [hX k (by omega) (by omega) hn.2] at hn
        cases hn.1
      · exact envAt_stop k (by omega) fun j h1 h2 => hX j h1 (by omega)

theorem envAt_congr {X Y : Nat → Bool} {x : Nat} : ∀ k, (∀ j, j < k → (ops[j]?).bind (·.dst) = some x → X j = Y j) → envAt ops D X x k = envAt ops D Y x k
  | 0, _ => rfl
  | k + 1, hX => by
    simp only [envAt]
    rw [envAt_congr k fun j h1 => hX j (by omega)]
    by_cases hd : (ops[k]?).bind (·.dst) = some x
    · rw [hX k (by omega) hd]
    · simp [hd]

/-! ### The heap, where no call stands between -/
theorem heap_same (hst : Steps P R n ops base D) {p : Nat} : ∀ k, p ≤ k → k ≤ ops.size → (∀ e o, p ≤ e → e < k → ops[e]? = some o → clsOf P o.op ≠ 3) → (D k).h = (D p).h
  | 0, h1, _, _ => by
    have : p = 0 := by omega
    rw [this]
  | k + 1, h1, h2, hn => by
    by_cases e : p = k + 1
    · rw [e]
    · have ho : ops[k]? = some ops[k] := by simp
      rw [drawStep_heap (hst k _ ho) (hn k _ (by omega) (by omega) ho)]
      exact heap_same hst k (by omega) (by omega) fun e o h3 h4 => hn e o h3 (by omega)

theorem pend_spec (hst : Steps P R n ops base D) {p : Nat} (hp : (D p).pend = []) : ∀ k, p ≤ k → k ≤ ops.size → (∀ e o, p ≤ e → e < k → ops[e]? = some o → clsOf P o.op ≠ 3) →
    ((D k).pend.map (·.1)).Nodup ∧ ∀ id ob, (id, ob) ∈ (D k).pend ↔ ∃ j, p ≤ j ∧ j < k ∧ id = base + j ∧ LaysAt P ops D j ob
  | 0, h1, _, _ => by
    have : p = 0 := by omega
    subst this
    rw [hp]
    exact ⟨List.nodup_nil, fun id ob => ⟨fun h => (by cases h), fun ⟨j, _, h, _⟩ => by omega⟩⟩
  | k + 1, h1, h2, hn => by
    by_cases e : p = k + 1
    · subst e
      rw [hp]
      exact ⟨List.nodup_nil, fun id ob => ⟨fun h => (by cases h), fun ⟨j, h, h', _⟩ => by omega⟩⟩
    · have ho : ops[k]? = some ops[k] := by simp
      obtain ⟨i1, i2⟩ := pend_spec hst hp k (by omega) (by omega) fun e o h3 h4 => hn e o h3 (by omega)
      have hstep := hst k _ ho
      have stay : (D (k + 1)).pend = (D k).pend → (∀ ob, ¬ LaysAt P ops D k ob) → ((D (k + 1)).pend.map (·.1)).Nodup ∧ ∀ id ob, (id, ob) ∈ (D (k + 1)).pend ↔ ∃ j, p ≤ j ∧ j < k + 1 ∧ id = base + j ∧ LaysAt P ops D j ob := fun hpe hno => by
        rw [hpe]
        refine ⟨i1, fun id ob => ?_⟩
        rw [i2 id ob]
        constructor
        · rintro ⟨j, a1, a2, a3⟩; exact ⟨j, a1, by omega, a3⟩
        · rintro ⟨j, a1, a2, a3, a4⟩
          have : j ≠ k := fun e => hno ob (by rw [← e]; exact a4)
          exact ⟨j, a1, by omega, a3, a4⟩
      rcases cls_cases P (ops[k]).op with hc | hc | hc
      · obtain ⟨t', _, _, _, h4⟩ := drawStep_low hc hstep
        refine stay h4 fun ob ⟨o, mk, q1, q2, _⟩ => ?_
        rw [ho] at q1; cases q1; omega
      · obtain ⟨_, ⟨hw, _, h4⟩ | ⟨ob, mk, hw, ha, _, h4⟩⟩ := drawStep_al hc hstep
        · refine stay h4 fun ob ⟨o, mk, q1, q2, q3, _⟩ => ?_
          rw [ho] at q1; cases q1
          rw [hw] at q3; cases q3
        · rw [h4]
          refine ⟨?_, fun id ob' => ?_⟩
          · rw [List.map_append, List.nodup_append]
            refine ⟨i1, by simp, fun x hx y hy => ?_⟩
            obtain ⟨⟨id, o'⟩, hm, rfl⟩ := List.mem_map.1 hx
            obtain ⟨j, a1, a2, a3, _⟩ := (i2 id o').1 hm
            simp at hy
            subst hy
            simp only
            omega
          · rw [List.mem_append, i2 id ob']
            constructor
            · rintro (⟨j, a1, a2, a3⟩ | hm)
              · exact ⟨j, a1, by omega, a3⟩
              · simp only [List.mem_singleton, Prod.mk.injEq] at hm
                obtain ⟨rfl, rfl⟩ := hm
                exact ⟨k, by omega, by omega, rfl, _, mk, ho, hc, hw, ha⟩
            · rintro ⟨j, a1, a2, a3, a4⟩
              by_cases ej : j = k
              · subst ej
                obtain ⟨o, mk', q1, q2, q3, q4⟩ := a4
                rw [ho] at q1; cases q1
                rw [ha] at q4; cases q4
                exact .inr (by simp [a3])
              · exact .inl ⟨j, a1, by omega, a3, a4⟩
      · exact (hn k _ (by omega) (by omega) ho hc).elim

end
end Go.Abs
end

section
namespace Go.Abs
open Go
set_option linter.unusedVariables false
set_option linter.unusedSimpArgs false

section
variable {P : Program} {R : Rec} {n : Nat} {ops : Array Oper} {base : Nat} {D : Nat → DS} {prs : List (Nat × Nat)} {M : Nat → Nat → Bool} {K : Kp} {ρ0 : Pm} {ds0 : List Deferred}

structure Inv (P : Program) (n : Nat) (ops : Array Oper) (base : Nat) (D : Nat → DS) (M : Nat → Nat → Bool) (K : Kp) (ρ0 : Pm) (ds0 : List Deferred) (X : Nat → Bool) (p : Nat) (ρ : Pm) (a : Act) (w : World) : Prop where
  pm : p ≤ ops.size
  closed : ∀ j b, j < ops.size → X j = true → M j b = true → X b = true
  eff : ∀ e o, ops[e]? = some o → clsOf P o.op = 3 → (X e = true ↔ e < p)
  canon : (D p).pend = []
  past : p = 0 ∨ ∃ q o, p = q + 1 ∧ ops[q]? = some o ∧ clsOf P o.op = 3
  size : a.tmps.size = n
  env : ∀ x v, envAt ops D X x ops.size = some v → ∃ cv, a.tmps[x]? = some cv ∧ VR ρ v cv
  frame : Framed K ρ (D p).h w (fun id ob => ∃ j, X j = true ∧ p ≤ j ∧ j < ops.size ∧ id = base + j ∧ LaysAt P ops D j ob)
  later : ∀ j, j < ops.size → X j = false → ρ (base + j) = none
  nx : base + ops.size ≤ (D p).h.nx
  ext : Ext base ρ0 (D p).h.nx ρ
  defers : a.defers = ds0

def addX (X : Nat → Bool) (i : Nat) : Nat → Bool := fun j => X j || Nat.beq j i
theorem addX_self {X : Nat → Bool} {i : Nat} : addX X i i = true := by simp [addX]
theorem addX_ne {X : Nat → Bool} {i j : Nat} (h : j ≠ i) : addX X i j = X j := by simp [addX, nbeq, h]
theorem addX_of {X : Nat → Bool} {i j : Nat} (h : X j = true) : addX X i j = true := by simp [addX, h]

structure Up (ops : Array Oper) (M : Nat → Nat → Bool) (X : Nat → Bool) (i : Nat) (o : Oper) : Prop where
  op : ops[i]? = some o
  no : X i = false
  pre : ∀ b, M i b = true → X b = true
  post : ∀ j, j < ops.size → X j = true → M j i = false

theorem agree (hS : Stat P ops prs M) (hst : Steps P R n ops base D) {X : Nat → Bool} {i : Nat} {o : Oper} (hU : Up ops M X i o) {x : Nat} (hx : x ∈ o.looksAt ops) : envAt ops D X x ops.size = (D i).t.get x := by
  have hi : i < ops.size := (Array.getElem?_eq_some_iff.1 hU.op).1
  rw [envAt_stop ops.size (i := i) (by omega), envAt_text hst i (by omega)]
  · intro j hj hd
    cases hoj : ops[j]? with
    | none => simp [hoj] at hd
    | some oj =>
      simp only [hoj, Option.bind_some] at hd
      rcases hS.apart j i oj o hj hoj hU.op with h1 | ⟨h1, _⟩
      · exact hU.pre j h1
      · exact absurd hx ((Oper.apart_spec h1).1 x hd)
  · intro j hj hlt hd
    by_cases e : j = i
    · rw [e]; exact hU.no
    · cases hoj : ops[j]? with
      | none => simp [hoj] at hd
      | some oj =>
        simp only [hoj, Option.bind_some] at hd
        cases hX : X j with
        | false => rfl
        | true =>
          rcases hS.apart i j o oj (by omega) hU.op hoj with h1 | ⟨h1, _⟩
          · rw [hU.post j hlt hX] at h1; cases h1
          · exact absurd hx ((Oper.apart_spec h1).2.2 x hd)

theorem env_step (hS : Stat P ops prs M) (hst : Steps P R n ops base D) {X : Nat → Bool} {i : Nat} {o : Oper} (hU : Up ops M X i o) {ρ ρ' : Pm} {a : Act} (hle : ρ.le ρ') (hsize : a.tmps.size = n)
    (henv : ∀ x v, envAt ops D X x ops.size = some v → ∃ cv, a.tmps[x]? = some cv ∧ VR ρ v cv) {v : AV} {cv : Value} (hv : VR ρ' v cv) (hd : ∀ d, o.dst = some d → d < n ∧ (D (i + 1)).t.get d = some v) :
    (a.put o.dst cv).tmps.size = n ∧ ∀ x v, envAt ops D (addX X i) x ops.size = some v → ∃ cv', (a.put o.dst cv).tmps[x]? = some cv' ∧ VR ρ' v cv' := by
  have hi : i < ops.size := (Array.getElem?_eq_some_iff.1 hU.op).1
  have hother : ∀ x, o.dst ≠ some x → envAt ops D (addX X i) x ops.size = envAt ops D X x ops.size := fun x hx =>
    envAt_congr ops.size fun j hj hdj => addX_ne fun e => by
      subst e
      rw [hU.op] at hdj
      exact hx (by simpa using hdj)
  cases hdst : o.dst with
  | none =>
    refine ⟨hsize, fun x u hu => ?_⟩
    rw [hother x (by rw [hdst]; simp)] at hu
    obtain ⟨cu, h1, h2⟩ := henv x u hu
    exact ⟨cu, h1, h2.mono hle⟩
  | some d =>
    obtain ⟨hdn, hdg⟩ := hd d hdst
    refine ⟨by simp [Act.put, hsize], fun x u hu => ?_⟩
    by_cases e : x = d
    · subst e
      refine ⟨cv, by simp [Act.put, hsize, hdn], ?_⟩
      have : envAt ops D (addX X i) x ops.size = envAt ops D (addX X i) x (i + 1) := envAt_stop ops.size (by omega) fun j hj hlt hdj => by
        have hne : j ≠ i := by omega
        rw [addX_ne hne]
        cases hoj : ops[j]? with
        | none => simp [hoj] at hdj
        | some oj =>
          simp only [hoj, Option.bind_some] at hdj
          cases hX : X j with
          | false => rfl
          | true =>
            rcases hS.apart i j o oj (by omega) hU.op hoj with h1 | ⟨h1, _⟩
            · rw [hU.post j hlt hX] at h1; cases h1
            · exact absurd hdj ((Oper.apart_spec h1).2.1 x hdst)
      rw [this] at hu
      simp only [envAt, addX_self, hU.op, Option.bind_some, hdst, and_self, if_true, hdg, Option.some.injEq] at hu
      subst hu
      exact hv
    · rw [hother x (by rw [hdst]; simpa using fun h => e h.symm)] at hu
      obtain ⟨cu, h1, h2⟩ := henv x u hu
      exact ⟨cu, by simp only [Act.put]; rw [Array.getElem?_setIfInBounds_ne (Ne.symm e)]; exact h1, h2.mono hle⟩

theorem Inv.er (hS : Stat P ops prs M) (hst : Steps P R n ops base D) {X : Nat → Bool} {i p : Nat} {o : Oper} {ρ : Pm} {a : Act} {w : World} (hI : Inv P n ops base D M K ρ0 ds0 X p ρ a w) (hU : Up ops M X i o) :
    ER ρ (restr (D i).t (o.looksAt ops) .nil) n a.tmps :=
  ⟨hI.size, fun x v hx => by
    obtain ⟨h1, h2⟩ := restr_get hx
    exact hI.env x v (by rw [agree hS hst hU h1]; exact h2)⟩

theorem Inv.closed' {X : Nat → Bool} {i p : Nat} {o : Oper} {ρ : Pm} {a : Act} {w : World} (hI : Inv P n ops base D M K ρ0 ds0 X p ρ a w) (hU : Up ops M X i o) : ∀ j b, j < ops.size → addX X i j = true → M j b = true → addX X i b = true := by
  intro j b hj hX hM
  by_cases e : j = i
  · subst e; exact addX_of (hU.pre b hM)
  · rw [addX_ne e] at hX
    exact addX_of (hI.closed j b hj hX hM)

theorem step_low (hS : Stat P ops prs M) (hst : Steps P R n ops base D) {k : Nat} (hRec : RecOK P k R) {X : Nat → Bool} {i p : Nat} {o : Oper} {ρ : Pm} {a : Act} {w : World} (hI : Inv P n ops base D M K ρ0 ds0 X p ρ a w) (hU : Up ops M X i o)
    (hc : clsOf P o.op ≤ 1) (hev : ∃ t2, evOp1 P R n ops o (restr (D i).t (o.looksAt ops) .nil) (D p).h = some (t2, (D p).h) ∧ ∀ d, o.dst = some d → t2.get d = (D (i + 1)).t.get d)
    {cr : Option Nat} {Q : Exit → Act → World → Prop} {next : Act → World → Prop} (hn : ∀ ρ' a' w', Inv P n ops base D M K ρ0 ds0 (addX X i) p ρ' a' w' → next a' w') : wpOpIn (Wd cr) 0 P ops Q i next a w := by
  have hi : i < ops.size := (Array.getElem?_eq_some_iff.1 hU.op).1
  obtain ⟨t2, h1, h2⟩ := hev
  obtain ⟨Kx, hR, hgo⟩ := hI.frame.step fun id ob ⟨j, _, _, hj, he, _⟩ => by have := hI.nx; omega
  refine evOp1_wp hRec hR (hI.er hS hst hU) hU.op h1 fun ρ' cv v w' hE hv hR' hp => hn ρ' _ w' ?_
  obtain ⟨s1, s2⟩ := env_step hS hst hU hE.le hI.size hI.env hv fun d hd => ⟨((putA_get hp).2 d hd).1, by rw [← h2 d hd]; exact ((putA_get hp).2 d hd).2⟩
  refine ⟨hI.pm, hI.closed' hU, fun e oe he hce => ?_, hI.canon, hI.past, s1, s2, (hgo ρ' _ w' hE hR').weaken fun id ob ⟨j, q1, q2, q3, q4, q5⟩ => ?_, fun j hj hX => ?_, hI.nx, hI.ext.trans hE, ?_⟩
  · have hne : e ≠ i := fun e' => by subst e'; rw [hU.op] at he; cases he; omega
    rw [addX_ne hne]; exact hI.eff e oe he hce
  · have hne : j ≠ i := fun e' => by
      subst e'
      obtain ⟨o', mk, r1, r2, _⟩ := q5
      rw [hU.op] at r1; cases r1; omega
    rw [addX_ne hne] at q1
    exact ⟨j, q1, q2, q3, q4, q5⟩
  · have hne : j ≠ i := fun e' => by subst e'; rw [addX_self] at hX; cases hX
    rw [addX_ne hne] at hX
    rw [hE.old _ (by have := hI.nx; omega)]
    exact hI.later j hj hX
  · cases hd : o.dst <;> exact hI.defers

theorem step_al (hS : Stat P ops prs M) (hst : Steps P R n ops base D) {X : Nat → Bool} {i p : Nat} {o : Oper} {ρ : Pm} {a : Act} {w : World} (hI : Inv P n ops base D M K ρ0 ds0 X p ρ a w) (hU : Up ops M X i o)
    (hc : clsOf P o.op = 2) {cr : Option Nat} {Q : Exit → Act → World → Prop} {next : Act → World → Prop} (hn : ∀ ρ' a' w', Inv P n ops base D M K ρ0 ds0 (addX X i) p ρ' a' w' → next a' w') : wpOpIn (Wd cr) 0 P ops Q i next a w := by
  have hi : i < ops.size := (Array.getElem?_eq_some_iff.1 hU.op).1
  have her := hI.er hS hst hU
  have hnone := hI.later i hi hU.no
  have hpi : p ≤ i := by
    rcases hI.past with h0 | ⟨q, oq, h0, h1, h2⟩
    · omega
    · rcases Nat.lt_trichotomy q i with h3 | h3 | h3
      · omega
      · subst h3; rw [hU.op] at h1; cases h1; omega
      · exfalso
        have hXq := (hI.eff q oq h1 h2).2 (by omega)
        rcases hS.apart i q o oq h3 hU.op h1 with h4 | ⟨_, h4⟩
        · rw [hU.post q (Array.getElem?_eq_some_iff.1 h1).1 hXq] at h4; cases h4
        · exact h4 ⟨h2, by omega⟩
  have heff : ∀ e oe, ops[e]? = some oe → clsOf P oe.op = 3 → (addX X i e = true ↔ e < p) := fun e oe he hce => by
    have hne : e ≠ i := fun e' => by subst e'; rw [hU.op] at he; cases he; omega
    rw [addX_ne hne]; exact hI.eff e oe he hce
  have hlater : ∀ (ρ' : Pm), (∀ j, j < ops.size → j ≠ i → ρ' (base + j) = ρ (base + j)) → ∀ j, j < ops.size → addX X i j = false → ρ' (base + j) = none := fun ρ' hρ j hj hX => by
    have hne : j ≠ i := fun e' => by subst e'; rw [addX_self] at hX; cases hX
    rw [addX_ne hne] at hX
    rw [hρ j hj hne]; exact hI.later j hj hX
  obtain ⟨_, ⟨hw, hp, _⟩ | ⟨ob, mk, hw, ha, hp, _⟩⟩ := drawStep_al hc (hst i o hU.op)
  · unfold wpOpIn
    simp only [hU.op]
    rw [if_neg (by rw [wantedA_sound her hw]; simp)]
    refine ⟨fun _ _ => trivial, hn ρ _ w ?_⟩
    obtain ⟨s1, s2⟩ := env_step hS hst hU (Pm.le_refl ρ) hI.size hI.env undef_VR fun d hd => (putA_get hp).2 d hd
    refine ⟨hI.pm, hI.closed' hU, heff, hI.canon, hI.past, s1, s2, hI.frame.weaken fun id ob ⟨j, q1, q2, q3, q4, q5⟩ => ?_, hlater ρ fun _ _ _ => rfl, hI.nx, hI.ext, by cases hd : o.dst <;> exact hI.defers⟩
    have hne : j ≠ i := fun e' => by
      subst e'
      obtain ⟨o', mk, r1, r2, r3, _⟩ := q5
      rw [hU.op] at r1; cases r1
      rw [hw] at r3; cases r3
    rw [addX_ne hne] at q1
    exact ⟨j, q1, q2, q3, q4, q5⟩
  · unfold wpOpIn
    simp only [hU.op]
    rw [if_pos (wantedA_sound her hw)]
    refine ⟨fun _ _ => trivial, ?_⟩
    have hnd : ∀ c, o.op ≠ .defer c := fun c hd => by rw [hd] at hc; simp [clsOf] at hc
    rw [Oper.semAt_eq _ _ _ hnd]
    obtain ⟨hown, hal⟩ := allocA_sound (P := P) (ρ := ρ) (ty := o.type) (dst := o.dst) (pos := o.pos) (after := o.after) (guard := o.guard) (opnd_sound her) ha
    obtain ⟨co, lim, cv, r1, r2⟩ := hal w
    have hle : ρ.le (ρ.put (base + i) ⟨w.heap.size, 0, lim⟩) := Pm.le_put hnone
    obtain ⟨r3, r4⟩ := r2 _ (base + i) hle (Pm.put_self _ _ _)
    have hfr := hI.frame.make (id := base + i) (by have := hI.nx; omega) hnone hown r3
    have hrun : (execOp a.eval o).run P w = .ok (.value cv) { w with heap := w.heap.push co } := r1
    rw [hrun]
    refine hn (ρ.put (base + i) ⟨w.heap.size, 0, lim⟩) _ _ ?_
    obtain ⟨s1, s2⟩ := env_step hS hst hU hle hI.size hI.env r4 fun d hd => (putA_get hp).2 d hd
    refine ⟨hI.pm, hI.closed' hU, heff, hI.canon, hI.past, s1, s2, hfr.weaken fun id ob' ⟨j, q1, q2, q3, q4, q5⟩ => ?_, hlater _ fun j hj hne => ?_, hI.nx, ⟨Pm.le_trans hI.ext.le hle, hI.ext.nx, fun id hid => ?_⟩, by cases hd : o.dst <;> exact hI.defers⟩
    · by_cases e : j = i
      · subst e
        obtain ⟨o', mk', t1, t2, t3, t4⟩ := q5
        rw [hU.op] at t1; cases t1
        rw [ha] at t4; cases t4
        exact .inr ⟨q4, rfl⟩
      · rw [addX_ne e] at q1
        exact .inl ⟨j, q1, q2, q3, q4, q5⟩
    · have : base + j ≠ base + i := by omega
      simp only [Pm.put, if_neg this]
    · have : id ≠ base + i := by omega
      simp only [Pm.put, if_neg this]
      exact hI.ext.old id hid

theorem step_eff (hS : Stat P ops prs M) (hst : Steps P R n ops base D) {k : Nat} (hRec : RecOK P k R) {X : Nat → Bool} {i p : Nat} {o : Oper} {ρ : Pm} {a : Act} {w : World} (hI : Inv P n ops base D M K ρ0 ds0 X p ρ a w) (hU : Up ops M X i o)
    (hc : clsOf P o.op = 3) {cr : Option Nat} {Q : Exit → Act → World → Prop} {next : Act → World → Prop} (hn : ∀ ρ' a' w', Inv P n ops base D M K ρ0 ds0 (addX X i) (i + 1) ρ' a' w' → next a' w') : wpOpIn (Wd cr) 0 P ops Q i next a w := by
  have hi : i < ops.size := (Array.getElem?_eq_some_iff.1 hU.op).1
  have hpi : p ≤ i := by
    rcases Nat.lt_or_ge i p with h1 | h1
    · have := (hI.eff i o hU.op hc).2 h1
      rw [hU.no] at this; cases this
    · exact h1
  have hall : ∀ e oe, e < i → ops[e]? = some oe → 2 ≤ clsOf P oe.op → X e = true := fun e oe he hoe hce => by
    rcases hS.apart e i oe o he hoe hU.op with h1 | ⟨_, h1⟩
    · exact hU.pre e h1
    · exact (h1 ⟨hc, hce⟩).elim
  have hno : ∀ e oe, p ≤ e → e < i → ops[e]? = some oe → clsOf P oe.op ≠ 3 := fun e oe h1 h2 h3 h4 => by
    have := (hI.eff e oe h3 h4).1 (hall e oe h2 h3 (by omega))
    omega
  have hheap := heap_same hst i hpi (by omega) hno
  obtain ⟨hnd, hmem⟩ := pend_spec hst hI.canon i hpi (by omega) hno
  obtain ⟨t', h1, h2, h3⟩ := drawStep_eff hc (hst i o hU.op)
  rw [hheap] at h1
  have hF := hI.frame.absorbL (D i).pend hnd fun id ob hm => by
    obtain ⟨j, q1, q2, q3, q4⟩ := (hmem id ob).1 hm
    have q4' := q4
    obtain ⟨oj, mk, t1, t2, _⟩ := q4'
    exact ⟨j, hall j oj q2 t1 (by omega), q1, by omega, q3, q4⟩
  obtain ⟨Kx, hR, hgo⟩ := hF.step fun id ob ⟨⟨j, _, _, hj, he, _⟩, _⟩ => by rw [absorb_nx]; have := hI.nx; omega
  refine evOp1_wp hRec hR (hI.er hS hst hU) hU.op h1 fun ρ' cv v w' hE hv hR' hp => hn ρ' _ w' ?_
  have hback : ∀ d, o.dst = some d → (D (i + 1)).t.get d = t'.get d := fun d hd => by rw [h2]; exact backA_get.2 d hd
  obtain ⟨s1, s2⟩ := env_step hS hst hU hE.le hI.size hI.env hv fun d hd => ⟨((putA_get hp).2 d hd).1, by rw [hback d hd]; exact ((putA_get hp).2 d hd).2⟩
  have hnx := hE.nx
  rw [absorb_nx] at hnx
  refine ⟨by omega, hI.closed' hU, fun e oe he hce => ?_, h3, .inr ⟨i, o, rfl, hU.op, hc⟩, s1, s2, (hgo ρ' _ w' hE hR').weaken fun id ob ⟨j, q1, q2, q3, q4, q5⟩ => ?_, fun j hj hX => ?_, by have := hI.nx; omega, hI.ext.trans ?_, by cases hd : o.dst <;> exact hI.defers⟩
  · by_cases e' : e = i
    · subst e'; simp [addX_self]
    · rw [addX_ne e']
      constructor
      · intro hX
        have := (hI.eff e oe he hce).1 hX
        omega
      · intro hlt
        exact hall e oe (by omega) he (by omega)
  · have hne : j ≠ i := by omega
    rw [addX_ne hne] at q1
    refine ⟨⟨j, q1, by omega, q3, q4, q5⟩, fun ob' hm => ?_⟩
    obtain ⟨j', r1, r2, r3, _⟩ := (hmem id ob').1 hm
    omega
  · have hne : j ≠ i := fun e' => by subst e'; rw [addX_self] at hX; cases hX
    rw [addX_ne hne] at hX
    rw [hE.old _ (by rw [absorb_nx]; have := hI.nx; omega)]
    exact hI.later j hj hX
  · rw [absorb_nx] at hE; exact hE

theorem Inv.done (hst : Steps P R n ops base D) {X : Nat → Bool} {p : Nat} {ρ : Pm} {a : Act} {w : World} (hI : Inv P n ops base D M K ρ0 ds0 X p ρ a w) (hX : ∀ j, j < ops.size → X j = true) :
    ∃ ρ', Ext base ρ0 (absorb (D ops.size).pend (D ops.size).h).nx ρ' ∧ Rel K ρ' (absorb (D ops.size).pend (D ops.size).h) w ∧ ER ρ' (D ops.size).t n a.tmps := by
  have hno : ∀ e oe, p ≤ e → e < ops.size → ops[e]? = some oe → clsOf P oe.op ≠ 3 := fun e oe h1 h2 h3 h4 => by
    have := (hI.eff e oe h3 h4).1 (hX e h2)
    omega
  have hheap := heap_same hst ops.size hI.pm (Nat.le_refl _) hno
  obtain ⟨hnd, hmem⟩ := pend_spec hst hI.canon ops.size hI.pm (Nat.le_refl _) hno
  have hF := hI.frame.absorbL (D ops.size).pend hnd fun id ob hm => by
    obtain ⟨j, q1, q2, q3, q4⟩ := (hmem id ob).1 hm
    exact ⟨j, hX j q2, q1, q2, q3, q4⟩
  refine ⟨ρ, by rw [absorb_nx, hheap]; exact hI.ext, by rw [hheap]; exact hF.rel, hI.size, fun x v hx => hI.env x v ?_⟩
  rw [envAt_text hst ops.size (Nat.le_refl _) fun j hj _ => hX j hj]
  exact hx

end
end Go.Abs
end

section
namespace Go.Abs
open Go
set_option linter.unusedVariables false
set_option linter.unusedSimpArgs false

section
variable {P : Program} {R : Rec} {n : Nat} {ops : Array Oper} {base : Nat} {prs : List (Nat × Nat)} {M : Nat → Nat → Bool} {K : Kp} {ρ0 : Pm} {ds0 : List Deferred}

theorem first_eff (P : Program) (ops : Array Oper) (p : Nat) : ∀ i, p ≤ i → (∀ e o, p ≤ e → e < i → ops[e]? = some o → clsOf P o.op ≠ 3) ∨
    ∃ e o, p ≤ e ∧ e < i ∧ ops[e]? = some o ∧ clsOf P o.op = 3 ∧ ∀ e' o', p ≤ e' → e' < e → ops[e']? = some o' → clsOf P o'.op ≠ 3
  | 0, h => .inl fun e o h1 h2 => by omega
  | i + 1, h => by
    by_cases hpi : p ≤ i
    · rcases first_eff P ops p i hpi with h1 | ⟨e, o, h1, h2, h3⟩
      · by_cases hx : ∃ o, ops[i]? = some o ∧ clsOf P o.op = 3
        · obtain ⟨o, ho, hc⟩ := hx
          exact .inr ⟨i, o, hpi, by omega, ho, hc, h1⟩
        · refine .inl fun e o h2 h3 h4 h5 => ?_
          by_cases e' : e = i
          · subst e'; exact hx ⟨o, h4, h5⟩
          · exact h1 e o h2 (by omega) h4 h5
      · exact .inr ⟨e, o, h1, by omega, h3⟩
    · exact .inl fun e o h1 h2 => by omega

theorem low_ev {ss : List DS} (hS : Stat P ops prs M) (hst : Steps P R n ops base (dsAt ss)) (hsame : sameAll P R n ops ss prs = true) {X : Nat → Bool} {i p : Nat} {o : Oper} {ρ : Pm} {a : Act} {w : World}
    (hI : Inv P n ops base (dsAt ss) M K ρ0 ds0 X p ρ a w) (hU : Up ops M X i o) (hc : clsOf P o.op ≤ 1) :
    ∃ t2, evOp1 P R n ops o (restr (dsAt ss i).t (o.looksAt ops) .nil) (dsAt ss p).h = some (t2, (dsAt ss p).h) ∧ ∀ d, o.dst = some d → t2.get d = (dsAt ss (i + 1)).t.get d := by
  have hi : i < ops.size := (Array.getElem?_eq_some_iff.1 hU.op).1
  obtain ⟨t', h1, h2, _, _⟩ := drawStep_low hc (hst i o hU.op)
  have hown : ∀ d, o.dst = some d → t'.get d = (dsAt ss (i + 1)).t.get d := fun d hd => by rw [h2]; exact (backA_get.2 d hd).symm
  by_cases hc0 : clsOf P o.op = 0
  · exact ⟨t', evOp1_loc _ hc0 h1, hown⟩
  have hc1 : clsOf P o.op = 1 := by omega
  have viaSame : ∀ h, sameAt P R n ops i (dsAt ss i).t (dsAt ss (i + 1)).t h = true → ∃ t2, evOp1 P R n ops o (restr (dsAt ss i).t (o.looksAt ops) .nil) h = some (t2, h) ∧ ∀ d, o.dst = some d → t2.get d = (dsAt ss (i + 1)).t.get d := fun h hs => by
    obtain ⟨t2, h2, q1, q2⟩ := sameAt_spec hU.op hs
    have := evOp1_read hc q1
    subst this
    refine ⟨t2, q1, fun d hd => ?_⟩
    obtain ⟨v, r1, r2⟩ := q2 d hd
    rw [r1, r2]
  rcases Nat.lt_or_ge i p with hip | hip
  · -- a call behind it in the text is done
    rcases hI.past with h0 | ⟨q, oq, h0, hq, hcq⟩
    · omega
    · subst h0
      have hne : q ≠ i := fun e => by subst e; rw [hU.op] at hq; cases hq; omega
      have hXq := (hI.eff q oq hq hcq).2 (by omega)
      have hM := hU.post q (Array.getElem?_eq_some_iff.1 hq).1 hXq
      have hpr := hS.pair i q o oq (by omega) hU.op hq hM (.inr ⟨hcq, hc1⟩)
      exact viaSame _ ((sameAll_spec prs hsame i q oq hpr hq).2 (by omega))
  · rcases first_eff P ops p i hip with hno | ⟨e, oe, e1, e2, e3, e4, e5⟩
    · rw [heap_same hst i hip (by omega) hno] at h1
      exact ⟨t', h1, hown⟩
    · have hXe : X e = false := by
        cases hX : X e with
        | false => rfl
        | true => have := (hI.eff e oe e3 e4).1 hX; omega
      have hM : M i e = false := by
        cases hm : M i e with
        | false => rfl
        | true => rw [hU.pre e hm] at hXe; cases hXe
      have hpr := hS.pair e i oe o e2 e3 hU.op hM (.inl ⟨hc1, e4⟩)
      have := (sameAll_spec prs hsame e i o hpr hU.op).1 hc1
      rw [heap_same hst e e1 (by omega) e5] at this
      exact viaSame _ this

theorem draw_any {ss : List DS} (hS : Stat P ops prs M) (hst : Steps P R n ops base (dsAt ss)) (hsame : sameAll P R n ops ss prs = true) {k : Nat} (hRec : RecOK P k R) {cr : Option Nat} {Q : Exit → Act → World → Prop}
    (hQ : ∀ ρ' a' w', Ext base ρ0 (absorb (dsAt ss ops.size).pend (dsAt ss ops.size).h).nx ρ' → Rel K ρ' (absorb (dsAt ss ops.size).pend (dsAt ss ops.size).h) w' → ER ρ' (dsAt ss ops.size).t n a'.tmps → a'.defers = ds0 → Q .normal a' w') :
    ∀ (fuel : Nat) (listed : Array Bool) (rem : List Nat) (p : Nat) (ρ : Pm) (a : Act) (w : World), listed.size = ops.size → (∀ j, j < ops.size → listed.getD j false = false → j ∈ rem) → rem.length ≤ fuel →
      Inv P n ops base (dsAt ss) M K ρ0 ds0 (fun j => listed.getD j false) p ρ a w → wpAnyIn (Wd cr) 0 P .any ops Q fuel listed a w := by
  have hdone : ∀ (listed : Array Bool) (p : Nat) (ρ : Pm) (a : Act) (w : World), Inv P n ops base (dsAt ss) M K ρ0 ds0 (fun j => listed.getD j false) p ρ a w → (∀ j, j < ops.size → listed.getD j false = true) → Q .normal a w := fun listed p ρ a w hI hX => by
    obtain ⟨ρ', h1, h2, h3⟩ := hI.done hst hX
    exact hQ ρ' a w h1 h2 h3 hI.defers
  have hgetD : ∀ (listed : Array Bool) j, listed.size = ops.size → j < ops.size → listed.getD j true = listed.getD j false := fun listed j hs hj => by
    simp [Array.getD, hs, hj]
  have hready : ∀ (listed : Array Bool), listed.size = ops.size → Region.ready .any ops listed = [] → ∀ j, j < ops.size → listed.getD j false = true := fun listed hs hr j => by
    induction j using Nat.strongRecOn with
    | _ j ih =>
      intro hj
      cases hx : listed.getD j false with
      | true => rfl
      | false =>
        have ho : ops[j]? = some ops[j] := by simp
        have : j ∈ Region.ready .any ops listed := mem_ready.2 ⟨by rw [hgetD listed j hs hj]; exact hx, _, ho, fun e he hb => by
          have hlt := hS.back j _ ho e he hb
          exact ih e.on hlt (by omega)⟩
        rw [hr] at this; cases this
  intro fuel
  induction fuel with
  | zero =>
    intro listed rem p ρ a w hs hrem hlen hI
    have hall : ∀ j, j < ops.size → listed.getD j false = true := fun j hj => by
      cases hx : listed.getD j false with
      | true => rfl
      | false =>
        have := hrem j hj hx
        have : rem = [] := List.length_eq_zero_iff.1 (by omega)
        simp_all
    refine ⟨?_, hdone listed p ρ a w hI hall⟩
    cases hr : Region.ready .any ops listed with
    | nil => rfl
    | cons i l =>
      have hm : i ∈ Region.ready .any ops listed := by rw [hr]; exact List.mem_cons_self ..
      obtain ⟨h1, o, ho, _⟩ := mem_ready.1 hm
      have hi := (Array.getElem?_eq_some_iff.1 ho).1
      rw [hgetD listed i hs hi, hall i hi] at h1; cases h1
  | succ fuel ih =>
    intro listed rem p ρ a w hs hrem hlen hI
    refine ⟨fun hr => hdone listed p ρ a w hI (hready listed hs hr), fun i hm => ?_⟩
    obtain ⟨h1, o, ho, hpre⟩ := mem_ready.1 hm
    have hi := (Array.getElem?_eq_some_iff.1 ho).1
    rw [hgetD listed i hs hi] at h1
    have hU : Up ops M (fun j => listed.getD j false) i o := ⟨ho, h1, fun b hb => by
      obtain ⟨e, he, hbi, hor⟩ := hS.why i o b ho hb
      have hX := hpre e he hbi
      rcases hor with rfl | hor
      · exact hX
      · exact hI.closed e.on b (by have := hS.back i o ho e he hbi; omega) hX hor, fun j hj hX => by
      cases hM : M j i with
      | false => rfl
      | true => have hc : listed.getD i false = true := hI.closed j i hj hX hM; rw [h1] at hc; cases hc⟩
    have hset : (fun j => (listed.setIfInBounds i true).getD j false) = addX (fun j => listed.getD j false) i := by
      funext j
      by_cases e : j = i
      · subst e
        rw [addX_self]
        simp [Array.getD, hs, hi]
      · rw [addX_ne e]
        exact getD_set_ne false (Ne.symm e)
    have hnext : ∀ p' ρ' a' w', Inv P n ops base (dsAt ss) M K ρ0 ds0 (addX (fun j => listed.getD j false) i) p' ρ' a' w' → wpAnyIn (Wd cr) 0 P .any ops Q fuel (listed.setIfInBounds i true) a' w' := fun p' ρ' a' w' hI' => by
      refine ih (listed.setIfInBounds i true) (rem.erase i) p' ρ' a' w' (by simpa using hs) (fun j hj hx => ?_) ?_ (by rw [hset]; exact hI')
      · have hne : j ≠ i := fun e => by
          subst e
          have hc : (listed.setIfInBounds j true).getD j false = _ := congrFun hset j
          rw [addX_self] at hc
          rw [hc] at hx; cases hx
        have hc : (listed.setIfInBounds i true).getD j false = _ := congrFun hset j
        rw [addX_ne hne] at hc
        rw [hc] at hx
        exact (List.mem_erase_of_ne hne).2 (hrem j hj hx)
      · have := List.length_erase_of_mem (hrem i hi h1)
        omega
    rcases cls_cases P o.op with hc | hc | hc
    · exact step_low hS hst hRec hI hU hc (low_ev hS hst hsame hI hU hc) (hnext p)
    · exact step_al hS hst hI hU hc (hnext p)
    · exact step_eff hS hst hRec hI hU hc (hnext (i + 1))

theorem drawOK {k : Nat} (hRec : RecOK P k R) : DrawOK P R := by
  intro K ρ w a cr n ops t t' h h' l T Q hR he hb hQ
  unfold evDraw at hb
  split at hb
  · rename_i hmix
    cases hstat : statGo P ops ops.toList 0 [] [] [] with
    | none => simp [hstat] at hb
    | some prs =>
      simp only [hstat] at hb
      cases hgo : drawGo P R n ops h.nx ops.toList 0 { t, h := { h with nx := h.nx + ops.size }, pend := [] } with
      | none => simp [hgo] at hb
      | some ss =>
        simp only [hgo] at hb
        split at hb
        · rename_i hsame
          obtain ⟨M, hS⟩ := stat_spec hstat
          obtain ⟨g1, g2, g3⟩ := drawGo_spec _ _ _ _ hgo
          have hst : Steps P R n ops h.nx (dsAt ss) := fun k o hk => by
            obtain ⟨s1, s2, q1, q2, q3⟩ := g3 k o (by simpa using hk)
            simp only [dsAt, q1, q2, Option.getD_some]
            simpa using q3
          have h0 : dsAt ss 0 = { t, h := { h with nx := h.nx + ops.size }, pend := [] } := by simp [dsAt, g2]
          split at hb
          · rename_i s hs
            simp only [Option.some.injEq, Prod.mk.injEq] at hb
            obtain ⟨rfl, rfl⟩ := hb
            have hend : dsAt ss ops.size = s := by simp [dsAt, hs]
            simp only [Region.schedule, hmix, Bool.true_or, if_true]
            refine wpAnyIn_sound ops.size T _ a w ?_
            refine draw_any (base := h.nx) (K := K) (ρ0 := ρ) (ds0 := a.defers) (M := M) hS hst hsame hRec (fun ρ' a' w' hE hR' he' hd => ?_) ops.size (Array.replicate ops.size false) (List.range ops.size) 0 ρ a w (by simp) (fun j hj _ => by simpa using hj) (by simp) ?_
            · rw [hend] at hE hR' he'
              exact hQ ρ' a' w' hE hR' he' hd
            · have hX : ∀ j, (Array.replicate ops.size false).getD j false = false := fun j => by
                simp only [Array.getD]
                split <;> simp
              refine ⟨by omega, fun j b _ hx => ?_, fun e o _ _ => ?_, by rw [h0], .inl rfl, he.1, fun x v hx => ?_, ?_, fun j hj _ => ?_, by rw [h0]; exact Nat.le_refl _, ?_, rfl⟩
              · rw [hX j] at hx; cases hx
              · simp only [hX e]; simp
              · have : envAt ops (dsAt ss) (fun j => (Array.replicate ops.size false).getD j false) x ops.size = envAt ops (dsAt ss) (fun j => (Array.replicate ops.size false).getD j false) x 0 :=
                  envAt_stop ops.size (by omega) fun j _ _ _ => hX j
                rw [this] at hx
                simp only [envAt, h0] at hx
                exact he.2 x v hx
              · rw [h0]
                have hR' : Rel K ρ { tr := h.tr, nx := h.nx + ops.size } w := hR.forget (h' := { tr := h.tr, nx := h.nx + ops.size }) (fun _ _ hg => hg) (by simp)
                refine Framed.of_rel hR' fun id ob hh => ?_
                obtain ⟨j, hx, _⟩ := hh
                rw [hX j] at hx; cases hx
              · exact hR.fresh _ (by omega)
              · rw [h0]
                exact ⟨Pm.le_refl ρ, by simp, fun _ _ => rfl⟩
          · simp at hb
        · simp at hb
  · simp at hb

theorem evN_sound {S : Sums} (hS : SumsOK P S) (k : Nat) : RecOK P k (evN P S k) := evN_ok hS (fun k R h => drawOK h) k

end
end Go.Abs
end

section
namespace Go.Abs
open Go Go.Proofs
set_option linter.unusedVariables false
set_option linter.unusedSimpArgs false

section
variable {P : Program} {ρ : Pm} {w : World} {K : Kp} {h : AH}

def ExtOK (P : Program) (f : FuncId) (e : Array Value → Sem Value) : Prop :=
  ∃ fn, P.funcs[f]? = some fn ∧ (fn.name == "runtime.NumGoroutine") = false ∧ fn.body.isNone = true ∧ Extern.findNext fn = none ∧ Extern.find fn = some e

theorem callRes_ext {f : FuncId} {e : Array Value → Sem Value} (hE : ExtOK P f e) {cargs : Array Value} {cv : Value} {w' : World} {Q : Value → World → Prop} (hr : (e cargs).run P w = .ok cv w') (hq : Q cv w') : CallRes P f cargs w Q := by
  obtain ⟨fn, h1, h2, h3, h4, h5⟩ := hE
  exact ⟨.value cv, w', by rw [run_callFunc_extern h1 h2 h3 h4 h5, hr]; rfl, hq⟩

theorem callRes_body {f : FuncId} (hb : bodied P f = true) {cargs : Array Value} {Q : Value → World → Prop} (hc : Calls P f cargs w fun e w' => ∃ cv, e = .returned cv ∧ Q cv w') : CallRes P f cargs w Q :=
  ⟨.enter f cargs, w, callFunc_bodied hb cargs w, callsIn_wide.2 hc⟩

/-! ### Counting a byte, looking for a byte -/
def cntA (k : Nat) : List Nat → Nat
  | [] => 0
  | a :: l => cond (Nat.beq a k) (cntA k l + 1) (cntA k l)

def idxA (k : Nat) : List Nat → Nat → Int
  | [], _ => -1
  | a :: l, i => cond (Nat.beq a k) (Int.ofNat i) (idxA k l (i + 1))

def sumCount (args : List AV) (h : AH) : Option (AV × AH) :=
  match args with
  | [.str s, .int .u8 c] => some (.int .i64 (Int.ofNat (cntA (c.toNat % 256) s)), h)
  | _ => none

def sumIndex (args : List AV) (h : AH) : Option (AV × AH) :=
  match args with
  | [.str s, .int .u8 c] => some (.int .i64 (idxA (c.toNat % 256) s 0), h)
  | _ => none

theorem byte_eq (b : UInt8) (n : Nat) : Nat.beq b.toNat (n % 256) = (b == n.toUInt8) := by
  rw [nbeq]
  have : (b.toNat = n % 256) ↔ b = n.toUInt8 := by
    rw [← UInt8.toNat_inj]
    simp [Nat.toUInt8]
  rw [Bool.eq_iff_iff, decide_eq_true_eq, beq_iff_eq]
  exact this

theorem cntA_eq (n : Nat) : ∀ l : List UInt8, cntA (n % 256) (l.map UInt8.toNat) = Lib.countByte l n.toUInt8
  | [] => rfl
  | b :: l => by
    simp only [List.map_cons, cntA, byte_eq, cntA_eq n l, Lib.countByte, List.count_cons]
    cases b == n.toUInt8 <;> simp

theorem indexByte_nonneg (l : List UInt8) (c : UInt8) : Lib.indexByte l c = -1 ∨ 0 ≤ Lib.indexByte l c := by
  have := Lib.indexByte_ge l c; omega

theorem idxA_eq (n : Nat) : ∀ (l : List UInt8) (i : Nat), idxA (n % 256) (l.map UInt8.toNat) i = if Lib.indexByte l n.toUInt8 = -1 then -1 else Lib.indexByte l n.toUInt8 + (i : Nat)
  | [], i => by simp [idxA, Lib.indexByte]
  | b :: l, i => by
    simp only [List.map_cons, idxA, byte_eq, idxA_eq n l (i + 1), Lib.indexByte]
    by_cases hb : (b == n.toUInt8) = true
    · simp only [hb, if_true, cond_true]
      simp
    · simp only [Bool.not_eq_true] at hb
      simp only [hb, cond_false, Bool.false_eq_true, if_false, beq_iff_eq]
      rcases indexByte_nonneg l n.toUInt8 with h1 | h1
      · simp [h1]
      · have h2 : Lib.indexByte l n.toUInt8 ≠ -1 := by omega
        have h3 : Lib.indexByte l n.toUInt8 + 1 ≠ -1 := by omega
        simp only [h2, h3, if_false]
        omega

theorem args2 {x y : AV} {cargs : Array Value} (hv : VRs ρ [x, y] cargs.toList) : ∃ cx cy, cargs = #[cx, cy] ∧ VR ρ x cx ∧ VR ρ y cy := by
  obtain ⟨l⟩ := cargs
  cases hv with
  | cons h1 t => cases t with
    | cons h2 t => cases t with
      | nil => exact ⟨_, _, rfl, h1, h2⟩

theorem args1 {x : AV} {cargs : Array Value} (hv : VRs ρ [x] cargs.toList) : ∃ cx, cargs = #[cx] ∧ VR ρ x cx := by
  obtain ⟨l⟩ := cargs
  cases hv with
  | cons h1 t => cases t with
    | nil => exact ⟨_, rfl, h1⟩

theorem sumCount_ok {f : FuncId} (hE : ExtOK P f Extern.BytealgCount.count) {args : List AV} {cargs : Array Value} {v : AV} {h' : AH} (hR : Rel K ρ h w) (hv : VRs ρ args cargs.toList) (hs : sumCount args h = some (v, h')) : CallRes P f cargs w (CallPost K h ρ v h') := by
  unfold sumCount at hs
  split at hs
  · obtain ⟨cx, cy, rfl, h1, h2⟩ := args2 hv
    cases h1; cases h2
    simp only [Option.some.injEq, Prod.mk.injEq] at hs
    obtain ⟨rfl, rfl⟩ := hs
    refine callRes_ext hE (Lib.run_countString _ _ w) ⟨ρ, Ext.refl _ _, ?_, hR⟩
    rename_i c s
    rw [show bytesOf s = s.data.toList.map UInt8.toNat from rfl, cntA_eq]
    exact .int _ _
  · simp at hs

theorem sumIndex_ok {f : FuncId} (hE : ExtOK P f Extern.BytealgIndexByte.indexByte) {args : List AV} {cargs : Array Value} {v : AV} {h' : AH} (hR : Rel K ρ h w) (hv : VRs ρ args cargs.toList) (hs : sumIndex args h = some (v, h')) : CallRes P f cargs w (CallPost K h ρ v h') := by
  unfold sumIndex at hs
  split at hs
  · obtain ⟨cx, cy, rfl, h1, h2⟩ := args2 hv
    cases h1; cases h2
    simp only [Option.some.injEq, Prod.mk.injEq] at hs
    obtain ⟨rfl, rfl⟩ := hs
    refine callRes_ext hE (Lib.run_indexByteString _ _ w) ⟨ρ, Ext.refl _ _, ?_, hR⟩
    rename_i c s
    rw [show bytesOf s = s.data.toList.map UInt8.toNat from rfl, idxA_eq]
    have : (if Lib.indexByte s.data.toList c.toNat.toUInt8 = -1 then (-1 : Int) else Lib.indexByte s.data.toList c.toNat.toUInt8 + ((0 : Nat) : Int)) = Lib.indexByte s.data.toList c.toNat.toUInt8 := by
      split <;> omega
    rw [this]
    exact .int _ _
  · simp at hs

/-! ### A map is cloned -/
noncomputable def sumClone (args : List AV) (h : AH) : Option (AV × AH) :=
  match args with
  | [.iface t (.map id)] => match h.get id with
    | some (.map es bs ck) => some (.iface t (.map h.nx), h.new (.map es bs ck))
    | _ => none
  | _ => none

theorem sumClone_ok {f : FuncId} (hE : ExtOK P f Extern.MapsClone.clone) {args : List AV} {cargs : Array Value} {v : AV} {h' : AH} (hR : Rel K ρ h w) (hv : VRs ρ args cargs.toList) (hs : sumClone args h = some (v, h')) : CallRes P f cargs w (CallPost K h ρ v h') := by
  unfold sumClone at hs
  split at hs
  · rename_i t id
    obtain ⟨cx, rfl, h1⟩ := args1 hv
    cases h1 with
    | iface hm =>
    cases hm with
    | map hp =>
    rename_i p
    split at hs
    · rename_i es bs clock hg
      simp only [Option.some.injEq, Prod.mk.injEq] at hs
      obtain ⟨rfl, rfl⟩ := hs
      obtain ⟨q, ces, hq, hh, hmr, hbs, hst⟩ := hR.map hg
      rw [hp] at hq; cases hq
      have hle : ρ.le (ρ.put h.nx ⟨w.heap.size, 0, 0⟩) := Pm.le_put (hR.fresh _ (Nat.le_refl _))
      obtain ⟨r1, r2⟩ := hR.push (o := .map es bs clock) (co := .map ces clock) (lim := 0) rfl ⟨ces, rfl, hmr.mono hle, hbs, hst⟩
      refine callRes_ext hE (cv := .iface t (.map (some w.heap.size))) (w' := { w with heap := w.heap.push (.map ces clock) }) ?_ ⟨_, r2, .iface (.map (Pm.put_self _ _ _)), r1⟩
      have he : Extern.MapsClone.clone #[.iface t (.map (some p.b))] = (getObj p.b >>= _) := rfl
      rw [he]
      simp only [Sem.run_bind, run_getObj' hh (fun _ _ _ hc => by cases hc), Result.andThen_ok, run_newObj, Sem.run_pure]
    · simp at hs
  · simp at hs

end
end Go.Abs
end

section
namespace Go.Abs
open Go Go.Proofs
set_option linter.unusedVariables false
set_option linter.unusedSimpArgs false

section
variable {P : Program} {ρ : Pm} {w : World} {K : Kp} {h : AH}

/-! ### Sorting -/
def insS (a : List Nat) : List (List Nat) → List (List Nat)
  | [] => [a]
  | b :: l => cond (lessA b a) (b :: insS a l) (a :: b :: l)
def sortS : List (List Nat) → List (List Nat)
  | [] => []
  | a :: l => insS a (sortS l)

def insU (a : List UInt8) : List (List UInt8) → List (List UInt8)
  | [] => [a]
  | b :: l => if b < a then b :: insU a l else a :: b :: l
def sortU : List (List UInt8) → List (List UInt8)
  | [] => []
  | a :: l => insU a (sortU l)

theorem insS_eq (a : List UInt8) : ∀ l : List (List UInt8), insS (a.map UInt8.toNat) (l.map (List.map UInt8.toNat)) = (insU a l).map (List.map UInt8.toNat)
  | [] => rfl
  | b :: l => by
    simp only [List.map_cons, insS, insU, lessA_map, Go.Proofs.bytesLess_eq, insS_eq a l]
    by_cases hb : b < a <;> simp [hb]

theorem sortS_eq : ∀ l : List (List UInt8), sortS (l.map (List.map UInt8.toNat)) = (sortU l).map (List.map UInt8.toNat)
  | [] => rfl
  | a :: l => by simp only [List.map_cons, sortS, sortU, sortS_eq l, insS_eq]

theorem insU_perm (a : List UInt8) : ∀ l, (insU a l).Perm (a :: l)
  | [] => .refl _
  | b :: l => by
    simp only [insU]
    split
    · exact ((insU_perm a l).cons b).trans (.swap a b l)
    · exact .refl _

theorem sortU_perm : ∀ l, (sortU l).Perm l
  | [] => .refl _
  | a :: l => (insU_perm a _).trans ((sortU_perm l).cons a)

theorem insU_sorted (a : List UInt8) : ∀ l : List (List UInt8), l.Pairwise (fun x y => leB x y = true) → (insU a l).Pairwise (fun x y => leB x y = true)
  | [], _ => by simp [insU]
  | b :: l, h => by
    simp only [insU]
    rw [List.pairwise_cons] at h
    split
    · rename_i hlt
      rw [List.pairwise_cons]
      refine ⟨fun x hx => ?_, insU_sorted a l h.2⟩
      rcases List.mem_cons.1 ((insU_perm a l).mem_iff.1 hx) with rfl | hx
      · simp only [leB, decide_eq_true_eq]; exact List.le_of_lt hlt
      · exact h.1 x hx
    · rename_i hlt
      have hab : a ≤ b := hlt
      rw [List.pairwise_cons]
      refine ⟨fun x hx => ?_, List.pairwise_cons.2 h⟩
      rcases List.mem_cons.1 hx with rfl | hx
      · simp only [leB, decide_eq_true_eq]; exact hab
      · have := h.1 x hx
        simp only [leB, decide_eq_true_eq] at this ⊢
        exact List.le_trans hab this

theorem sortU_sorted : ∀ l, (sortU l).Pairwise (fun x y => leB x y = true)
  | [] => .nil
  | a :: l => insU_sorted a _ (sortU_sorted l)

theorem sortU_eq {l ss : List (List UInt8)} (h : ss.Perm l) : ss.mergeSort leB = sortU l := by
  have tr : ∀ a b c : List UInt8, leB a b = true → leB b c = true → leB a c = true := fun a b c h1 h2 => by simp only [leB, decide_eq_true_eq] at *; exact List.le_trans h1 h2
  have to : ∀ a b : List UInt8, (leB a b || leB b a) = true := fun a b => by simp only [leB, Bool.or_eq_true, decide_eq_true_eq]; exact List.le_total a b
  refine List.Perm.eq_of_pairwise (le := fun a b => leB a b = true) (fun a b _ _ h1 h2 => ?_) (List.pairwise_mergeSort tr to ss) (sortU_sorted l) (((List.mergeSort_perm ss leB).trans h).trans (sortU_perm l).symm)
  simp only [leB, decide_eq_true_eq] at h1 h2
  exact List.le_antisymm h1 h2

/-! ### The keys -/
def keysA : List (AV × AV) → Option (List (List Nat))
  | [] => some []
  | (.str s, _) :: r => match keysA r with
    | some l => if s.length ≤ 1099511627776 then some (s :: l) else none
    | none => none
  | _ :: _ => none

theorem keysA_sound : ∀ {es : List (AV × AV)} {l : List MapEntry} {ks : List (List Nat)}, MR ρ es l → keysA es = some ks →
    ∃ xs : List (List UInt8), l.map (·.key) = xs.map encStr ∧ ks = xs.map (List.map UInt8.toNat) ∧ ∀ x ∈ xs, x.length ≤ maxLen
  | [], [], ks, _, h => by
    simp only [keysA, Option.some.injEq] at h
    subst h
    exact ⟨[], rfl, rfl, by simp⟩
  | (k, v) :: es, e :: l, ks, ⟨h1, h2, h3⟩, h => by
    unfold keysA at h
    split at h
    · rename_i heq; cases heq
    · rename_i s v' r heq
      simp only [List.cons.injEq, Prod.mk.injEq] at heq
      obtain ⟨⟨rfl, rfl⟩, rfl⟩ := heq
      cases hr : keysA es with
      | none => simp [hr] at h
      | some l' =>
        simp only [hr] at h
        split at h
        · rename_i hlen
          simp only [Option.some.injEq] at h
          subst h
          obtain ⟨xs, e1, e2, e3⟩ := keysA_sound h3 hr
          generalize hk : e.key = ck at h1
          cases h1 with
          | str s =>
          refine ⟨s.data.toList :: xs, ?_, ?_, fun x hx => ?_⟩
          · simp only [List.map_cons, hk, e1, encStr]
          · simp only [List.map_cons, e2]; rfl
          · rcases List.mem_cons.1 hx with rfl | hx
            · have : s.data.toList.length = (bytesOf s).length := by simp [bytesOf]
              rw [this]
              have hm : maxLen = 9223372036854775807 := by decide
              omega
            · exact e3 x hx
        · simp at h
    · simp at h
  | [], _ :: _, _, hh, _ => hh.elim
  | (_, _) :: _, [], _, hh, _ => hh.elim

def anyR : Value → Option (DataW Unit × List MemPlace) := fun _ => some (.lit (.bool false), [])

theorem insert_perm {H : Type} (x : Lit × DataW H) : ∀ l, (DataW.insert x l).Perm (x :: l)
  | [] => .refl _
  | y :: r => by
    simp only [DataW.insert]
    split
    · exact .refl _
    · exact ((insert_perm x r).cons y).trans (.swap x y r)

theorem foldr_insert_perm {H : Type} : ∀ l : List (Lit × DataW H), (l.foldr DataW.insert []).Perm l
  | [] => .refl _
  | x :: l => (insert_perm x _).trans ((foldr_insert_perm l).cons x)

theorem rd_str {k : TypeId} (hk : P.underlying k = some .string) {e : MapEntry} {x : List UInt8} (he : e.key = encStr x) (hx : x.length ≤ maxLen) : WideElems.rd P k anyR e = some (.string x, .lit (.bool false)) := by
  unfold WideElems.rd
  have : keyOf P k e.key = some (.string x) := by
    rw [he]
    have := WideMaps.keyOf_string_mk (P := P) hk (s := ⟨x.toArray⟩) (by show x.toArray.size ≤ maxLen; simpa using hx)
    simpa [encStr] using this
  rw [this]
  rfl

theorem owns_map {k : TypeId} (hk : P.underlying k = some .string) {b : Nat} {ces : Array MapEntry} {clock : Nat} {xs : List (List UInt8)} (hh : w.heap[b]? = some (.map ces clock)) (hst : MapKept.Stamped ces clock)
    (hkeys : ces.toList.map (·.key) = xs.map encStr) (hlen : ∀ x ∈ xs, x.length ≤ maxLen) (hsz : ces.size ≤ maxLen) :
    ∃ D : DataW Unit, w.ownsMap P k anyR b ces.size D ∧ (strKeys D).Perm xs ∧ Maps.size D = ces.size := by
  have hall : ∀ (i : Nat) (e : MapEntry), ces.toList[i]? = some e → ∃ x, xs[i]? = some x ∧ e.key = encStr x ∧ x.length ≤ maxLen := fun i e hi => by
    have h1 : (ces.toList.map (·.key))[i]? = some e.key := by simp [hi]
    rw [hkeys, List.getElem?_map] at h1
    cases hx : xs[i]? with
    | none => simp [hx] at h1
    | some x =>
      simp only [hx, Option.map_some, Option.some.injEq] at h1
      exact ⟨x, rfl, h1.symm, hlen x (List.mem_of_getElem? hx)⟩
  refine ⟨_, ⟨ces, clock, hh, ⟨hsz, hst, fun e he => ?_⟩, Nat.le_refl _, rfl⟩, ?_, ?_⟩
  · obtain ⟨i, hi⟩ := List.mem_iff_getElem?.1 he
    obtain ⟨x, _, h2, h3⟩ := hall i e hi
    exact ⟨_, rd_str hk h2 h3⟩
  · have hmap : (ces.toList.map (WideElems.rg P k anyR)).map (fun p => strOf p.1) = xs := by
      apply List.ext_getElem?
      intro i
      cases hi : ces.toList[i]? with
      | none =>
        have : xs[i]? = none := by
          rw [List.getElem?_eq_none_iff] at hi ⊢
          have := congrArg List.length hkeys
          simp at this hi ⊢; omega
        simp [hi, this]
      | some e =>
        obtain ⟨x, h1, h2, h3⟩ := hall i e hi
        simp only [List.getElem?_map, hi, Option.map_some, h1, WideElems.rg, rd_str hk h2 h3, Option.getD_some, strOf]
    show ((List.foldr DataW.insert [] (ces.toList.map (WideElems.rg P k anyR))).map fun p => strOf p.1).Perm xs
    have := (foldr_insert_perm (ces.toList.map (WideElems.rg P k anyR))).map (fun p => strOf p.1)
    rw [hmap] at this
    exact this
  · show (List.foldr DataW.insert [] (ces.toList.map (WideElems.rg P k anyR))).length = ces.size
    rw [(foldr_insert_perm _).length_eq]
    simp

end
end Go.Abs
end
