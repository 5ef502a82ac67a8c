/- The abstract layer, part 15: what is to be shown of code; operations one after the other. -/
import Derived.Test.YticccdaomgildaaGreatDoorAbs14
import Derived.LoopNIn
import Derived.OrdersIn
namespace Go.Abs
open Go
set_option linter.unusedVariables false
set_option linter.unusedSimpArgs false

/-- No fence, but for the round. -/
def Wd (r : Option Nat) : Fence := { fn := fun _ => True, depth := none, alive := false, round := r }
theorem Wd_none : Wd none = Fence.wide := rfl

section
variable {P : Program} {ρ : Pm} {w : World} {K : Kp} {h : AH}

/-- The abstract name of a round's loop, and its number. -/
def RR (ρ : Pm) : Option Nat → Option Nat → Prop
  | none, none => True
  | some l, some c => ∃ p, ρ l = some p ∧ p.b = c
  | _, _ => False
theorem RR.mono {ρ ρ' : Pm} (hle : ρ.le ρ') : ∀ {r c : Option Nat}, RR ρ r c → RR ρ' r c
  | none, none, _ => trivial
  | some _, some _, ⟨p, hp, e⟩ => ⟨p, hle _ _ hp, e⟩
  | none, some _, hh => hh.elim
  | some _, none, hh => hh.elim

/-- The marks among the deferred calls. -/
def DR (ρ : Pm) : List Nat → List Deferred → Prop
  | [], [] => True
  | d :: l, x :: m => (∃ p, ρ d = some p ∧ x = { target := .collected p.b, args := #[] }) ∧ DR ρ l m
  | _, _ => False
theorem DR.mono {ρ ρ' : Pm} (hle : ρ.le ρ') : ∀ {l : List Nat} {m : List Deferred}, DR ρ l m → DR ρ' l m
  | [], [], _ => trivial
  | _ :: _, _ :: _, ⟨⟨p, hp, e⟩, t⟩ => ⟨⟨p, hle _ _ hp, e⟩, DR.mono hle t⟩
  | [], _ :: _, hh => hh.elim
  | _ :: _, [], hh => hh.elim

def ExR : Ex → Exit → Prop
  | .normal, .normal => True
  | .exit i, .exit j => i = j
  | .ret, .ret => True
  | _, _ => False

/-- What a call has done. -/
def CallPost (K : Kp) (h : AH) (ρ : Pm) (v : AV) (h' : AH) (cv : Value) (w' : World) : Prop := ∃ ρ', Ext h.nx ρ h'.nx ρ' ∧ VR ρ' v cv ∧ Rel K ρ' h' w'

/-- A call goes through: a Go function is entered, or the model answers by itself. -/
def CallRes (P : Program) (f : FuncId) (cargs : Array Value) (w : World) (Q : Value → World → Prop) : Prop :=
  ∃ n w1, (callFunc f cargs).run P w = .ok n w1 ∧
    match n with
    | .enter g a => CallsIn Fence.wide 0 P g a w1 fun e w2 => ∃ cv, e = .returned cv ∧ Q cv w2
    | .value cv => Q cv w1
    | _ => False

def RoundRes (P : Program) (l : Nat) (cargs : Array Value) (w : World) (Q : Value → World → Prop) : Prop :=
  ∃ f tmps assign body w1, (Instr.yield l cargs).run P w = .ok (.round l f tmps assign body) w1 ∧ RoundIn Fence.wide 0 P l f tmps assign body w1 fun e w2 => ∃ cv, e = .returned cv ∧ Q cv w2

/-- What code has done. -/
def CodePost (K : Kp) (x : Nat) (ρ : Pm) (n : Nat) (ex : Ex) (s' : St) (e : Exit) (a' : Act) (w' : World) : Prop :=
  ∃ ρ', Ext x ρ s'.h.nx ρ' ∧ ExR ex e ∧ Rel K ρ' s'.h w' ∧ ER ρ' s'.t n a'.tmps ∧ DR ρ' s'.d a'.defers

structure RecOK (P : Program) (k : Nat) (R : Rec) : Prop where
  call : ∀ (K : Kp) (ρ : Pm) (h : AH) (w : World) (f : FuncId) (args : List AV) (cargs : Array Value) (v : AV) (h' : AH), Rel K ρ h w → VRs ρ args cargs.toList → R.call f args h = some (v, h') →
    CallRes P f cargs w (CallPost K h ρ v h')
  round : ∀ (K : Kp) (ρ : Pm) (h : AH) (w : World) (id : Nat) (p : Pl) (args : List AV) (cargs : Array Value) (v : AV) (h' : AH), ρ id = some p → Rel K ρ h w → VRs ρ args cargs.toList → R.round id args h = some (v, h') →
    RoundRes P p.b cargs w (CallPost K h ρ v h')
  loop : ∀ (K : Kp) (ρ : Pm) (w : World) (a : Act) (r cr : Option Nat) (fn n : Nat) (c : Code) (s s' : St) (ex : Ex), RR ρ r cr → Rel K ρ s.h w → ER ρ s.t n a.tmps → DR ρ s.d a.defers → R.loop r fn n c s = some (ex, s') →
    Code.roundsIn (Wd cr) 0 P c (CodePost K s.h.nx ρ n ex s') k a w

theorem putA_sound {n : Nat} {t t' : Env} {dst : Option Tmp} {v : AV} {cv : Value} {a : Act} (he : ER ρ t n a.tmps) (hv : VR ρ v cv) (hp : putA n t dst v = some t') : ER ρ t' n (a.put dst cv).tmps ∧ (a.put dst cv).defers = a.defers := by
  unfold putA at hp
  split at hp
  · simp only [Option.some.injEq] at hp; subst hp; exact ⟨he, rfl⟩
  · split at hp
    · rename_i d hd
      simp only [Option.some.injEq] at hp; subst hp
      exact ⟨he.set hd hv, rfl⟩
    · simp at hp

theorem wantedA_sound {ops : Array Oper} {t : Env} {n : Nat} {o : Oper} {tmps : Array Value} {b : Bool} (he : ER ρ t n tmps) (hw : wantedA ops t o = some b) : Region.wanted o (yielded ops tmps) = b := by
  unfold wantedA at hw
  unfold Region.wanted
  split at hw
  · rename_i hg
    simp only [Option.some.injEq] at hw
    rw [hg, hw]
  · rename_i j want hg
    simp only [hg]
    unfold yielded
    cases hd : (ops[j]?).bind (·.dst) with
    | none => simp only [hd, Option.some.injEq] at hw; subst hw; simp
    | some d =>
      simp only [hd] at hw
      cases hg' : t.get d with
      | none => simp [hg'] at hw
      | some v =>
        obtain ⟨u, hu, r⟩ := he.2 d v hg'
        simp only [Option.bind_some, hu]
        cases r <;> simp only [hg', Option.some.injEq, reduceCtorEq] at hw <;> subst hw <;> simp

theorem evOper_noDefer {E : Operand → AV} {o : Oper} {r : ORes} (hb : evOper P E o h = some r) : ∀ c, o.op ≠ .defer c := by
  intro c hc
  unfold evOper at hb
  rw [hc] at hb
  simp at hb

/-- One operation that is wanted. -/
theorem evOp_wp {R : Rec} {k : Nat} (hRec : RecOK P k R) (hR : Rel K ρ h w) {n : Nat} {cr : Option Nat} {E : Operand → AV} {o : Oper} {a : Act} (hE : ∀ x, VR ρ (E x) (a.eval x)) {r : ORes} (hb : evOper P E o h = some r)
    {next : Act → World → Prop} {Q : Exit → Act → World → Prop}
    (hval : ∀ v h', r = .val v h' → ∀ ρ' cv w', Ext h.nx ρ h'.nx ρ' → VR ρ' v cv → Rel K ρ' h' w' → next (a.put o.dst cv) w')
    (hskip : ∀ h', r = .skip h' → ∀ w', h.nx ≤ h'.nx → Rel K ρ h' w' → next (a.put o.dst undef) w')
    (hcall : ∀ f args, r = .call f args → ∃ v h', R.call f args h = some (v, h') ∧ ∀ ρ' cv w', Ext h.nx ρ h'.nx ρ' → VR ρ' v cv → Rel K ρ' h' w' → next (a.put o.dst cv) w')
    (hyield : ∀ id args, r = .yield id args → ∃ v h', R.round id args h = some (v, h') ∧ ∀ ρ' cv w', Ext h.nx ρ h'.nx ρ' → VR ρ' v cv → Rel K ρ' h' w' → next (a.put o.dst cv) w') :
    o.wpIn (Wd cr) 0 P a w next Q := by
  refine ⟨fun _ _ => trivial, ?_⟩
  rw [Oper.semAt_eq _ _ _ (evOper_noDefer hb)]
  have hpost := evOper_sound hR hE hb
  cases r with
  | val v h' =>
    obtain ⟨ρ', cv, w', hrun, hle, hv, hr⟩ := hpost
    rw [hrun]
    exact hval v h' rfl ρ' cv w' hle hv hr
  | skip h' =>
    obtain ⟨w', hrun, hnx, hr⟩ := hpost
    rw [hrun]
    exact hskip h' rfl w' hnx hr
  | call f args =>
    obtain ⟨cargs, hrun, hargs⟩ := hpost
    obtain ⟨v, h', hc, hk⟩ := hcall f args rfl
    obtain ⟨nx, w1, hcr, hm⟩ := hRec.call K ρ h w f args cargs v h' hR hargs hc
    rw [hrun, hcr]
    cases nx <;> simp only at hm
    · obtain ⟨ρ', hle, hv, hr⟩ := hm
      exact hk ρ' _ _ hle hv hr
    · refine ⟨(fun hd => by cases hd), CallsIn.mono (R := fun e w2 => ∃ cv, e = .returned cv ∧ CallPost K h ρ v h' cv w2) (by exact hm) fun e w2 he => ?_⟩
      obtain ⟨cv, rfl, ρ', hle, hv, hr⟩ := he
      exact hk ρ' cv w2 hle hv hr
  | yield id args =>
    obtain ⟨p, cargs, hp, hrun, hargs⟩ := hpost
    obtain ⟨v, h', hc, hk⟩ := hyield id args rfl
    obtain ⟨f, tmps, assign, body, w1, hy, hro⟩ := hRec.round K ρ h w id p args cargs v h' hp hR hargs hc
    rw [hrun, hy]
    refine ⟨(fun hd => by cases hd), RoundIn.mono (R := fun e w2 => ∃ cv, e = .returned cv ∧ CallPost K h ρ v h' cv w2) (by exact hro) fun e w2 he => ?_⟩
    obtain ⟨cv, rfl, ρ', hle, hv, hr⟩ := he
    exact hk ρ' cv w2 hle hv hr

theorem undef_VR : VR ρ (.tup []) undef := .tup .nil

/-- Operations in the order of the text. -/
theorem evOps_wp {R : Rec} {k : Nat} (hRec : RecOK P k R) {n : Nat} {cr : Option Nat} {ops : Array Oper} {t' : Env} {h' : AH} {Q : Exit → Act → World → Prop} :
    ∀ (l : List Oper) (i : Nat) (ρ : Pm) (t : Env) (h : AH) (a : Act) (w : World), (∀ j, l[j]? = ops[i + j]?) → Rel K ρ h w → ER ρ t n a.tmps → evOps P R n ops l t h = some (t', h') →
      (∀ ρ' a' w', Ext h.nx ρ h'.nx ρ' → Rel K ρ' h' w' → ER ρ' t' n a'.tmps → a'.defers = a.defers → Q .normal a' w') →
      wpOpsIn (Wd cr) 0 P ops Q ((List.range' i l.length)) a w
  | [], i, ρ, t, h, a, w, hl, hR, he, hb, hQ => by
    simp only [evOps, Option.some.injEq, Prod.mk.injEq] at hb
    obtain ⟨rfl, rfl⟩ := hb
    exact hQ ρ a w (Ext.refl _ _) hR he rfl
  | o :: l, i, ρ, t, h, a, w, hl, hR, he, hb, hQ => by
    have ho : ops[i]? = some o := by have := hl 0; simpa using this.symm
    have hl' : ∀ j, l[j]? = ops[i + 1 + j]? := fun j => by have := hl (j + 1); rw [show i + 1 + j = i + (j + 1) by omega]; simpa using this
    simp only [evOps] at hb
    cases h1 : evOp1 P R n ops o t h with
    | none => simp [h1] at hb
    | some th =>
      obtain ⟨t1, h1'⟩ := th
      simp only [h1] at hb
      simp only [List.length_cons, List.range'_succ, wpOpsIn, ho]
      unfold evOp1 at h1
      -- what follows
      have follow : ∀ ρ' cv w' v, Ext h.nx ρ h1'.nx ρ' → VR ρ' v cv → Rel K ρ' h1' w' → putA n t o.dst v = some t1 → wpOpsIn (Wd cr) 0 P ops Q (List.range' (i + 1) l.length) (a.put o.dst cv) w' := by
        intro ρ' cv w' v hle hv hr hp
        obtain ⟨e1, e2⟩ := putA_sound (he.mono hle.le) hv hp
        exact evOps_wp hRec l (i + 1) ρ' t1 h1' _ w' hl' hr e1 hb fun ρ'' a' w'' hle' hr' he' hd' => hQ ρ'' a' w'' (hle.trans hle') hr' he' (hd'.trans e2)
      split at h1
      · rename_i hw
        rw [if_pos (wantedA_sound he hw)]
        split at h1
        · rename_i v hv' hb1
          cases hp : putA n t o.dst v with
          | none => simp [hp] at h1
          | some t2 =>
            simp only [hp, Option.map_some, Option.some.injEq, Prod.mk.injEq] at h1
            obtain ⟨rfl, rfl⟩ := h1
            exact evOp_wp (n := n) hRec hR (opnd_sound he) hb1 (fun v h' hr ρ' cv w' hle hv hrel => by cases hr; exact follow ρ' cv w' _ hle hv hrel hp) (fun _ hr => by cases hr) (fun _ _ hr => by cases hr) (fun _ _ hr => by cases hr)
        · rename_i hv' hb1
          cases hp : putA n t o.dst (.tup []) with
          | none => simp [hp] at h1
          | some t2 =>
            simp only [hp, Option.map_some, Option.some.injEq, Prod.mk.injEq] at h1
            obtain ⟨rfl, rfl⟩ := h1
            exact evOp_wp (n := n) hRec hR (opnd_sound he) hb1 (fun _ _ hr => by cases hr) (fun h' hr w' hnx hrel => by cases hr; exact follow ρ undef w' _ ⟨Pm.le_refl _, hnx, fun _ _ => rfl⟩ undef_VR hrel hp) (fun _ _ hr => by cases hr) (fun _ _ hr => by cases hr)
        · rename_i f args hb1
          split at h1
          · rename_i v hv' hc
            cases hp : putA n t o.dst v with
            | none => simp [hp] at h1
            | some t2 =>
              simp only [hp, Option.map_some, Option.some.injEq, Prod.mk.injEq] at h1
              obtain ⟨rfl, rfl⟩ := h1
              exact evOp_wp (n := n) hRec hR (opnd_sound he) hb1 (fun _ _ hr => by cases hr) (fun _ hr => by cases hr) (fun f' args' hr => by cases hr; exact ⟨v, _, hc, fun ρ' cv w' hle hv hrel => follow ρ' cv w' _ hle hv hrel hp⟩) (fun _ _ hr => by cases hr)
          · simp at h1
        · rename_i id args hb1
          split at h1
          · rename_i v hv' hc
            cases hp : putA n t o.dst v with
            | none => simp [hp] at h1
            | some t2 =>
              simp only [hp, Option.map_some, Option.some.injEq, Prod.mk.injEq] at h1
              obtain ⟨rfl, rfl⟩ := h1
              exact evOp_wp (n := n) hRec hR (opnd_sound he) hb1 (fun _ _ hr => by cases hr) (fun _ hr => by cases hr) (fun _ _ hr => by cases hr) (fun f' args' hr => by cases hr; exact ⟨v, _, hc, fun ρ' cv w' hle hv hrel => follow ρ' cv w' _ hle hv hrel hp⟩)
          · simp at h1
        · simp at h1
      · rename_i hw
        rw [if_neg (by rw [wantedA_sound he hw]; simp)]
        cases hp : putA n t o.dst (.tup []) with
        | none => simp [hp] at h1
        | some t2 =>
          simp only [hp, Option.map_some, Option.some.injEq, Prod.mk.injEq] at h1
          obtain ⟨rfl, rfl⟩ := h1
          exact ⟨fun _ _ => trivial, follow ρ undef w _ (Ext.refl _ _) undef_VR hR hp⟩
      · simp at h1

end
end Go.Abs
