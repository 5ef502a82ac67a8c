/- The abstract layer, part 20: operations that leave the heap; one operation. -/
import Derived.Test.YticccdaomgildaaGreatDoorAbs19
namespace Go.Abs
open Go
set_option linter.unusedVariables false
set_option linter.unusedSimpArgs false

section
variable {P : Program} {ρ : Pm} {w : World} {K : Kp} {h : AH}

theorem val?_spec {q : Option AV} {r : ORes} (hb : val? h q = some r) : ∃ v, q = some v ∧ r = .val v h := by
  cases q with
  | none => simp [val?] at hb
  | some v => simp only [val?, Option.some.injEq] at hb; exact ⟨v, rfl, hb.symm⟩

theorem val?_val {q : Option AV} {r : ORes} (hb : val? h q = some r) : ∃ v, r = .val v h :=
  let ⟨v, _, hv⟩ := val?_spec hb; ⟨v, hv⟩

theorem evConvert_read {src dst : TypeId} {x : AV} {r : ORes} (hc : (match P.underlying dst with | some (.int _) => 1 | some .string => 1 | _ => 3) ≤ 1) (hb : evConvert P h src dst x = some r) : ∃ v, r = .val v h := by
  unfold evConvert at hb
  split at hb
  · obtain ⟨v, _, hv⟩ := val?_spec hb; exact ⟨v, hv⟩
  · obtain ⟨v, _, hv⟩ := val?_spec hb; exact ⟨v, hv⟩
  · rename_i e s h1 h2
    rw [h2] at hc; simp at hc
  · rename_i e id off len sz c h1 h2
    rw [h2] at hc; simp at hc
  · rename_i x' _ _ _ e _ _ _
    split at hb
    · cases hl : lenA x' with
      | none => simp [hl] at hb
      | some n =>
        simp only [hl, Option.bind_eq_bind, Option.bind_some] at hb
        · cases h3 : firstA h 1 n x' with
          | none => simp [h3] at hb
          | some cs =>
            cases h4 : bytesA cs with
            | none => simp [h3, h4] at hb
            | some bs =>
              simp only [h3, h4, Option.bind_some, Option.some.injEq] at hb
              exact ⟨_, hb.symm⟩
    · simp at hb
  · simp at hb

theorem evCall_read {E : Operand → AV} {c : Call} {r : ORes} (hc : (match c.callee with | .builtin .len => 1 | .builtin .cap => 1 | .builtin .max => 1 | .builtin .min => 1 | _ => 3) ≤ 1) (hb : evCall P h E c = some r) : ∃ v, r = .val v h := by
  unfold evCall at hb
  simp only at hb
  cases hcal : c.callee with
  | builtin b =>
    rw [hcal] at hc hb
    cases b <;> simp at hc <;> simp only at hb <;> (first | exact val?_val hb | skip) <;> split at hb <;> first
      | exact val?_val hb
      | (simp at hb; done)
      | (rename_i hh _; cases hh; done)
      | (rename_i hh; cases hh; done)
  | invoke r n => rw [hcal] at hc; simp at hc
  | value f => rw [hcal] at hc; simp at hc

theorem evOper_read {E : Operand → AV} {o : Oper} {r : ORes} (hc : clsOf P o.op ≤ 1) (hb : evOper P E o h = some r) : ∃ v, r = .val v h := by
  obtain ⟨dst, op, ty, pos, after, guard⟩ := o
  unfold evOper at hb
  cases op <;> simp only [clsOf] at hc <;> (first | (exact absurd hc (by decide)) | skip) <;> simp only at hb
  case convert => exact evConvert_read hc hb
  case call => exact evCall_read hc hb
  all_goals
    first
      | exact val?_val hb
      | exact ⟨_, (Option.some.inj hb).symm⟩
      | (split at hb <;> first
          | exact val?_val hb
          | exact ⟨_, (Option.some.inj hb).symm⟩
          | (simp at hb; done)
          | (split at hb <;> first
              | exact val?_val hb
              | exact ⟨_, (Option.some.inj hb).symm⟩
              | (simp at hb; done)
              | (split at hb <;> first
                  | exact ⟨_, (Option.some.inj hb).symm⟩
                  | (simp at hb; done))))

theorem val?_move {q : Option AV} {v : AV} (h' : AH) (hb : val? h q = some (.val v h)) : val? h' q = some (.val v h') := by
  obtain ⟨u, h1, h2⟩ := val?_spec hb
  cases h2
  simp [val?, h1]

theorem binA_loc {t : TypeId} {k : IntKind} (hu : P.underlying t = some (.int k)) (h h' : AH) (op : BinOp) (x y : AV) : binA P h' op t x y = binA P h op t x y := by
  have he : ∀ a b, eqA P h' 12 t a b = eqA P h 12 t a b := fun a b => by
    show eqA P h' (11 + 1) t a b = eqA P h (11 + 1) t a b
    unfold eqA
    rw [hu]
    cases a <;> first | rfl | (cases b <;> rfl)
  unfold binA
  split <;> first
    | rfl
    | rw [he]
theorem evSlice_loc {t : TypeId} (hu : (∃ e, P.underlying t = some (.slice e)) ∨ P.underlying t = some .string) (h h' : AH) (x : AV) (a b c : Option AV) : evSlice P h' t x a b c = evSlice P h t x a b c := by
  unfold evSlice
  rcases hu with ⟨e, hu⟩ | hu <;> rw [hu] <;> cases x <;> rfl

theorem evOper_loc {E : Operand → AV} {o : Oper} {v : AV} (h' : AH) (hc : clsOf P o.op = 0) (hb : evOper P E o h = some (.val v h)) : evOper P E o h' = some (.val v h') := by
  obtain ⟨dst, op, ty, pos, after, guard⟩ := o
  unfold evOper at hb ⊢
  cases op <;> simp only [clsOf] at hc <;> (first | (exact absurd hc (by decide)) | skip) <;> simp only at hb ⊢
  case convert src d x => 
    exfalso; split at hc <;> cases hc
  case call c =>
    exfalso; split at hc <;> cases hc
  case binOp bop bt bx bz bu =>
    split at hc
    · rename_i k hk
      rw [binA_loc hk h h']
      exact val?_move h' hb
    · cases hc
  case slice st sx slo shi smx =>
    split at hc
    · rename_i e hk
      rw [evSlice_loc (.inl ⟨e, hk⟩) h h']
      exact val?_move h' hb
    · rename_i hk
      rw [evSlice_loc (.inr hk) h h']
      exact val?_move h' hb
    · cases hc
  all_goals
    first
      | exact val?_move h' hb
      | (cases hb; rfl)
      | (split at hb <;> first
          | exact val?_move h' hb
          | (cases hb; done)
              | (cases hb; simp_all; done)
          | (split at hb <;> first
              | exact val?_move h' hb
              | (cases hb; done)
              | (cases hb; simp_all; done)
              | (split at hb <;> first
                  | (cases hb; done)
                  | (cases hb; rfl)
                  | (cases hb; simp_all; done))))

theorem evOp1_read {R : Rec} {n : Nat} {ops : Array Oper} {o : Oper} {t t' : Env} {h' : AH} (hc : clsOf P o.op ≤ 1) (hb : evOp1 P R n ops o t h = some (t', h')) : h' = h := by
  unfold evOp1 at hb
  split at hb
  · cases hr : evOper P (opnd t) o h with
    | none => simp [hr] at hb
    | some r =>
      obtain ⟨v, rfl⟩ := evOper_read hc hr
      simp only [hr] at hb
      cases hp : putA n t o.dst v with
      | none => simp [hp] at hb
      | some t2 => simp only [hp, Option.map_some, Option.some.injEq, Prod.mk.injEq] at hb; exact hb.2.symm
  · cases hp : putA n t o.dst (.tup []) with
    | none => simp [hp] at hb
    | some t2 => simp only [hp, Option.map_some, Option.some.injEq, Prod.mk.injEq] at hb; exact hb.2.symm
  · simp at hb

theorem evOp1_loc {R : Rec} {n : Nat} {ops : Array Oper} {o : Oper} {t t' : Env} {h1 : AH} (h' : AH) (hc : clsOf P o.op = 0) (hb : evOp1 P R n ops o t h = some (t', h1)) : evOp1 P R n ops o t h' = some (t', h') := by
  unfold evOp1 at hb ⊢
  split at hb
  · rename_i hw
    cases hr : evOper P (opnd t) o h with
    | none => simp [hr] at hb
    | some r =>
      obtain ⟨v, rfl⟩ := evOper_read (by omega) hr
      rw [evOper_loc h' hc hr]
      simp only [hr] at hb
      cases hp : putA n t o.dst v with
      | none => simp [hp] at hb
      | some t2 => simp only [hp, Option.map_some, Option.some.injEq, Prod.mk.injEq] at hb; simp [hp, hb.1]
  · rename_i hw
    cases hp : putA n t o.dst (.tup []) with
    | none => simp [hp] at hb
    | some t2 => simp only [hp, Option.map_some, Option.some.injEq, Prod.mk.injEq] at hb; simp [hp, hb.1]
  · simp at hb

/-- One operation. -/
theorem evOp1_wp {R : Rec} {k : Nat} (hRec : RecOK P k R) (hR : Rel K ρ h w) {n i : Nat} {cr : Option Nat} {ops : Array Oper} {o : Oper} {t t' : Env} {h' : AH} {a : Act} (he : ER ρ t n a.tmps) (ho : ops[i]? = some o)
    (hb : evOp1 P R n ops o t h = some (t', h')) {next : Act → World → Prop} {Q : Exit → Act → World → Prop}
    (hk : ∀ ρ' cv v w', Ext h.nx ρ h'.nx ρ' → VR ρ' v cv → Rel K ρ' h' w' → putA n t o.dst v = some t' → next (a.put o.dst cv) w') : wpOpIn (Wd cr) 0 P ops Q i next a w := by
  unfold wpOpIn
  simp only [ho]
  unfold evOp1 at hb
  split at hb
  · rename_i hw
    rw [if_pos (wantedA_sound he hw)]
    split at hb
    · rename_i v hv' hb1
      cases hp : putA n t o.dst v with
      | none => simp [hp] at hb
      | some t2 =>
        simp only [hp, Option.map_some, Option.some.injEq, Prod.mk.injEq] at hb
        obtain ⟨rfl, rfl⟩ := hb
        exact evOp_wp (n := n) hRec hR (opnd_sound he) hb1 (fun v h' hr ρ' cv w' hle hv hrel => by cases hr; exact hk ρ' cv _ w' hle hv hrel hp) (fun _ hr => by cases hr) (fun _ _ hr => by cases hr) (fun _ _ hr => by cases hr)
    · rename_i hv' hb1
      cases hp : putA n t o.dst (.tup []) with
      | none => simp [hp] at hb
      | some t2 =>
        simp only [hp, Option.map_some, Option.some.injEq, Prod.mk.injEq] at hb
        obtain ⟨rfl, rfl⟩ := hb
        exact evOp_wp (n := n) hRec hR (opnd_sound he) hb1 (fun _ _ hr => by cases hr) (fun h' hr w' hnx hrel => by cases hr; exact hk ρ undef _ w' ⟨Pm.le_refl _, hnx, fun _ _ => rfl⟩ undef_VR hrel hp) (fun _ _ hr => by cases hr) (fun _ _ hr => by cases hr)
    · rename_i f args hb1
      split at hb
      · rename_i v hv' hc
        cases hp : putA n t o.dst v with
        | none => simp [hp] at hb
        | some t2 =>
          simp only [hp, Option.map_some, Option.some.injEq, Prod.mk.injEq] at hb
          obtain ⟨rfl, rfl⟩ := hb
          exact evOp_wp (n := n) hRec hR (opnd_sound he) hb1 (fun _ _ hr => by cases hr) (fun _ hr => by cases hr) (fun f' args' hr => by cases hr; exact ⟨v, _, hc, fun ρ' cv w' hle hv hrel => hk ρ' cv _ w' hle hv hrel hp⟩) (fun _ _ hr => by cases hr)
      · simp at hb
    · rename_i id args hb1
      split at hb
      · rename_i v hv' hc
        cases hp : putA n t o.dst v with
        | none => simp [hp] at hb
        | some t2 =>
          simp only [hp, Option.map_some, Option.some.injEq, Prod.mk.injEq] at hb
          obtain ⟨rfl, rfl⟩ := hb
          exact evOp_wp (n := n) hRec hR (opnd_sound he) hb1 (fun _ _ hr => by cases hr) (fun _ hr => by cases hr) (fun _ _ hr => by cases hr) (fun f' args' hr => by cases hr; exact ⟨v, _, hc, fun ρ' cv w' hle hv hrel => hk ρ' cv _ w' hle hv hrel hp⟩)
      · simp at hb
    · simp at hb
  · rename_i hw
    rw [if_neg (by rw [wantedA_sound he hw]; simp)]
    cases hp : putA n t o.dst (.tup []) with
    | none => simp [hp] at hb
    | some t2 =>
      simp only [hp, Option.map_some, Option.some.injEq, Prod.mk.injEq] at hb
      obtain ⟨rfl, rfl⟩ := hb
      exact ⟨fun _ _ => trivial, hk ρ undef _ w (Ext.refl _ _) undef_VR hR hp⟩
  · simp at hb

end
end Go.Abs
