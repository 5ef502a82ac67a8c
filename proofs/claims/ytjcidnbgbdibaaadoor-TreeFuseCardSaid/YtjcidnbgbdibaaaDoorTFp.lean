/- The law TreeFuse, as plain data. Conditions: none. -/
import Derived.Test.YtjcidnbgbdibaaaDoorTSv
namespace Go.Proofs.YtjcidnbgbdibaaaDoor.tre
open Go Go.Abs
set_option linter.unusedVariables false
set_option linter.unusedSimpArgs false

variable {ok : Pth → Bool}
/-- b is a with a fuse that has not blown. -/
def Fz (a b : TT) : Prop := ∃ (t : TT) (f : Int), t.off = false ∧ 0 ≤ f ∧ a = { t with fuse := -1 } ∧ b = { t with fuse := f }
theorem op_m {t : TT} (ht : t.off = false) (o : Bool) : opT { t with fuse := -1 } o = if o = true then (0, { t with fuse := -1 }) else (2, { t with fuse := -1 }) := by
  unfold opT
  cases o
  · simp
  · simp [ht]
theorem op_z {t : TT} (ht : t.off = false) : opT { t with fuse := 0 } true = (11, { t with off := true, fuse := -1 }) := by
  unfold opT
  simp [ht]
theorem op_p {t : TT} (ht : t.off = false) {f : Int} (hf : 0 < f) : opT { t with fuse := f } true = (0, { t with fuse := f - 1 }) := by
  unfold opT
  have : ¬ f = 0 := by omega
  simp [ht, hf, this]
theorem op_f (T : TT) : opT T false = (2, T) := by simp [opT]
def Fo2 (a : TT) (x y : Nat × TT) : Prop := (y.1 = 11 ∧ y.2 = { a with off := true, fuse := -1 }) ∨ (y.1 = x.1 ∧ y.1 ≠ 11 ∧ Fz x.2 y.2)
theorem fo_gen {t : TT} (ht : t.off = false) {f : Int} (hf : 0 ≤ f) (o : Bool) {X X0 : TT → Nat × TT} (hX : ∀ T, X T = if (opT T o).1 ≠ 0 then opT T o else X0 (opT T o).2) (h0 : ∃ (e : Nat) (t' : TT), t'.off = false ∧ e ≠ 11 ∧ ∀ g, X0 { t with fuse := g } = (e, { t' with fuse := g })) :
    Fo2 { t with fuse := -1 } (X { t with fuse := -1 }) (X { t with fuse := f }) := by
  obtain ⟨e, t', ht', he, h0⟩ := h0
  rw [hX, hX]
  cases o
  · rw [op_f, op_f]
    exact .inr ⟨rfl, (show (2 : Nat) ≠ 11 by decide), t, f, ht, hf, rfl, rfl⟩
  · rw [op_m ht]
    by_cases hz : f = 0
    · subst hz
      rw [op_z ht]
      exact .inl ⟨rfl, rfl⟩
    · rw [op_p ht (by omega)]
      simp only [if_true, ne_eq, not_true_eq_false, if_false, h0]
      exact .inr ⟨rfl, he, t', f - 1, ht', by omega, rfl, rfl⟩
theorem fo_make {a b : TT} (h : Fz a b) (o : Bool) (p : Pth) : Fo2 a (makeT a o p) (makeT b o p) := by
  obtain ⟨t, f, ht, hf, rfl, rfl⟩ := h
  refine fo_gen (X := fun T => makeT T o p) (X0 := fun T => match valS T.now p with | some _ => (7, T) | none => (0, noteT { T with clock := T.clock + 1, files := T.files ++ [⟨[], [], T.clock + 1⟩] } (.mk p T.files.length))) ht hf o (fun T => rfl) ?_
  cases hv : valS t.now p with
  | some i => exact ⟨7, t, ht, by decide, fun g => by simp only [hv]⟩
  | none => exact ⟨0, noteT { t with clock := t.clock + 1, files := t.files ++ [⟨[], [], t.clock + 1⟩] } (.mk p t.files.length), ht, by decide, fun g => by simp only [hv]; rfl⟩
theorem fo_put {a b : TT} (h : Fz a b) (o : Bool) (p : Pth) (g0 : List Nat → List Nat) : Fo2 a (putT a o p g0) (putT b o p g0) := by
  obtain ⟨t, f, ht, hf, rfl, rfl⟩ := h
  refine fo_gen (X := fun T => putT T o p g0) (X0 := fun T => match valS T.now p with
    | none => (6, T)
    | some i => if T.room < (T.used : Int) - (T.fil i).b.length + (g0 (T.fil i).b).length then (10, T) else (0, { T with clock := T.clock + 1, files := T.files.set i ⟨g0 (T.fil i).b, (T.fil i).s, T.clock + 1⟩ })) ht hf o (fun T => ?_) ?_
  · show putT T o p g0 = _
    unfold putT
    dsimp only
    rw [(opT_eq T o).1]
    rfl
  · cases hv : valS t.now p with
    | none => exact ⟨6, t, ht, by decide, fun g => by simp only [hv]⟩
    | some i =>
      by_cases hc : t.room < (t.used : Int) - (t.fil i).b.length + (g0 (t.fil i).b).length
      · refine ⟨10, t, ht, by decide, fun g => ?_⟩
        simp only [hv]
        exact if_pos hc
      · refine ⟨0, { t with clock := t.clock + 1, files := t.files.set i ⟨g0 (t.fil i).b, (t.fil i).s, t.clock + 1⟩ }, ht, by decide, fun g => ?_⟩
        simp only [hv]
        exact if_neg hc
theorem fo_sync {a b : TT} (h : Fz a b) (o : Bool) (p : Pth) : Fo2 a (syncT a o p) (syncT b o p) := by
  obtain ⟨t, f, ht, hf, rfl, rfl⟩ := h
  refine fo_gen (X := fun T => syncT T o p) (X0 := fun T => match valS T.now p with
    | none => (6, T)
    | some i => (0, { T with files := T.files.set i ⟨(T.fil i).b, (T.fil i).b, (T.fil i).st⟩ })) ht hf o (fun T => rfl) ?_
  cases hv : valS t.now p with
  | none => exact ⟨6, t, ht, by decide, fun g => by simp only [hv]⟩
  | some i => exact ⟨0, { t with files := t.files.set i ⟨(t.fil i).b, (t.fil i).b, (t.fil i).st⟩ }, ht, by decide, fun g => by simp only [hv]; rfl⟩
theorem fo_syncP {a b : TT} (h : Fz a b) : Fo2 a (syncPT a) (syncPT b) := by
  obtain ⟨t, f, ht, hf, rfl, rfl⟩ := h
  exact fo_gen (X := fun T => syncPT T) (X0 := fun T => (0, keepT T T.notes.length)) ht hf true (fun T => rfl) ⟨0, keepT t t.notes.length, ht, by decide, fun g => rfl⟩
theorem fo_ren {a b : TT} (h : Fz a b) (o : Bool) (p q : Pth) : Fo2 a (renT a o p q) (renT b o p q) := by
  obtain ⟨t, f, ht, hf, rfl, rfl⟩ := h
  refine fo_gen (X := fun T => renT T o p q) (X0 := fun T => match valS T.now p with
    | none => (6, T)
    | some _ => if p = q then (0, T) else (0, noteT (tickT T) (.ren p q))) ht hf o (fun T => rfl) ?_
  cases hv : valS t.now p with
  | none => exact ⟨6, t, ht, by decide, fun g => by simp only [hv]⟩
  | some i =>
    by_cases hc : p = q
    · refine ⟨0, t, ht, by decide, fun g => ?_⟩
      simp only [hv]
      exact if_pos hc
    · refine ⟨0, noteT (tickT t) (.ren p q), ht, by decide, fun g => ?_⟩
      simp only [hv]
      rw [if_neg hc]
      rfl
theorem fo_rm {a b : TT} (h : Fz a b) (o : Bool) (p : Pth) : Fo2 a (rmT a o p) (rmT b o p) := by
  obtain ⟨t, f, ht, hf, rfl, rfl⟩ := h
  refine fo_gen (X := fun T => rmT T o p) (X0 := fun T => match valS T.now p with
    | none => (6, T)
    | some _ => (0, noteT (tickT T) (.rm p))) ht hf o (fun T => rfl) ?_
  cases hv : valS t.now p with
  | none => exact ⟨6, t, ht, by decide, fun g => by simp only [hv]⟩
  | some i => exact ⟨0, noteT (tickT t) (.rm p), ht, by decide, fun g => by simp only [hv]; rfl⟩
/-- What a call of both gives. -/
def Fo (a : TT) (x y : (List Nat × Nat) × TT) : Prop := (y.1.2 = 11 ∧ y.2 = { a with off := true, fuse := -1 }) ∨ (y.1 = x.1 ∧ y.1.2 ≠ 11 ∧ Fz x.2 y.2)
theorem Fo2.fo {a : TT} {x y : Nat × TT} (h : Fo2 a x y) : Fo a (([], x.1), x.2) (([], y.1), y.2) := by
  rcases h with h | ⟨h1, h2, h3⟩
  · exact .inl h
  · exact .inr ⟨by show (([] : List Nat), y.1) = ([], x.1); rw [h1], h2, h3⟩
theorem fo_read {a b : TT} (h : Fz a b) (o : Bool) (p : Pth) : Fo a (((readT a o p).1, (readT a o p).2.1), (readT a o p).2.2) (((readT b o p).1, (readT b o p).2.1), (readT b o p).2.2) := by
  obtain ⟨t, f, ht, hf, rfl, rfl⟩ := h
  unfold readT
  dsimp only
  cases o
  · rw [op_f, op_f]
    exact .inr ⟨rfl, (show (2 : Nat) ≠ 11 by decide), t, f, ht, hf, rfl, rfl⟩
  · rw [op_m ht]
    by_cases hz : f = 0
    · subst hz
      rw [op_z ht]
      exact .inl ⟨rfl, rfl⟩
    · rw [op_p ht (by omega)]
      simp only [if_true, ne_eq, not_true_eq_false, if_false]
      cases hv : valS t.now p with
      | none => exact .inr ⟨rfl, (show (6 : Nat) ≠ 11 by decide), t, f - 1, ht, by omega, rfl, rfl⟩
      | some i => exact .inr ⟨rfl, (show (0 : Nat) ≠ 11 by decide), t, f - 1, ht, by omega, rfl, rfl⟩
theorem Fo.act {a b : TT} (h : Fz a b) (k : Nat) (h7 : k ≠ 7) (h8 : k ≠ 8) (p q : Pth) (l : List Nat) (n : Int) (ps : List Int) : Fo a (actT ok a k p q l n ps) (actT ok b k p q l n ps) := by
  unfold actT
  rw [if_neg h7, if_neg h8, if_neg h7, if_neg h8]
  by_cases c0 : k = 0
  · rw [if_pos c0, if_pos c0]; exact (fo_make h _ _).fo
  rw [if_neg c0, if_neg c0]
  by_cases c1 : k = 1
  · rw [if_pos c1, if_pos c1]; exact (fo_put h _ _ _).fo
  rw [if_neg c1, if_neg c1]
  by_cases c2 : k = 2
  · rw [if_pos c2, if_pos c2]; exact (fo_put h _ _ _).fo
  rw [if_neg c2, if_neg c2]
  by_cases c3 : k = 3
  · rw [if_pos c3, if_pos c3]; exact (fo_sync h _ _).fo
  rw [if_neg c3, if_neg c3]
  by_cases c4 : k = 4
  · rw [if_pos c4, if_pos c4]; exact (fo_syncP h).fo
  rw [if_neg c4, if_neg c4]
  by_cases c5 : k = 5
  · rw [if_pos c5, if_pos c5]; exact (fo_ren h _ _ _).fo
  rw [if_neg c5, if_neg c5]
  by_cases c6 : k = 6
  · rw [if_pos c6, if_pos c6]; exact (fo_rm h _ _).fo
  rw [if_neg c6, if_neg c6]
  exact fo_read h _ _
/-- A tree that is off answers so, and nothing is done. -/
theorem off_act {b : TT} (hb : b.off = true) (k : Nat) (h7 : k ≠ 7) (h8 : k ≠ 8) (p q : Pth) (l : List Nat) (n : Int) (ps : List Int) : ((actT ok b k p q l n ps).1.2 = 11 ∨ (actT ok b k p q l n ps).1.2 = 2) ∧ (actT ok b k p q l n ps).2 = b := by
  have ho : ∀ o, opT b o = if o = true then (11, b) else (2, b) := fun o => by
    unfold opT
    cases o <;> simp [hb]
  have key : ∀ (o : Bool), (opT b o).1 ≠ 0 ∧ ((opT b o).1 = 11 ∨ (opT b o).1 = 2) ∧ (opT b o).2 = b := fun o => by
    rw [ho]
    cases o <;> simp
  have hmk : ∀ o p, makeT b o p = opT b o := fun o p => by unfold makeT; exact if_pos (key o).1
  have hpt : ∀ o p g, putT b o p g = opT b o := fun o p g => by unfold putT; exact if_pos (key o).1
  have hsy : ∀ o p, syncT b o p = opT b o := fun o p => by unfold syncT; exact if_pos (key o).1
  have hsp : syncPT b = opT b true := by unfold syncPT; exact if_pos (key true).1
  have hre : ∀ o p q, renT b o p q = opT b o := fun o p q => by unfold renT; exact if_pos (key o).1
  have hrm : ∀ o p, rmT b o p = opT b o := fun o p => by unfold rmT; exact if_pos (key o).1
  have hrd : ∀ o p, readT b o p = ([], opT b o) := fun o p => by unfold readT; exact if_pos (key o).1
  unfold actT
  rw [if_neg h7, if_neg h8]
  simp only [hmk, hpt, hsy, hsp, hre, hrm, hrd]
  repeat' split
  all_goals exact ⟨(key _).2.1, (key _).2.2⟩
end Go.Proofs.YtjcidnbgbdibaaaDoor.tre
