/- The law TreeStamps, as plain data: the stamp of a file changes whenever its bytes do. Conditions: none. -/
import Derived.Test.YtjcidnbgbdibaaaDoorTCj
namespace Go.Proofs.YtjcidnbgbdibaaaDoor.tre
open Go Go.Abs
set_option linter.unusedVariables false
set_option linter.unusedSimpArgs false

def actT (ok : Pth → Bool) (T : TT) (k : Nat) (p q : Pth) (l : List Nat) (n : Int) (ps : List Int) : (List Nat × Nat) × TT :=
  if k = 0 then (([], (makeT T (ok p) p).1), (makeT T (ok p) p).2)
  else if k = 1 then (([], (putT T (ok p) p fun _ => l).1), (putT T (ok p) p fun _ => l).2)
  else if k = 2 then (([], (putT T (ok p) p fun o => o ++ l).1), (putT T (ok p) p fun o => o ++ l).2)
  else if k = 3 then (([], (syncT T (ok p) p).1), (syncT T (ok p) p).2)
  else if k = 4 then (([], (syncPT T).1), (syncPT T).2)
  else if k = 5 then (([], (renT T (ok p && ok q) p q).1), (renT T (ok p && ok q) p q).2)
  else if k = 6 then (([], (rmT T (ok p) p).1), (rmT T (ok p) p).2)
  else if k = 7 then (([], 0), { T with fuse := max (-1) n })
  else if k = 8 then (([], 0), crashT T n ps)
  else (((readT T (ok p) p).1, (readT T (ok p) p).2.1), (readT T (ok p) p).2.2)
def okN (ok : Pth → Bool) : Nte → Prop
  | .mk p _ => ok p = true
  | .ren _ b => ok b = true
  | .rm _ => True
def okE (ok : Pth → Bool) (E : Ixs) : Prop := ∀ k i, valS E k = some i → ok k = true
structure Stm (ok : Pth → Bool) (T : TT) : Prop where
  off : T.off = false
  fuse : T.fuse = -1
  st : ∀ k i, valS T.now k = some i → (T.fil i).st ≤ T.clock
  uq : ∀ k1 i1 k2 i2, valS T.now k1 = some i1 → valS T.now k2 = some i2 → (T.fil i1).st = (T.fil i2).st → (T.fil i1).b = (T.fil i2).b
  okn : okE ok T.now
  oks : okE ok T.safe
  okt : ∀ t ∈ T.notes, okN ok t
def Keeps (T T' : TT) : Prop := ∀ p i i', valS T.now p = some i → valS T'.now p = some i' → (T.fil i).st = (T'.fil i').st → (T.fil i).b = (T'.fil i').b
theorem opT_on {ok : Pth → Bool} {T : TT} (h : Stm ok T) (b : Bool) : opT T b = if b = true then (0, T) else (2, T) := by
  unfold opT
  cases b
  · simp
  · have h1 := h.fuse
    simp [h.off, h1]
variable {ok : Pth → Bool}
theorem okE.upd {E : Ixs} (h : okE ok E) {p : Pth} (hp : ok p = true) (i : Nat) : okE ok (updS E p i) := fun k j hk => by
  rw [valS_upd] at hk
  split at hk
  · rename_i hh; rw [hh]; exact hp
  · exact h k j hk
theorem okE.del {E : Ixs} (ho : onceS E) (h : okE ok E) (p : Pth) : okE ok (delS E p) := fun k j hk => by
  rw [valS_del _ ho] at hk
  split at hk
  · cases hk
  · exact h k j hk
theorem okE.doN {n : Nat} {E : Ixs} (hE : IxOK n E) (h : okE ok E) : ∀ {t : Nte}, okN ok t → okE ok (doN t E)
  | .mk p i, ht => h.upd ht i
  | .ren a b, ht => by
    show okE ok (match valS E a with | some i => delS (updS E b i) a | none => E)
    cases hv : valS E a with
    | none => exact h
    | some i => exact (h.upd ht i).del (onceS_upd _ _ _ hE.1) a
  | .rm p, _ => h.del hE.1 p
theorem okE.doAll {n : Nat} : ∀ {l : List Nte} {E : Ixs}, IxOK n E → okE ok E → (∀ t ∈ l, NteOK n t) → (∀ t ∈ l, okN ok t) → okE ok (doAll l E)
  | [], _, _, h, _, _ => h
  | t :: r, E, hE, h, h1, h2 => okE.doAll (l := r) (hE.doN (h1 t (List.mem_cons_self ..))) (h.doN hE (h2 t (List.mem_cons_self ..))) (fun x hx => h1 x (List.mem_cons_of_mem _ hx)) fun x hx => h2 x (List.mem_cons_of_mem _ hx)
theorem keeps_refl {T T' : TT} (e1 : T'.now = T.now) (e2 : ∀ i, (T'.fil i).b = (T.fil i).b) : Keeps T T' := fun p i i' h1 h2 h3 => by
  rw [e1, h1] at h2
  cases h2
  exact (e2 i).symm
theorem Stm.make {T : TT} (h : Stm ok T) (w : Wf T) (p : Pth) : Stm ok (makeT T (ok p) p).2 ∧ Keeps T (makeT T (ok p) p).2 := by
  unfold makeT
  dsimp only
  rw [opT_on h]
  cases hp : ok p
  · exact ⟨h, keeps_refl rfl fun _ => rfl⟩
  · simp only [if_true]
    cases hv : valS T.now p with
    | some i => exact ⟨h, keeps_refl rfl fun _ => rfl⟩
    | none =>
      simp only [ne_eq, not_true_eq_false, if_false]
      have hf : ∀ i, i < T.files.length → (noteT { T with clock := T.clock + 1, files := T.files ++ [⟨[], [], T.clock + 1⟩] } (.mk p T.files.length)).fil i = T.fil i := fun i hi => by
        rw [fil_add (T := T) rfl, if_neg (by omega)]
      have hn : (noteT { T with clock := T.clock + 1, files := T.files ++ [⟨[], [], T.clock + 1⟩] } (.mk p T.files.length)).fil T.files.length = ⟨[], [], T.clock + 1⟩ := by
        rw [fil_add (T := T) rfl, if_pos rfl]
      have hv2 : ∀ k i, valS (updS T.now p T.files.length) k = some i → (k = p ∧ i = T.files.length) ∨ (valS T.now k = some i ∧ i < T.files.length) := fun k i hk => by
        rw [valS_upd] at hk
        split at hk
        · rename_i hh; cases hk; exact .inl ⟨hh, rfl⟩
        · exact .inr ⟨hk, (w.now.2 k i hk).1⟩
      refine ⟨⟨h.off, h.fuse, fun k i hk => ?_, fun k1 i1 k2 i2 h1 h2 he => ?_, h.okn.upd hp _, h.oks, fun t ht => ?_⟩, fun q i i' h1 h2 he => ?_⟩
      · rcases hv2 k i hk with ⟨_, rfl⟩ | ⟨h1, h2⟩
        · rw [hn]; exact Nat.le_refl _
        · rw [hf i h2]; exact Nat.le_succ_of_le (h.st k i h1)
      · rcases hv2 k1 i1 h1 with ⟨_, rfl⟩ | ⟨a1, b1⟩ <;> rcases hv2 k2 i2 h2 with ⟨_, rfl⟩ | ⟨a2, b2⟩
        · rfl
        · rw [hn, hf i2 b2] at he
          have := h.st k2 i2 a2
          simp only at he; omega
        · rw [hn, hf i1 b1] at he
          have := h.st k1 i1 a1
          simp only at he; omega
        · rw [hf i1 b1, hf i2 b2] at he ⊢
          exact h.uq k1 i1 k2 i2 a1 a2 he
      · rcases List.mem_append.1 ht with h1 | h1
        · exact h.okt t h1
        · rw [List.mem_singleton.1 h1]; exact hp
      · rcases hv2 q i' h2 with ⟨rfl, rfl⟩ | ⟨a2, b2⟩
        · rw [hv] at h1; cases h1
        · rw [h1] at a2
          cases a2
          rw [hf i b2]
theorem Stm.put {T : TT} (h : Stm ok T) (w : Wf T) (p : Pth) (g : List Nat → List Nat) : Stm ok (putT T (ok p) p g).2 ∧ Keeps T (putT T (ok p) p g).2 := by
  unfold putT
  dsimp only
  rw [opT_on h]
  cases hp : ok p
  · exact ⟨h, keeps_refl rfl fun _ => rfl⟩
  · simp only [if_true]
    cases hv : valS T.now p with
    | none => exact ⟨h, keeps_refl rfl fun _ => rfl⟩
    | some x =>
      simp only [ne_eq, not_true_eq_false, if_false]
      split
      · exact ⟨h, keeps_refl rfl fun _ => rfl⟩
      · have hx := (w.now.2 p x hv).1
        have hf : ∀ i, ({ T with clock := T.clock + 1, files := T.files.set x ⟨g (T.fil x).b, (T.fil x).s, T.clock + 1⟩ } : TT).fil i = if i = x then ⟨g (T.fil x).b, (T.fil x).s, T.clock + 1⟩ else T.fil i := fun i => fil_set rfl hx
        refine ⟨⟨h.off, h.fuse, fun k i hk => ?_, fun k1 i1 k2 i2 h1 h2 he => ?_, h.okn, h.oks, h.okt⟩, fun q i i' h1 h2 he => ?_⟩
        · rw [hf]
          split
          · exact Nat.le_refl _
          · exact Nat.le_succ_of_le (h.st k i hk)
        · rw [hf, hf] at he
          rw [hf, hf]
          by_cases c1 : i1 = x <;> by_cases c2 : i2 = x
          · rw [if_pos c1, if_pos c2]
          · rw [if_pos c1, if_neg c2] at he
            have := h.st k2 i2 h2
            simp only at he; omega
          · rw [if_neg c1, if_pos c2] at he
            have := h.st k1 i1 h1
            simp only at he; omega
          · rw [if_neg c1, if_neg c2] at he ⊢
            exact h.uq k1 i1 k2 i2 h1 h2 he
        · have h2' : valS T.now q = some i' := h2
          rw [h1] at h2'
          cases h2'
          rw [hf] at he ⊢
          by_cases c1 : i = x
          · rw [if_pos c1] at he
            have := h.st q i h1
            simp only at he; omega
          · rw [if_neg c1]
theorem Stm.sync {T : TT} (h : Stm ok T) (w : Wf T) (p : Pth) : Stm ok (syncT T (ok p) p).2 ∧ Keeps T (syncT T (ok p) p).2 := by
  unfold syncT
  dsimp only
  rw [opT_on h]
  cases hp : ok p
  · exact ⟨h, keeps_refl rfl fun _ => rfl⟩
  · simp only [if_true]
    cases hv : valS T.now p with
    | none => exact ⟨h, keeps_refl rfl fun _ => rfl⟩
    | some x =>
      simp only [ne_eq, not_true_eq_false, if_false]
      have hx := (w.now.2 p x hv).1
      have hf : ∀ i, (({ T with files := T.files.set x ⟨(T.fil x).b, (T.fil x).b, (T.fil x).st⟩ } : TT).fil i).b = (T.fil i).b ∧ (({ T with files := T.files.set x ⟨(T.fil x).b, (T.fil x).b, (T.fil x).st⟩ } : TT).fil i).st = (T.fil i).st := fun i => by
        rw [fil_set (T := T) rfl hx]
        split
        · rename_i hh; rw [hh]; exact ⟨rfl, rfl⟩
        · exact ⟨rfl, rfl⟩
      refine ⟨⟨h.off, h.fuse, fun k i hk => ?_, fun k1 i1 k2 i2 h1 h2 he => ?_, h.okn, h.oks, h.okt⟩, keeps_refl rfl fun i => (hf i).1⟩
      · rw [(hf i).2]; exact h.st k i hk
      · rw [(hf i1).2, (hf i2).2] at he
        rw [(hf i1).1, (hf i2).1]
        exact h.uq k1 i1 k2 i2 h1 h2 he
theorem Stm.syncP {T : TT} (h : Stm ok T) (w : Wf T) : Stm ok (syncPT T).2 ∧ Keeps T (syncPT T).2 := by
  unfold syncPT
  dsimp only
  rw [opT_on h]
  simp only [if_true, ne_eq, not_true_eq_false, if_false]
  exact ⟨⟨h.off, h.fuse, h.st, h.uq, h.okn, h.oks.doAll w.safe (fun t ht => w.notes t (List.mem_of_mem_take ht)) (fun t ht => h.okt t (List.mem_of_mem_take ht)), fun t ht => by simp [keepT] at ht⟩, keeps_refl rfl fun _ => rfl⟩
theorem Stm.ren {T : TT} (h : Stm ok T) (w : Wf T) (a b : Pth) : Stm ok (renT T (ok a && ok b) a b).2 ∧ Keeps T (renT T (ok a && ok b) a b).2 := by
  unfold renT
  dsimp only
  rw [opT_on h]
  cases hp : (ok a && ok b)
  · exact ⟨h, keeps_refl rfl fun _ => rfl⟩
  · have hb : ok b = true := by rw [Bool.and_eq_true] at hp; exact hp.2
    simp only [if_true]
    cases hv : valS T.now a with
    | none => exact ⟨h, keeps_refl rfl fun _ => rfl⟩
    | some x =>
      simp only [ne_eq, not_true_eq_false, if_false]
      by_cases hab : a = b
      · rw [if_pos hab]; exact ⟨h, keeps_refl rfl fun _ => rfl⟩
      · rw [if_neg hab]
        have hnow : (noteT (tickT T) (.ren a b)).now = delS (updS T.now b x) a := by
          show (match valS T.now a with | some i => delS (updS T.now b i) a | none => T.now) = _
          rw [hv]
        have hv2 : ∀ k i, valS (noteT (tickT T) (.ren a b)).now k = some i → ∃ k', valS T.now k' = some i ∧ (k = b ∧ k' = a ∨ k' = k) := fun k i hk => by
          rw [hnow, valS_del _ (onceS_upd _ _ _ w.now.1), valS_upd] at hk
          split at hk
          · cases hk
          · split at hk
            · rename_i h1 h2
              cases hk
              exact ⟨a, hv, .inl ⟨h2, rfl⟩⟩
            · exact ⟨k, hk, .inr rfl⟩
        refine ⟨⟨h.off, h.fuse, fun k i hk => ?_, fun k1 i1 k2 i2 h1 h2 he => ?_, ?_, h.oks, fun t ht => ?_⟩, fun q i i' h1 h2 he => ?_⟩
        · obtain ⟨k', hk', _⟩ := hv2 k i hk
          exact Nat.le_succ_of_le (h.st k' i hk')
        · obtain ⟨k1', a1, _⟩ := hv2 k1 i1 h1
          obtain ⟨k2', a2, _⟩ := hv2 k2 i2 h2
          exact h.uq k1' i1 k2' i2 a1 a2 he
        · exact h.okn.doN w.now (t := .ren a b) hb
        · rcases List.mem_append.1 ht with h1 | h1
          · exact h.okt t h1
          · rw [List.mem_singleton.1 h1]; exact hb
        · obtain ⟨k', hk', _⟩ := hv2 q i' h2
          exact h.uq q i k' i' h1 hk' he
theorem Stm.rm {T : TT} (h : Stm ok T) (w : Wf T) (p : Pth) : Stm ok (rmT T (ok p) p).2 ∧ Keeps T (rmT T (ok p) p).2 := by
  unfold rmT
  dsimp only
  rw [opT_on h]
  cases hp : ok p
  · exact ⟨h, keeps_refl rfl fun _ => rfl⟩
  · simp only [if_true]
    cases hv : valS T.now p with
    | none => exact ⟨h, keeps_refl rfl fun _ => rfl⟩
    | some x =>
      simp only [ne_eq, not_true_eq_false, if_false]
      have hv2 : ∀ k i, valS (delS T.now p) k = some i → valS T.now k = some i := fun k i hk => by
        rw [valS_del _ w.now.1] at hk
        split at hk
        · cases hk
        · exact hk
      refine ⟨⟨h.off, h.fuse, fun k i hk => Nat.le_succ_of_le (h.st k i (hv2 k i hk)), fun k1 i1 k2 i2 h1 h2 he => h.uq k1 i1 k2 i2 (hv2 _ _ h1) (hv2 _ _ h2) he, h.okn.del w.now.1 p, h.oks, fun t ht => ?_⟩, fun q i i' h1 h2 he => ?_⟩
      · rcases List.mem_append.1 ht with h1 | h1
        · exact h.okt t h1
        · rw [List.mem_singleton.1 h1]; trivial
      · exact h.uq q i q i' h1 (hv2 q i' h2) he
theorem Stm.read {T : TT} (h : Stm ok T) (p : Pth) : (readT T (ok p) p).2.2 = T := by
  unfold readT
  dsimp only
  rw [opT_on h]
  cases hp : ok p
  · rfl
  · simp only [if_true]
    cases valS T.now p <;> rfl
end Go.Proofs.YtjcidnbgbdibaaaDoor.tre
