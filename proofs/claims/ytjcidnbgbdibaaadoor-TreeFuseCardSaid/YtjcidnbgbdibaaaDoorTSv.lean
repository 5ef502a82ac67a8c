/- The law TreeStamps, as plain data: crashes; how great a tree grows. Conditions: none. -/
import Derived.Test.YtjcidnbgbdibaaaDoorTSt
namespace Go.Proofs.YtjcidnbgbdibaaaDoor.tre
open Go Go.Abs
set_option linter.unusedVariables false
set_option linter.unusedSimpArgs false

variable {ok : Pth → Bool}
/-- What holds while files are made anew after a crash; T0 is the tree before. -/
structure Cs (ok : Pth → Bool) (T0 T : TT) : Prop where
  le : T0.files.length ≤ T.files.length
  cl : T0.clock ≤ T.clock
  fil : ∀ i, i < T0.files.length → T.fil i = T0.fil i
  st : ∀ k i, valS T.now k = some i → (T.fil i).st ≤ T.clock
  old : ∀ k i, valS T.now k = some i → (∃ x, valS T0.now k = some x ∧ (T.fil i).st = (T0.fil x).st ∧ (T.fil i).b = (T0.fil x).b) ∨ T0.clock < (T.fil i).st
  uq : ∀ k1 i1 k2 i2, valS T.now k1 = some i1 → valS T.now k2 = some i2 → (T.fil i1).st = (T.fil i2).st → (T.fil i1).b = (T.fil i2).b
  okn : okE ok T.now
  oks : okE ok T.safe
theorem Cs.step {T0 T : TT} (h0 : Stm ok T0) (w0 : Wf T0) (h : Cs ok T0 T) (w : Wf T) (hs : ∀ k i, valS T.safe k = some i → i < T0.files.length) (s : Pth) (part : Int) : Cs ok T0 (crash1 T0.now T s part) := by
  unfold crash1
  cases hv : valS T.safe s with
  | none => exact h
  | some x =>
    have hx := hs s x hv
    have hfx : T.fil x = T0.fil x := h.fil x hx
    have hoks := h.oks s x hv
    dsimp only
    generalize leftF (T.fil x) part = b
    have gen : ∀ (c : Nat) (f : Fil), T.clock ≤ c → f.st ≤ c → ((∃ y, valS T0.now s = some y ∧ f.st = (T0.fil y).st ∧ f.b = (T0.fil y).b) ∨ T.clock < f.st) → Cs ok T0 { T with clock := c, now := updS T.now s T.files.length, files := T.files ++ [f] } := fun c f hc hf ho => by
      have hn : ({ T with clock := c, now := updS T.now s T.files.length, files := T.files ++ [f] } : TT).fil T.files.length = f := by rw [fil_add (T := T) rfl, if_pos rfl]
      have hfi : ∀ i, i < T.files.length → ({ T with clock := c, now := updS T.now s T.files.length, files := T.files ++ [f] } : TT).fil i = T.fil i := fun i hi => by rw [fil_add (T := T) rfl, if_neg (by omega)]
      have hv2 : ∀ k i, valS (updS T.now s T.files.length) k = some i → (k = s ∧ i = T.files.length) ∨ (valS T.now k = some i ∧ i < T.files.length) := fun k i hk => by
        rw [valS_upd] at hk
        split at hk
        · rename_i hh; cases hk; exact .inl ⟨hh, rfl⟩
        · exact .inr ⟨hk, (w.now.2 k i hk).1⟩
      have hcl := h.cl
      refine ⟨by have := h.le; simp; omega, by show T0.clock ≤ c; omega, fun i hi => (hfi i (Nat.lt_of_lt_of_le hi h.le)).trans (h.fil i hi), fun k i hk => ?_, fun k i hk => ?_, fun k1 i1 k2 i2 h1 h2 he => ?_, h.okn.upd hoks _, h.oks⟩
      · rcases hv2 k i hk with ⟨_, rfl⟩ | ⟨a1, b1⟩
        · rw [hn]; exact hf
        · rw [hfi i b1]; exact Nat.le_trans (h.st k i a1) hc
      · rcases hv2 k i hk with ⟨rfl, rfl⟩ | ⟨a1, b1⟩
        · rw [hn]
          exact ho.imp id fun hh => by omega
        · rw [hfi i b1]; exact h.old k i a1
      · have mixed : ∀ k2 i2, valS T.now k2 = some i2 → f.st = (T.fil i2).st → f.b = (T.fil i2).b := fun k2 i2 a2 he => by
          rcases ho with ⟨y, hy, e1, e2⟩ | ho
          · rcases h.old k2 i2 a2 with ⟨z, hz, e3, e4⟩ | hfr
            · rw [e2, e4]
              exact h0.uq s y k2 z hy hz (by omega)
            · have := h0.st s y hy
              omega
          · have := h.st k2 i2 a2
            omega
        rcases hv2 k1 i1 h1 with ⟨_, rfl⟩ | ⟨a1, b1⟩ <;> rcases hv2 k2 i2 h2 with ⟨_, rfl⟩ | ⟨a2, b2⟩
        · rfl
        · rw [hn, hfi i2 b2] at he ⊢
          exact mixed k2 i2 a2 he
        · rw [hn, hfi i1 b1] at he ⊢
          exact (mixed k1 i1 a1 he.symm).symm
        · rw [hfi i1 b1, hfi i2 b2] at he ⊢
          exact h.uq k1 i1 k2 i2 a1 a2 he
    split
    · rename_i hh
      refine gen T.clock _ (Nat.le_refl _) ?_ (.inl ⟨x, hh.1, by rw [← hfx], by rw [← hfx]; exact hh.2⟩)
      have := h0.st s x hh.1
      have := h.cl
      show (T.fil x).st ≤ T.clock
      rw [hfx]
      omega
    · exact gen (T.clock + 1) _ (by omega) (Nat.le_refl _) (.inr (Nat.lt_succ_self _))
theorem Cs.all {T0 : TT} (h0 : Stm ok T0) (w0 : Wf T0) : ∀ (l : List Pth) {T : TT} (ps : List Int), Cs ok T0 T → Wf T → (∀ k i, valS T.safe k = some i → i < T0.files.length) → Cs ok T0 (crashL T0.now T l ps)
  | [], T, _, h, _, _ => h
  | s :: r, T, ps, h, w, hs => Cs.all h0 w0 r ps.tail (h.step h0 w0 w hs s (hd0 ps)) (w.crash1 s (hd0 ps)) (by rw [(crash1_eq T0.now T s (hd0 ps)).1]; exact hs)
theorem Stm.crash {T : TT} (h : Stm ok T) (w : Wf T) (keep : Int) (ps : List Int) : Stm ok (crashT T keep ps) ∧ Keeps T (crashT T keep ps) := by
  unfold crashT
  dsimp only
  generalize (max 0 keep).toNat % (T.notes.length + 1) = n
  have wk := w.keep n
  have hs : ∀ k i, valS (keepT T n).safe k = some i → i < T.files.length := fun k i hk => (wk.safe.2 k i hk).1
  have hok : okE ok (keepT T n).safe := h.oks.doAll w.safe (fun t ht => w.notes t (List.mem_of_mem_take ht)) fun t ht => h.okt t (List.mem_of_mem_take ht)
  have w1 : Wf { keepT T n with clock := (keepT T n).clock + 1, now := [] } := ⟨IxOK.nil _, wk.2, wk.3, wk.4, wk.5, wk.6⟩
  have c0 : Cs ok T { keepT T n with clock := (keepT T n).clock + 1, now := [] } := ⟨Nat.le_refl _, Nat.le_succ _, fun _ _ => rfl, fun k i hk => (by cases hk), fun k i hk => (by cases hk), fun k1 i1 k2 i2 h1 => (by cases h1), fun k i hk => (by cases hk), hok⟩
  have c1 := Cs.all h w (sortS ((keepT T n).safe.map (·.1))) ps c0 w1 hs
  have hno : (crashL T.now { keepT T n with clock := (keepT T n).clock + 1, now := [] } (sortS ((keepT T n).safe.map (·.1))) ps).notes = [] := (crashL_eq T.now _ _ ps).2.2.2.1
  refine ⟨⟨rfl, rfl, c1.st, c1.uq, c1.okn, c1.okn, fun t ht => ?_⟩, fun p i i' h1 h2 he => ?_⟩
  · have : t ∈ (crashL T.now { keepT T n with clock := (keepT T n).clock + 1, now := [] } (sortS ((keepT T n).safe.map (·.1))) ps).notes := ht
    rw [hno] at this
    simp at this
  · rcases c1.old p i' h2 with ⟨x, hx, e1, e2⟩ | hfr
    · rw [h1] at hx
      cases hx
      exact e2.symm
    · have := h.st p i h1
      have he' : (T.fil i).st = ((crashL T.now { keepT T n with clock := (keepT T n).clock + 1, now := [] } (sortS ((keepT T n).safe.map (·.1))) ps).fil i').st := he
      omega
theorem Stm.act {T : TT} (h : Stm ok T) (w : Wf T) (k : Nat) (hk : k ≠ 7) (p q : Pth) (l : List Nat) (n : Int) (ps : List Int) : Stm ok (actT ok T k p q l n ps).2 ∧ Keeps T (actT ok T k p q l n ps).2 := by
  unfold actT
  split
  · exact h.make w p
  · split
    · exact h.put w p _
    · split
      · exact h.put w p _
      · split
        · exact h.sync w p
        · split
          · exact h.syncP w
          · split
            · exact h.ren w p q
            · split
              · exact h.rm w p
              · split
                · exact h.crash w n ps
                · show Stm ok (readT T (ok p) p).2.2 ∧ Keeps T (readT T (ok p) p).2.2
                  rw [h.read p]
                  exact ⟨h, keeps_refl rfl fun _ => rfl⟩
/-! ### How great it grows -/
structure Bd (n : Nat) (T : TT) : Prop where
  now : T.now.length ≤ n
  safe : T.safe.length + T.notes.length ≤ n
  clock : T.clock ≤ 300 * n
theorem updS_len {α : Type} : ∀ (E : List (List Nat × α)) (k : List Nat) (v : α), (updS E k v).length ≤ E.length + 1
  | [], _, _ => Nat.le_refl _
  | e :: r, k, v => by
    unfold updS
    split
    · simp
    · have := updS_len r k v
      simp; omega
theorem delS_len {α : Type} : ∀ (E : List (List Nat × α)) (k : List Nat), (delS E k).length ≤ E.length
  | [], _ => Nat.le_refl _
  | e :: r, k => by
    unfold delS
    split
    · simp
    · have := delS_len r k
      simp; omega
theorem doN_len (t : Nte) (E : Ixs) : (doN t E).length ≤ E.length + 1 := by
  cases t with
  | mk p i => exact updS_len _ _ _
  | ren a b =>
    show (match valS E a with | some i => delS (updS E b i) a | none => E).length ≤ _
    cases valS E a with
    | none => exact Nat.le_succ _
    | some i => exact Nat.le_trans (delS_len _ _) (updS_len _ _ _)
  | rm p => exact Nat.le_succ_of_le (delS_len _ _)
theorem doAll_len : ∀ (l : List Nte) (E : Ixs), (doAll l E).length ≤ E.length + l.length
  | [], E => Nat.le_refl _
  | t :: r, E => by
    have h1 := doAll_len r (doN t E)
    have h2 := doN_len t E
    show (doAll r (doN t E)).length ≤ E.length + (r.length + 1)
    omega
theorem keepT_len {n : Nat} {T : TT} (h : Bd n T) (k : Nat) : (keepT T k).safe.length ≤ n := by
  have h1 := doAll_len (T.notes.take k) T.safe
  have h2 := h.safe
  rw [List.length_take] at h1
  show (doAll (T.notes.take k) T.safe).length ≤ n
  omega
theorem crash1_len (was : Ixs) (T : TT) (s : Pth) (part : Int) : (crash1 was T s part).now.length ≤ T.now.length + 1 := by
  unfold crash1
  split
  · exact Nat.le_succ _
  · dsimp only
    split <;> exact updS_len _ _ _
theorem crashL_len (was : Ixs) : ∀ (l : List Pth) (T : TT) (ps : List Int), (crashL was T l ps).now.length ≤ T.now.length + l.length
  | [], T, _ => Nat.le_refl _
  | s :: r, T, ps => by
    have h1 := crashL_len was r (crash1 was T s (hd0 ps)) ps.tail
    have h2 := crash1_len was T s (hd0 ps)
    show (crashL was (crash1 was T s (hd0 ps)) r ps.tail).now.length ≤ T.now.length + (r.length + 1)
    omega
theorem Bd.crash {n : Nat} {T : TT} (h : Bd n T) (hn : n ≤ 250) (keep : Int) (ps : List Int) : Bd (n + 1) (crashT T keep ps) := by
  unfold crashT
  dsimp only
  have hs := keepT_len h ((max 0 keep).toNat % (T.notes.length + 1))
  generalize (max 0 keep).toNat % (T.notes.length + 1) = k at hs
  have hl : (sortS ((keepT T k).safe.map (·.1))).length ≤ n := by rw [sortS_len, List.length_map]; exact hs
  have h1 := crashL_len T.now (sortS ((keepT T k).safe.map (·.1))) { keepT T k with clock := (keepT T k).clock + 1, now := [] } ps
  obtain ⟨_, _, h2, h3, _⟩ := crashL_eq T.now (sortS ((keepT T k).safe.map (·.1))) { keepT T k with clock := (keepT T k).clock + 1, now := [] } ps
  have hc := h.clock
  have e0 : (keepT T k).clock = T.clock := rfl
  generalize crashL T.now { keepT T k with clock := (keepT T k).clock + 1, now := [] } (sortS ((keepT T k).safe.map (·.1))) ps = T2 at h1 h2 h3
  simp only [List.length_nil, e0] at h1 h2
  have h3' : T2.notes = [] := h3
  refine ⟨?_, ?_, ?_⟩
  · show T2.now.length ≤ n + 1; omega
  · show T2.now.length + T2.notes.length ≤ n + 1
    rw [h3']; simp; omega
  · show T2.clock ≤ 300 * (n + 1); omega
theorem Bd.mono {n : Nat} {T : TT} (h : Bd n T) : Bd (n + 1) T := ⟨by have := h.now; omega, by have := h.safe; omega, by have := h.clock; omega⟩
theorem Bd.note {n : Nat} {T : TT} (h : Bd n T) (t : Nte) : Bd (n + 1) (noteT (tickT T) t) := by
  have h1 := doN_len t T.now
  have := h.now; have := h.safe; have := h.clock
  exact ⟨by show (doN t T.now).length ≤ n + 1; omega, by show T.safe.length + (T.notes ++ [t]).length ≤ n + 1; simp; omega, by show T.clock + 1 ≤ 300 * (n + 1); omega⟩
theorem Bd.op {n : Nat} {T : TT} (h : Bd n T) (b : Bool) : Bd n (opT T b).2 := by
  obtain ⟨e1, e2, e3, e4, e5, e6⟩ := opT_eq T b
  exact ⟨by rw [e2]; exact h.now, by rw [e3, e4]; exact h.safe, by rw [e5]; exact h.clock⟩
theorem Bd.act {n : Nat} {T : TT} (h : Bd n T) (hn : n ≤ 250) (k : Nat) (p q : Pth) (l : List Nat) (m : Int) (ps : List Int) : Bd (n + 1) (actT ok T k p q l m ps).2 := by
  have hput : ∀ (b : Bool) (p : Pth) g, Bd (n + 1) (putT T b p g).2 := fun b p g => by
    unfold putT
    dsimp only
    split
    · exact (h.op b).mono
    · split
      · exact (h.op b).mono
      · split
        · exact (h.op b).mono
        · have h1 := h.op b
          have := h1.now; have := h1.safe; have := h1.clock
          exact ⟨by show (opT T b).2.now.length ≤ n + 1; omega, by show (opT T b).2.safe.length + (opT T b).2.notes.length ≤ n + 1; omega, by show (opT T b).2.clock + 1 ≤ 300 * (n + 1); omega⟩
  unfold actT
  split
  · show Bd (n + 1) (makeT T (ok p) p).2
    unfold makeT
    dsimp only
    split
    · exact (h.op _).mono
    · split
      · exact (h.op _).mono
      · have h1 := (h.op (ok p)).note (.mk p (opT T (ok p)).2.files.length)
        exact ⟨h1.now, h1.safe, h1.clock⟩
  · split
    · exact hput _ _ _
    · split
      · exact hput _ _ _
      · split
        · show Bd (n + 1) (syncT T (ok p) p).2
          unfold syncT
          dsimp only
          split
          · exact (h.op _).mono
          · split
            · exact (h.op _).mono
            · have h1 := (h.op (ok p)).mono
              exact ⟨h1.now, h1.safe, h1.clock⟩
        · split
          · show Bd (n + 1) (syncPT T).2
            unfold syncPT
            dsimp only
            split
            · exact (h.op _).mono
            · have h1 := h.op true
              have h2 := keepT_len h1 (opT T true).2.notes.length
              exact ⟨by show (opT T true).2.now.length ≤ n + 1; have := h1.now; omega, by show (keepT (opT T true).2 (opT T true).2.notes.length).safe.length + 0 ≤ n + 1; omega, by show (opT T true).2.clock ≤ 300 * (n + 1); have := h1.clock; omega⟩
          · split
            · show Bd (n + 1) (renT T (ok p && ok q) p q).2
              unfold renT
              dsimp only
              split
              · exact (h.op _).mono
              · split
                · exact (h.op _).mono
                · split
                  · exact (h.op _).mono
                  · exact (h.op _).note _
            · split
              · show Bd (n + 1) (rmT T (ok p) p).2
                unfold rmT
                dsimp only
                split
                · exact (h.op _).mono
                · split
                  · exact (h.op _).mono
                  · exact (h.op _).note _
              · split
                · have h1 := h.mono
                  exact ⟨h1.now, h1.safe, h1.clock⟩
                · split
                  · exact h.crash hn m ps
                  · show Bd (n + 1) (readT T (ok p) p).2.2
                    unfold readT
                    dsimp only
                    split
                    · exact (h.op _).mono
                    · split <;> exact (h.op _).mono
theorem Bd.sm {n : Nat} {T : TT} (h : Bd n T) (hn : n ≤ 250) : Sm T ∧ T.clock < 1152921504606000000 := by
  have := h.now; have := h.safe; have := h.clock
  exact ⟨⟨by omega, by omega, by omega, by omega⟩, by omega⟩
end Go.Proofs.YtjcidnbgbdibaaaDoor.tre
