/- The abstract layer, parts 49 to 56. Conditions: none. -/
import Derived.Test.YtfhcnoancepgcaaGreatDoorAb6
set_option linter.unusedVariables false
set_option linter.unusedSimpArgs false

section
namespace Go.Abs
open Go
set_option linter.unusedVariables false

abbrev Pth := List Nat
structure Fil where
  b : List Nat
  s : List Nat
  st : Nat
inductive Nte where
  | mk (p : Pth) (i : Nat)
  | ren (a b : Pth)
  | rm (p : Pth)
abbrev Ixs := List (Pth × Nat)
def doN : Nte → Ixs → Ixs
  | .mk p i, E => updS E p i
  | .ren a b, E => match valS E a with
    | some i => delS (updS E b i) a
    | none => E
  | .rm p, E => delS E p
def doAll : List Nte → Ixs → Ixs
  | [], E => E
  | n :: r, E => doAll r (doN n E)
structure TT where
  room : Int
  now : Ixs
  safe : Ixs
  notes : List Nte
  clock : Nat
  off : Bool
  fuse : Int
  files : List Fil
def newT (room : Int) : TT := ⟨room, [], [], [], 0, false, -1, []⟩
def TT.fil (T : TT) (i : Nat) : Fil := (T.files[i]?).getD ⟨[], [], 0⟩
def lenE (fs : List Fil) : Ixs → Nat
  | [] => 0
  | e :: r => ((fs[e.2]?).getD ⟨[], [], 0⟩).b.length + lenE fs r
def TT.used (T : TT) : Nat := lenE T.files T.now
def opT (T : TT) (ok : Bool) : Nat × TT :=
  if ok = false then (2, T) else if T.off = true then (11, T) else if T.fuse = 0 then (11, { T with off := true, fuse := -1 }) else if 0 < T.fuse then (0, { T with fuse := T.fuse - 1 }) else (0, T)
def noteT (T : TT) (n : Nte) : TT := { T with now := doN n T.now, notes := T.notes ++ [n] }
def tickT (T : TT) : TT := { T with clock := T.clock + 1 }
def makeT (T : TT) (ok : Bool) (p : Pth) : Nat × TT :=
  let r := opT T ok
  if r.1 ≠ 0 then r else match valS r.2.now p with
    | some _ => (7, r.2)
    | none => (0, noteT { r.2 with clock := r.2.clock + 1, files := r.2.files ++ [⟨[], [], r.2.clock + 1⟩] } (.mk p r.2.files.length))
def putT (T : TT) (ok : Bool) (p : Pth) (g : List Nat → List Nat) : Nat × TT :=
  let r := opT T ok
  if r.1 ≠ 0 then r else match valS r.2.now p with
    | none => (6, r.2)
    | some i => if T.room < (r.2.used : Int) - (r.2.fil i).b.length + (g (r.2.fil i).b).length then (10, r.2)
      else (0, { r.2 with clock := r.2.clock + 1, files := r.2.files.set i ⟨g (r.2.fil i).b, (r.2.fil i).s, r.2.clock + 1⟩ })
def syncT (T : TT) (ok : Bool) (p : Pth) : Nat × TT :=
  let r := opT T ok
  if r.1 ≠ 0 then r else match valS r.2.now p with
    | none => (6, r.2)
    | some i => (0, { r.2 with files := r.2.files.set i ⟨(r.2.fil i).b, (r.2.fil i).b, (r.2.fil i).st⟩ })
def keepT (T : TT) (n : Nat) : TT := { T with safe := doAll (T.notes.take n) T.safe, notes := [] }
def syncPT (T : TT) : Nat × TT :=
  let r := opT T true
  if r.1 ≠ 0 then r else (0, keepT r.2 r.2.notes.length)
def renT (T : TT) (ok : Bool) (a b : Pth) : Nat × TT :=
  let r := opT T ok
  if r.1 ≠ 0 then r else match valS r.2.now a with
    | none => (6, r.2)
    | some _ => if a = b then (0, r.2) else (0, noteT (tickT r.2) (.ren a b))
def rmT (T : TT) (ok : Bool) (p : Pth) : Nat × TT :=
  let r := opT T ok
  if r.1 ≠ 0 then r else match valS r.2.now p with
    | none => (6, r.2)
    | some _ => (0, noteT (tickT r.2) (.rm p))
def readT (T : TT) (ok : Bool) (p : Pth) : List Nat × Nat × TT :=
  let r := opT T ok
  if r.1 ≠ 0 then ([], r) else match valS r.2.now p with
    | none => ([], 6, r.2)
    | some i => ((r.2.fil i).b, 0, r.2)
def statT (T : TT) (p : Pth) : Nat × Nat × Bool := match valS T.now p with
  | none => (0, 0, false)
  | some i => ((T.fil i).b.length, (T.fil i).st, true)
def leftF (f : Fil) (part : Int) : List Nat :=
  if f.b.take f.s.length = f.s then f.b.take (f.s.length + (max 0 part).toNat % (f.b.length - f.s.length + 1)) else f.s
def hd0 : List Int → Int
  | [] => 0
  | a :: _ => a
def crash1 (was : Ixs) (T : TT) (s : Pth) (part : Int) : TT := match valS T.safe s with
  | none => T
  | some i =>
    let b := leftF (T.fil i) part
    if valS was s = some i ∧ b = (T.fil i).b then { T with now := updS T.now s T.files.length, files := T.files ++ [⟨b, b, (T.fil i).st⟩] }
    else { T with clock := T.clock + 1, now := updS T.now s T.files.length, files := T.files ++ [⟨b, b, T.clock + 1⟩] }
def crashL (was : Ixs) : TT → List Pth → List Int → TT
  | T, [], _ => T
  | T, s :: r, ps => crashL was (crash1 was T s (hd0 ps)) r ps.tail
def crashT (T : TT) (keep : Int) (parts : List Int) : TT :=
  let T1 := keepT T ((max 0 keep).toNat % (T.notes.length + 1))
  let T2 := crashL T.now { T1 with clock := T1.clock + 1, now := [] } (sortS (T1.safe.map (·.1))) parts
  { T2 with safe := T2.now, off := false, fuse := -1 }

/-! ### What is right of every tree -/
def NteOK (n : Nat) : Nte → Prop
  | .mk p i => i < n ∧ p.length ≤ 69
  | .ren a b => b.length ≤ 69
  | .rm _ => True
def IxOK (n : Nat) (E : Ixs) : Prop := onceS E ∧ ∀ k i, valS E k = some i → i < n ∧ k.length ≤ 69
def FilOK (f : Fil) : Prop := (∀ b ∈ f.b, b < 256) ∧ (∀ b ∈ f.s, b < 256) ∧ f.b.length ≤ 67108864 ∧ f.s.length ≤ 67108864
theorem FilOK.zero (n : Nat) : FilOK ⟨[], [], n⟩ := ⟨fun b hb => by simp at hb, fun b hb => by simp at hb, Nat.zero_le _, Nat.zero_le _⟩
structure Wf (T : TT) : Prop where
  now : IxOK T.files.length T.now
  safe : IxOK T.files.length T.safe
  notes : ∀ n ∈ T.notes, NteOK T.files.length n
  fuse : -1 ≤ T.fuse ∧ T.fuse ≤ 9223372036854775807
  room : 0 ≤ T.room ∧ T.room ≤ 67108864
  byt : ∀ f ∈ T.files, FilOK f
theorem IxOK.mono {n m : Nat} {E : Ixs} (h : IxOK n E) (hm : n ≤ m) : IxOK m E := ⟨h.1, fun k i hk => ⟨Nat.lt_of_lt_of_le (h.2 k i hk).1 hm, (h.2 k i hk).2⟩⟩
theorem NteOK.mono {n m : Nat} : ∀ {t : Nte}, NteOK n t → n ≤ m → NteOK m t
  | .mk _ _, h, hm => ⟨Nat.lt_of_lt_of_le h.1 hm, h.2⟩
  | .ren _ _, h, _ => h
  | .rm _, _, _ => trivial
theorem IxOK.upd {n : Nat} {E : Ixs} (h : IxOK n E) (p : Pth) {i : Nat} (hi : i < n) (hp : p.length ≤ 69) : IxOK n (updS E p i) := by
  refine ⟨onceS_upd _ _ _ h.1, fun k j hk => ?_⟩
  rw [valS_upd] at hk
  split at hk
  · rename_i hh
    cases hk; exact ⟨hi, by rw [hh]; exact hp⟩
  · exact h.2 k j hk
theorem IxOK.del {n : Nat} {E : Ixs} (h : IxOK n E) (p : Pth) : IxOK n (delS E p) := by
  refine ⟨onceS_del _ _ h.1, fun k j hk => ?_⟩
  rw [valS_del _ h.1] at hk
  split at hk
  · cases hk
  · exact h.2 k j hk
theorem IxOK.nil (n : Nat) : IxOK n [] := ⟨trivial, fun k i h => by cases h⟩
theorem IxOK.doN {n : Nat} {E : Ixs} (h : IxOK n E) : ∀ {t : Nte}, NteOK n t → IxOK n (doN t E)
  | .mk p i, ht => h.upd p ht.1 ht.2
  | .ren a b, ht => by
    show IxOK n (match valS E a with | some i => delS (updS E b i) a | none => E)
    cases hv : valS E a with
    | none => exact h
    | some i => exact (h.upd b (h.2 a i hv).1 ht).del a
  | .rm p, _ => h.del p
theorem IxOK.doAll {n : Nat} : ∀ {l : List Nte} {E : Ixs}, IxOK n E → (∀ t ∈ l, NteOK n t) → IxOK n (doAll l E)
  | [], _, h, _ => h
  | t :: r, E, h, hl => IxOK.doAll (l := r) (h.doN (hl t (List.mem_cons_self ..))) fun x hx => hl x (List.mem_cons_of_mem _ hx)
theorem Wf.new {room : Int} (h : 0 ≤ room ∧ room ≤ 67108864) : Wf (newT room) :=
  ⟨IxOK.nil _, IxOK.nil _, fun n hn => by simp [newT] at hn, ⟨Int.le_refl _, show (-1 : Int) ≤ 9223372036854775807 by decide⟩, h, fun f hf => by simp [newT] at hf⟩
theorem opT_eq (T : TT) (ok : Bool) : (opT T ok).2.room = T.room ∧ (opT T ok).2.now = T.now ∧ (opT T ok).2.safe = T.safe ∧ (opT T ok).2.notes = T.notes ∧ (opT T ok).2.clock = T.clock ∧ (opT T ok).2.files = T.files := by
  unfold opT
  repeat' split
  all_goals exact ⟨rfl, rfl, rfl, rfl, rfl, rfl⟩
theorem Wf.op {T : TT} (h : Wf T) (ok : Bool) : Wf (opT T ok).2 := by
  obtain ⟨h1, h2, h3, h4, h5, h6⟩ := h
  unfold opT
  repeat' split
  all_goals first
    | exact ⟨h1, h2, h3, h4, h5, h6⟩
    | exact ⟨h1, h2, h3, ⟨by decide, by decide⟩, h5, h6⟩
    | (refine ⟨h1, h2, h3, ⟨?_, ?_⟩, h5, h6⟩ <;> simp only <;> omega)
theorem Wf.tick {T : TT} (h : Wf T) : Wf (tickT T) := ⟨h.1, h.2, h.3, h.4, h.5, h.6⟩
theorem Wf.note {T : TT} (h : Wf T) {n : Nte} (hn : NteOK T.files.length n) : Wf (noteT T n) := by
  refine ⟨h.1.doN hn, h.2, fun t ht => ?_, h.4, h.5, h.6⟩
  rcases List.mem_append.1 ht with h1 | h1
  · exact h.3 t h1
  · rw [List.mem_singleton.1 h1]; exact hn
theorem Wf.grow {T : TT} (h : Wf T) (f : Fil) (hf : FilOK f) (c : Nat) : Wf { T with clock := c, files := T.files ++ [f] } := by
  have hle : T.files.length ≤ (T.files ++ [f]).length := by simp
  refine ⟨h.1.mono hle, h.2.mono hle, fun t ht => (h.3 t ht).mono hle, h.4, h.5, fun x hx => ?_⟩
  rcases List.mem_append.1 hx with h1 | h1
  · exact h.6 x h1
  · rw [List.mem_singleton.1 h1]; exact hf
theorem opT_ok {T : TT} {ok : Bool} (h : ¬ (opT T ok).1 ≠ 0) : ok = true := by
  cases ok
  · exact absurd (show (opT T false).1 ≠ 0 by simp [opT]) h
  · rfl
theorem Wf.make {T : TT} (h : Wf T) (ok : Bool) (p : Pth) (hp : ok = true → p.length ≤ 69) : Wf (makeT T ok p).2 := by
  unfold makeT
  dsimp only
  split
  · exact h.op ok
  · rename_i hh
    split
    · exact h.op ok
    · refine Wf.note (Wf.grow (h.op ok) _ (FilOK.zero _) _) ⟨?_, hp (opT_ok hh)⟩
      show (opT T ok).2.files.length < ((opT T ok).2.files ++ [_]).length
      simp
theorem fil_ok {T : TT} (h : Wf T) (i : Nat) : FilOK (T.fil i) := by
  unfold TT.fil
  cases hf : T.files[i]? with
  | none => exact FilOK.zero _
  | some f => exact h.6 f (List.mem_iff_getElem?.2 ⟨i, hf⟩)
theorem Wf.set {T : TT} (h : Wf T) (i : Nat) {f : Fil} (hf : FilOK f) (c : Nat) : Wf { T with clock := c, files := T.files.set i f } := by
  have e : (T.files.set i f).length = T.files.length := by simp
  refine ⟨by rw [e]; exact h.1, by rw [e]; exact h.2, by rw [e]; exact h.3, h.4, h.5, fun x hx => ?_⟩
  rcases List.mem_or_eq_of_mem_set hx with h1 | rfl
  · exact h.6 x h1
  · exact hf
theorem lenE_ge {fs : List Fil} : ∀ {E : Ixs} {p : Pth} {i : Nat}, valS E p = some i → ((fs[i]?).getD ⟨[], [], 0⟩).b.length ≤ lenE fs E
  | e :: r, p, i, h => by
    unfold valS at h
    unfold lenE
    by_cases hk : e.1 = p
    · rw [if_pos hk] at h
      cases h
      omega
    · rw [if_neg hk] at h
      have := lenE_ge (fs := fs) h
      omega
theorem lenE_le {fs : List Fil} {n : Nat} (hn : ∀ f ∈ fs, f.b.length ≤ n) : ∀ (E : Ixs), lenE fs E ≤ E.length * n
  | [] => by simp [lenE]
  | e :: r => by
    have ih := lenE_le hn r
    have h1 : ((fs[e.2]?).getD ⟨[], [], 0⟩).b.length ≤ n := by
      cases hf : fs[e.2]? with
      | none => exact Nat.zero_le _
      | some f => exact hn f (List.mem_iff_getElem?.2 ⟨_, hf⟩)
    unfold lenE
    rw [List.length_cons, Nat.succ_mul]
    omega
theorem Wf.put {T : TT} (h : Wf T) (ok : Bool) (p : Pth) {g : List Nat → List Nat} (hg : ∀ l, (∀ b ∈ l, b < 256) → ∀ b ∈ g l, b < 256) : Wf (putT T ok p g).2 := by
  have hw := h.op ok
  have hr := (opT_eq T ok).1
  unfold putT
  dsimp only
  split
  · exact hw
  · split
    · exact hw
    · rename_i i hv
      split
      · exact hw
      · rename_i hu
        have hge : ((opT T ok).2.fil i).b.length ≤ (opT T ok).2.used := lenE_ge hv
        have hl := h.room
        obtain ⟨q1, q2, q3, q4⟩ := fil_ok hw i
        refine Wf.set hw _ ?_ _
        refine ⟨hg _ q1, q2, ?_, q4⟩
        show (g ((opT T ok).2.fil i).b).length ≤ 67108864
        omega
theorem Wf.sync {T : TT} (h : Wf T) (ok : Bool) (p : Pth) : Wf (syncT T ok p).2 := by
  unfold syncT
  dsimp only
  split
  · exact h.op ok
  · split
    · exact h.op ok
    · rename_i i hv
      obtain ⟨q1, q2, q3, q4⟩ := fil_ok (h.op ok) i
      refine Wf.set (h.op ok) _ ?_ _
      exact ⟨q1, q1, q3, q3⟩
theorem Wf.keep {T : TT} (h : Wf T) (n : Nat) : Wf (keepT T n) :=
  ⟨h.1, h.2.doAll fun t ht => h.3 t (List.mem_of_mem_take ht), fun t ht => by simp [keepT] at ht, h.4, h.5, h.6⟩
theorem Wf.syncP {T : TT} (h : Wf T) : Wf (syncPT T).2 := by
  unfold syncPT
  dsimp only
  split
  · exact h.op true
  · exact (h.op true).keep _
theorem Wf.ren {T : TT} (h : Wf T) (ok : Bool) (a b : Pth) (hb : ok = true → b.length ≤ 69) : Wf (renT T ok a b).2 := by
  unfold renT
  dsimp only
  split
  · exact h.op ok
  · rename_i hh
    split
    · exact h.op ok
    · split
      · exact h.op ok
      · exact Wf.note (h.op ok).tick (hb (opT_ok hh))
theorem Wf.rm {T : TT} (h : Wf T) (ok : Bool) (p : Pth) : Wf (rmT T ok p).2 := by
  unfold rmT
  dsimp only
  split
  · exact h.op ok
  · split
    · exact h.op ok
    · exact Wf.note (h.op ok).tick trivial
theorem Wf.read {T : TT} (h : Wf T) (ok : Bool) (p : Pth) : Wf (readT T ok p).2.2 := by
  unfold readT
  dsimp only
  split
  · exact h.op ok
  · split <;> exact h.op ok
theorem leftF_ok {f : Fil} (h : FilOK f) (part : Int) (n : Nat) : FilOK ⟨leftF f part, leftF f part, n⟩ := by
  have key : (∀ b ∈ leftF f part, b < 256) ∧ (leftF f part).length ≤ 67108864 := by
    unfold leftF
    split
    · refine ⟨fun b hb => h.1 b (List.mem_of_mem_take hb), ?_⟩
      have := h.2.2.1
      rw [List.length_take]
      omega
    · exact ⟨h.2.1, h.2.2.2⟩
  exact ⟨key.1, key.1, key.2, key.2⟩
theorem Wf.crash1 {was : Ixs} {T : TT} (h : Wf T) (s : Pth) (part : Int) : Wf (crash1 was T s part) := by
  unfold Abs.crash1
  split
  · exact h
  · rename_i i hi
    have hs := (h.2.2 s i hi).2
    dsimp only
    split
    · have h2 := Wf.grow h _ (leftF_ok (fil_ok h i) part (T.fil i).st) T.clock
      exact ⟨h2.1.upd _ (by simp) hs, h2.2, h2.3, h2.4, h2.5, h2.6⟩
    · have h2 := Wf.grow h _ (leftF_ok (fil_ok h i) part (T.clock + 1)) (T.clock + 1)
      exact ⟨h2.1.upd _ (by simp) hs, h2.2, h2.3, h2.4, h2.5, h2.6⟩
theorem Wf.crashL {was : Ixs} : ∀ {l : List Pth} {T : TT} {ps : List Int}, Wf T → Wf (crashL was T l ps)
  | [], _, _, h => h
  | s :: r, T, ps, h => Wf.crashL (l := r) (h.crash1 s (hd0 ps))
theorem Wf.crash {T : TT} (h : Wf T) (keep : Int) (parts : List Int) : Wf (crashT T keep parts) := by
  unfold crashT
  dsimp only
  have h1 := h.keep ((max 0 keep).toNat % (T.notes.length + 1))
  have h2 : Wf { keepT T ((max 0 keep).toNat % (T.notes.length + 1)) with clock := (keepT T ((max 0 keep).toNat % (T.notes.length + 1))).clock + 1, now := [] } := ⟨IxOK.nil _, h1.2, h1.3, h1.4, h1.5, h1.6⟩
  have h3 := Wf.crashL (was := T.now) (l := sortS ((keepT T ((max 0 keep).toNat % (T.notes.length + 1))).safe.map (·.1))) (ps := parts) h2
  exact ⟨h3.1, h3.1, h3.3, ⟨Int.le_refl _, show (-1 : Int) ≤ 9223372036854775807 by decide⟩, h3.5, h3.6⟩
end Go.Abs
end

section
namespace Go.Abs
open Go
set_option linter.unusedVariables false
set_option linter.unusedSimpArgs false

section
variable {P : Program}
def Cs (h : AH) (v : AV) (l : List AV) : Prop :=
  (v = .nilsl ∧ l = []) ∨ ∃ id off c cs o t, v = .sl id off l.length 1 c ∧ h.get id = some (.cells cs o t) ∧ id < h.nx ∧ off + l.length ≤ cs.length ∧ (∀ k, c = some k → l.length ≤ k) ∧ (cs.drop off).take l.length = l
theorem Cs.fr {h h' : AH} {v : AV} {l : List AV} (hb : Cs h v l) (hf : Fr h h') : Cs h' v l := by
  rcases hb with h1 | ⟨id, off, c, cs, o, t, h1, h2, h3, h4, h5, h6⟩
  · exact .inl h1
  · exact .inr ⟨id, off, c, cs, o, t, h1, (hf.get id h3).trans h2, Nat.lt_of_lt_of_le h3 hf.nx, h4, h5, h6⟩
theorem cs_get {cs : List AV} {off : Nat} {l : List AV} (hx : (cs.drop off).take l.length = l) {i : Nat} {b : AV} (hi : l[i]? = some b) : cs[off + i]? = some b := by
  have hil : i < l.length := (List.getElem?_eq_some_iff.1 hi).1
  rw [← hx, List.getElem?_take_of_lt hil, List.getElem?_drop] at hi
  exact hi
theorem Cs.first {h : AH} {v : AV} {l : List AV} (hb : Cs h v l) : lenA v = some l.length ∧ firstA h 1 l.length v = some l := by
  rcases hb with ⟨rfl, rfl⟩ | ⟨id, off, c, cs, o, t, rfl, h2, h3, h4, h5, h6⟩
  · exact ⟨rfl, rfl⟩
  · refine ⟨rfl, ?_⟩
    rw [firstA_sl h2 (Nat.le_refl _) (by omega), Nat.mul_one, h6]
theorem Cs.one {h : AH} {v : AV} {l : List AV} (hb : Cs h v l) : oneA v = true ∧ sameAV 20 v v = true := by
  rcases hb with ⟨rfl, rfl⟩ | ⟨id, off, c, cs, o, t, rfl, _⟩
  · exact ⟨rfl, rfl⟩
  · exact ⟨rfl, by simp [sameAV]⟩
theorem Cs.len {h : AH} {v : AV} {l : List AV} {t e : TypeId} (hb : Cs h v l) (ht : P.underlying t = some (.slice e)) (g : AH) : evLen P g #[t] v = some (.int .i64 (l.length : Nat)) := by
  rcases hb with ⟨rfl, rfl⟩ | ⟨id, off, c, cs, o, tx, rfl, _⟩
  · simp [evLen, ht]
  · simp [evLen, ht]
theorem Cs.slice_to {h : AH} {v : AV} {l : List AV} {t e : TypeId} {hi : Nat} (hb : Cs h v l) (ht : P.underlying t = some (.slice e)) (he : tsize P e = some 1) (hhi : hi ≤ l.length) :
    ∃ v', (∀ h1, evSlice P h1 t v none (some (.int .i64 (hi : Nat))) none = some v') ∧ Cs h v' (l.take hi) ∧ (∀ id off n z c, v' = .sl id off n z c → ∃ off n z c, v = .sl id off n z c) := by
  rcases hb with ⟨rfl, rfl⟩ | ⟨id, off, c, cs, o, tx, rfl, h2, h3, h4, h5, h6⟩
  · obtain rfl : hi = 0 := by simpa using hhi
    refine ⟨.nilsl, fun h1 => ?_, .inl ⟨rfl, rfl⟩, fun _ _ _ _ _ hh => by cases hh⟩
    simp [evSlice, ht, he, boundsA, boundA, upTo]
  · have hlen : (l.take hi).length = hi := by simp; omega
    refine ⟨.sl id off hi 1 c, fun h1 => ?_, .inr ⟨id, off, c, cs, o, tx, ?_, h2, h3, ?_, ?_, ?_⟩, fun _ _ _ _ _ hh => by cases hh; exact ⟨_, _, _, _, rfl⟩⟩
    · have hu : upTo ((hi : Nat) : Int) l.length = some hi := by rw [upTo_of (by omega) (by omega)]; simp
      cases c with
      | none => simp [evSlice, ht, he, boundsA, boundA, hu]
      | some k =>
        have hk := h5 k rfl
        have hu2 : upTo ((hi : Nat) : Int) k = some hi := by rw [upTo_of (by omega) (by omega)]; simp
        simp [evSlice, ht, he, boundsA, boundA, hu, hu2]
    · rw [hlen]
    · rw [hlen]; omega
    · intro k hk
      rw [hlen]
      have := h5 k hk
      omega
    · rw [hlen]
      have := congrArg (List.take hi) h6
      rw [List.take_take, Nat.min_eq_left hhi] at this
      exact this
def Co (n0 : Nat) (h : AH) (v : AV) (l : List AV) : Prop :=
  ∃ id c cs tx, v = .sl id 0 l.length 1 c ∧ h.get id = some (.cells cs true tx) ∧ id < h.nx ∧ n0 ≤ id ∧ cs.take l.length = l ∧ l.length ≤ cs.length ∧ (c = none ∨ c = some l.length)
theorem Co.cs {n0 : Nat} {h : AH} {v : AV} {l : List AV} (hb : Co n0 h v l) : Cs h v l := by
  obtain ⟨id, c, cs, tx, h1, h2, h3, h4, h5, h6, h7⟩ := hb
  refine .inr ⟨id, 0, c, cs, true, tx, h1, h2, h3, by omega, fun k hk => ?_, by rw [List.drop_zero]; exact h5⟩
  rcases h7 with rfl | rfl
  · cases hk
  · cases hk; exact Nat.le_refl _
theorem Co.fr {n0 : Nat} {h h' : AH} {v : AV} {l : List AV} (hb : Co n0 h v l) (hf : Fr h h') : Co n0 h' v l := by
  obtain ⟨id, c, cs, tx, h1, h2, h3, h4, h5⟩ := hb
  exact ⟨id, c, cs, tx, h1, (hf.get id h3).trans h2, Nat.lt_of_lt_of_le h3 hf.nx, h4, h5⟩
theorem Co.low {n0 n1 : Nat} {h : AH} {v : AV} {l : List AV} (hb : Co n0 h v l) (hn : n1 ≤ n0) : Co n1 h v l := by
  obtain ⟨id, c, cs, tx, h1, h2, h3, h4, h5⟩ := hb
  exact ⟨id, c, cs, tx, h1, h2, h3, Nat.le_trans hn h4, h5⟩
theorem Co.app {h0 h : AH} {v x : AV} {l m : List AV} {st xt e : TypeId} {d : TypeDesc} {bt : Nat} (hu : P.underlying st = some (.slice e)) (hd : P.underlying xt = some d) (hni : notInt d = true) (hi : appI P e = some (1, bt)) (hbt : bt ≤ 64) (hb : Co h0.nx h v l) (hn : lenA x = some m.length) (hnew : firstA h 1 m.length x = some m) (hall : m.all oneA = true) (hf : Fr h0 h) (hl : l.length + m.length ≤ 1073741824) :
    ∃ v' h', evAppend P h #[st, xt] v x = some (.val v' h') ∧ Fr h0 h' ∧ Co h0.nx h' v' (l ++ m) ∧ oneA v' = true := by
  obtain ⟨id, c, cs, tx, rfl, h2, h3, h4, h5, h6, h7⟩ := hb
  have hold : firstA h 1 l.length (.sl id 0 l.length 1 c) = some l := by
    rw [firstA_sl h2 (Nat.le_refl _) (by omega), List.drop_zero, Nat.mul_one, h5]
  have hm : (2 * (l.length + m.length) + 1000) * bt ≤ (2 * (l.length + m.length) + 1000) * 64 := Nat.mul_le_mul_left _ hbt
  rw [evAppend_eq hu hd hni hi hn hnew rfl hold hall (Nat.le_trans hm (by omega)) (by omega) rfl]
  by_cases hm : m.length = 0
  · rw [if_pos hm]
    have : m = [] := List.length_eq_zero_iff.1 hm
    subst this
    exact ⟨_, _, rfl, hf, ⟨id, c, cs, tx, by simp, h2, h3, h4, by simpa using h5, by simpa using h6, by simpa using h7⟩, rfl⟩
  · rw [if_neg hm]
    have hlm : (l ++ m).length = l.length + m.length := by simp
    have fin : ∀ (g : AH) (tf : Bool), Fr h0 g → g.nx = h.nx → ∃ v' h', newCells g (l ++ m) tf (fun id => .sl id 0 (l.length + m.length) 1 none) = some (.val v' h') ∧ Fr h0 h' ∧ Co h0.nx h' v' (l ++ m) ∧ oneA v' = true := fun g tf hg hgn =>
      ⟨_, _, rfl, hg.news _, ⟨g.nx, none, l ++ m, tf, by rw [hlm], AH.get_new_eq rfl, Nat.lt_succ_self _, hg.nx, List.take_length, Nat.le_refl _, .inl rfl⟩, rfl⟩
    rcases h7 with rfl | rfl
    · simp only
      rw [if_pos (by simp [ownBlock, h2])]
      exact fin _ _ (hf.del h4) rfl
    · simp only
      rw [if_pos (by omega)]
      exact fin _ _ hf rfl
theorem Ss.cs {n0 : Nat} {h : AH} {v : AV} {l : List (List Nat)} (hb : Ss n0 h v l) : Cs h v (l.map AV.str) := by
  rcases hb with ⟨rfl, rfl⟩ | ⟨id, rfl, h2, h3, h4⟩
  · exact .inl ⟨rfl, rfl⟩
  · exact .inr ⟨id, 0, none, l.map AV.str, true, false, by simp, h2, h3, by simp, fun k hk => (by cases hk), by rw [List.drop_zero, List.take_length]⟩
def Tx (K : Nat → Nat) (h : AH) (v : AV) (l : List (List Nat)) : Prop := Cs h v (l.map AV.str) ∧ ∀ id off n z c, v = .sl id off n z c → K id = 0
theorem Tx.fr {K : Nat → Nat} {h h' : AH} {v : AV} {l : List (List Nat)} (hb : Tx K h v l) (hf : Fr h h') : Tx K h' v l := ⟨hb.1.fr hf, hb.2⟩
theorem Tx.len {K : Nat → Nat} {h : AH} {v : AV} {l : List (List Nat)} {t e : TypeId} (hb : Tx K h v l) (ht : P.underlying t = some (.slice e)) (g : AH) : evLen P g #[t] v = some (.int .i64 (l.length : Nat)) := by
  have := hb.1.len ht g
  rwa [List.length_map] at this
theorem Tx.get {K : Nat → Nat} {h : AH} {v : AV} {l : List (List Nat)} (hb : Tx K h v l) {i : Nat} {s : List Nat} (hi : l[i]? = some s) : ∃ id off c cs o t, v = .sl id off l.length 1 c ∧ h.get id = some (.cells cs o t) ∧ id < h.nx ∧ cs[off + i]? = some (.str s) := by
  have hil : i < l.length := (List.getElem?_eq_some_iff.1 hi).1
  rcases hb.1 with ⟨_, h1⟩ | ⟨id, off, c, cs, o, t, h1, h2, h3, h4, h5, h6⟩
  · have : l = [] := List.map_eq_nil_iff.1 h1
    rw [this] at hil; simp at hil
  · rw [List.length_map] at h1
    exact ⟨id, off, c, cs, o, t, h1, h2, h3, cs_get h6 (by simp [hi])⟩
theorem Tx.of {K : Nat → Nat} {n0 : Nat} {h : AH} {v : AV} {l : List (List Nat)} (hb : Ss n0 h v l) (top : ∀ j, n0 ≤ j → K j = 0) : Tx K h v l := by
  refine ⟨hb.cs, fun id off n z c hh => ?_⟩
  rcases hb with ⟨h1, _⟩ | ⟨id', h1, h2, h3, h4⟩
  · rw [h1] at hh; cases hh
  · rw [h1] at hh
    cases hh
    exact top _ h4
theorem Tx.own {K : Nat → Nat} {n0 : Nat} {h : AH} {v : AV} {l : List (List Nat)} (hb : Co n0 h v (l.map AV.str)) (top : ∀ j, n0 ≤ j → K j = 0) : Tx K h v l := by
  refine ⟨hb.cs, fun id off n z c hh => ?_⟩
  obtain ⟨id', c', cs, tx, h1, h2, h3, h4, h5⟩ := hb
  rw [h1] at hh
  cases hh
  exact top _ h4
theorem Tx.take {K : Nat → Nat} {h : AH} {v : AV} {l : List (List Nat)} {t e : TypeId} {hi : Nat} (hb : Tx K h v l) (ht : P.underlying t = some (.slice e)) (he : tsize P e = some 1) (hhi : hi ≤ l.length) :
    ∃ v', (∀ h1, evSlice P h1 t v none (some (.int .i64 (hi : Nat))) none = some v') ∧ Tx K h v' (l.take hi) := by
  obtain ⟨v', h1, h2, h3⟩ := hb.1.slice_to ht he (by rw [List.length_map]; exact hhi)
  refine ⟨v', h1, by rw [List.map_take]; exact h2, fun id off n z c hh => ?_⟩
  obtain ⟨_, _, _, _, e⟩ := h3 id off n z c hh
  exact hb.2 _ _ _ _ _ e
end
end Go.Abs
end

section
namespace Go.Abs
open Go
set_option linter.unusedVariables false
set_option linter.unusedSimpArgs false

namespace Wal
def stepsT : List (TT → Nat × TT) → TT → Nat × TT
  | [], T => (0, T)
  | f :: r, T => if (f T).1 ≠ 0 then f T else stepsT r (f T).2
def remT (q : Pth) (T : TT) : Nat × TT := if (statT T q).2.2 = true then rmT T true q else (0, T)
def nf (φ : Int) : Int := if 0 < φ then φ - 1 else φ
section
variable {R : Int} {N Sf : Ixs} {nt : List Nte} {c : Nat} {φ : Int} {fs : List Fil} {p q : Pth}
theorem opS (h : φ ≠ 0) : opT ⟨R, N, Sf, nt, c, false, φ, fs⟩ true = (0, ⟨R, N, Sf, nt, c, false, nf φ, fs⟩) := by
  by_cases h2 : 0 < φ
  · simp [opT, nf, h, h2]
  · simp [opT, nf, h, h2]
theorem makeS (h : φ ≠ 0) (hv : valS N q = none) : makeT ⟨R, N, Sf, nt, c, false, φ, fs⟩ true q = (0, ⟨R, updS N q fs.length, Sf, nt ++ [.mk q fs.length], c + 1, false, nf φ, fs ++ [⟨[], [], c + 1⟩]⟩) := by
  simp [makeT, opS h, hv, noteT, doN]
theorem putS (h : φ ≠ 0) {i : Nat} {f : Fil} (hv : valS N q = some i) (hf : fs[i]? = some f) {g : List Nat → List Nat} (hg : ((lenE fs N : Nat) : Int) - f.b.length + (g f.b).length ≤ R) :
    putT ⟨R, N, Sf, nt, c, false, φ, fs⟩ true q g = (0, ⟨R, N, Sf, nt, c + 1, false, nf φ, fs.set i ⟨g f.b, f.s, c + 1⟩⟩) := by
  have : ¬ R < ((lenE fs N : Nat) : Int) - f.b.length + (g f.b).length := by omega
  simp [putT, opS h, hv, TT.used, TT.fil, hf, this]
theorem syncS (h : φ ≠ 0) {i : Nat} {f : Fil} (hv : valS N q = some i) (hf : fs[i]? = some f) :
    syncT ⟨R, N, Sf, nt, c, false, φ, fs⟩ true q = (0, ⟨R, N, Sf, nt, c, false, nf φ, fs.set i ⟨f.b, f.b, f.st⟩⟩) := by
  simp [syncT, opS h, hv, TT.fil, hf]
theorem steps_ok {f : TT → Nat × TT} {r : List (TT → Nat × TT)} {T T' : TT} (h : f T = (0, T')) : stepsT (f :: r) T = stepsT r T' := by
  simp [stepsT, h]
theorem rem_no {T : TT} (hv : valS T.now q = none) : remT q T = (0, T) := by
  have : (statT T q).2.2 = false := by simp [statT, hv]
  unfold remT
  rw [if_neg (by rw [this]; decide)]
end
theorem updS_len {α : Type} : ∀ (E : List (List Nat × α)) (k : List Nat) (v : α), (updS E k v).length ≤ E.length + 1
  | [], _, _ => Nat.le_refl _
  | e :: r, k, v => by
    unfold updS
    split
    · simp
    · have := updS_len r k v
      simp; omega
theorem delS_len {α : Type} : ∀ (E : List (List Nat × α)) (k : List Nat), (delS E k).length ≤ E.length
  | [], _ => Nat.le_refl _
  | e :: r, k => by
    unfold delS
    split
    · simp
    · have := delS_len r k
      simp; omega
theorem doN_len (t : Nte) (E : Ixs) : (doN t E).length ≤ E.length + 1 := by
  cases t with
  | mk p i => exact updS_len _ _ _
  | ren a b =>
    show (match valS E a with | some i => delS (updS E b i) a | none => E).length ≤ _
    cases valS E a with
    | none => exact Nat.le_succ _
    | some i => exact Nat.le_trans (delS_len _ _) (updS_len _ _ _)
  | rm p => exact Nat.le_succ_of_le (delS_len _ _)
theorem doAll_len : ∀ (l : List Nte) (E : Ixs), (doAll l E).length ≤ E.length + l.length
  | [], E => Nat.le_refl _
  | t :: r, E => by
    have h1 := doAll_len r (doN t E)
    have h2 := doN_len t E
    show (doAll r (doN t E)).length ≤ E.length + (r.length + 1)
    omega
structure Bm (n c : Nat) (T : TT) : Prop where
  now : T.now.length ≤ n
  sn : T.safe.length + T.notes.length ≤ n
  clock : T.clock ≤ c
section
variable {n c : Nat} {T : TT}
theorem Bm.mono (h : Bm n c T) {m d : Nat} (h1 : n ≤ m) (h2 : c ≤ d) : Bm m d T := ⟨Nat.le_trans h.now h1, Nat.le_trans h.sn h1, Nat.le_trans h.clock h2⟩
theorem Bm.op (h : Bm n c T) (b : Bool) : Bm n c (opT T b).2 := by
  obtain ⟨e1, e2, e3, e4, e5, e6⟩ := opT_eq T b
  exact ⟨by rw [e2]; exact h.now, by rw [e3, e4]; exact h.sn, by rw [e5]; exact h.clock⟩
theorem Bm.note (h : Bm n c T) (t : Nte) : Bm (n + 1) c (noteT T t) := by
  have h1 := doN_len t T.now
  have := h.now; have := h.sn
  exact ⟨by show (doN t T.now).length ≤ n + 1; omega, by show T.safe.length + (T.notes ++ [t]).length ≤ n + 1; simp; omega, h.clock⟩
theorem Bm.make (h : Bm n c T) (b : Bool) (p : Pth) : Bm (n + 1) (c + 1) (makeT T b p).2 := by
  unfold makeT
  dsimp only
  split
  · exact (h.op _).mono (Nat.le_succ _) (Nat.le_succ _)
  · split
    · exact (h.op _).mono (Nat.le_succ _) (Nat.le_succ _)
    · have h1 := h.op b
      refine Bm.note ?_ _
      exact ⟨h1.now, h1.sn, Nat.succ_le_succ h1.clock⟩
theorem Bm.put (h : Bm n c T) (b : Bool) (p : Pth) (g : List Nat → List Nat) : Bm n (c + 1) (putT T b p g).2 := by
  have h1 := h.op b
  have h2 := h1.mono (Nat.le_refl n) (Nat.le_succ c)
  unfold putT
  dsimp only
  split
  · exact h2
  · split
    · exact h2
    · split
      · exact h2
      · exact ⟨h1.now, h1.sn, Nat.succ_le_succ h1.clock⟩
theorem Bm.sync (h : Bm n c T) (b : Bool) (p : Pth) : Bm n c (syncT T b p).2 := by
  have h1 := h.op b
  unfold syncT
  dsimp only
  split
  · exact h1
  · split
    · exact h1
    · exact ⟨h1.now, h1.sn, h1.clock⟩
theorem keepT_len (h : Bm n c T) (k : Nat) : (keepT T k).safe.length ≤ n := by
  have h1 := doAll_len (T.notes.take k) T.safe
  have h2 := h.sn
  rw [List.length_take] at h1
  show (doAll (T.notes.take k) T.safe).length ≤ n
  omega
theorem Bm.syncP (h : Bm n c T) : Bm n c (syncPT T).2 := by
  have h1 := h.op true
  unfold syncPT
  dsimp only
  split
  · exact h1
  · have h2 := keepT_len h1 (opT T true).2.notes.length
    exact ⟨h1.now, by show (keepT (opT T true).2 (opT T true).2.notes.length).safe.length + 0 ≤ n; omega, h1.clock⟩
theorem Bm.rm (h : Bm n c T) (b : Bool) (p : Pth) : Bm (n + 1) (c + 1) (rmT T b p).2 := by
  have h1 := h.op b
  have h2 := h1.mono (Nat.le_succ n) (Nat.le_succ c)
  unfold rmT
  dsimp only
  split
  · exact h2
  · split
    · exact h2
    · refine Bm.note ?_ _
      exact ⟨h1.now, h1.sn, Nat.succ_le_succ h1.clock⟩
theorem Bm.new (R : Int) : Bm 0 0 (newT R) := ⟨Nat.le_refl _, Nat.le_refl _, Nat.le_refl _⟩
theorem steps_bm : ∀ (l : List (TT → Nat × TT)) {n c : Nat} {T : TT}, (∀ f ∈ l, ∀ n c T, Bm n c T → Bm (n + 1) (c + 1) (f T).2) → Bm n c T → Bm (n + l.length) (c + l.length) (stepsT l T).2
  | [], _, _, _, _, h => h
  | f :: r, n, c, T, hl, h => by
    have h1 := hl f (List.mem_cons_self ..) n c T h
    show Bm (n + (r.length + 1)) (c + (r.length + 1)) (if (f T).1 ≠ 0 then f T else stepsT r (f T).2).2
    split
    · exact h1.mono (by omega) (by omega)
    · have := steps_bm r (fun g hg => hl g (List.mem_cons_of_mem _ hg)) h1
      exact this.mono (by omega) (by omega)
theorem Bm.rem (h : Bm n c T) (q : Pth) : Bm (n + 1) (c + 1) (remT q T).2 := by
  unfold remT
  split
  · exact h.rm _ _
  · exact h.mono (Nat.le_succ _) (Nat.le_succ _)
end
end Wal
end Go.Abs
end
