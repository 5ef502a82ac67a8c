/- The abstract layer, parts 49 to 63. Conditions: none. -/
import Derived.Test.YthkdhdcbhpknnaaGreatDoorAb6
set_option linter.unusedVariables false
set_option linter.unusedSimpArgs false

section
namespace Go.Abs
open Go
set_option linter.unusedVariables false

abbrev Pth := List Nat
structure Fil where
 b : List Nat
 s : List Nat
 st : Nat
inductive Nte where
 | mk (p : Pth) (i : Nat)
 | ren (a b : Pth)
 | rm (p : Pth)
abbrev Ixs := List (Pth × Nat)
def doN : Nte → Ixs → Ixs
 | .mk p i, E => updS E p i
 | .ren a b, E => match valS E a with
  | some i => delS (updS E b i) a
  | none => E
 | .rm p, E => delS E p
def doAll : List Nte → Ixs → Ixs
 | [], E => E
 | n :: r, E => doAll r (doN n E)
structure TT where
 room : Int
 now : Ixs
 safe : Ixs
 notes : List Nte
 clock : Nat
 off : Bool
 fuse : Int
 files : List Fil
def newT (room : Int) : TT := ⟨room, [], [], [], 0, false, -1, []⟩
def TT.fil (T : TT) (i : Nat) : Fil := (T.files[i]?).getD ⟨[], [], 0⟩
def lenE (fs : List Fil) : Ixs → Nat
 | [] => 0
 | e :: r => ((fs[e.2]?).getD ⟨[], [], 0⟩).b.length + lenE fs r
def TT.used (T : TT) : Nat := lenE T.files T.now
def opT (T : TT) (ok : Bool) : Nat × TT :=
 if ok = false then (2, T) else if T.off = true then (11, T) else if T.fuse = 0 then (11, { T with off := true, fuse := -1 }) else if 0 < T.fuse then (0, { T with fuse := T.fuse - 1 }) else (0, T)
def noteT (T : TT) (n : Nte) : TT := { T with now := doN n T.now, notes := T.notes ++ [n] }
def tickT (T : TT) : TT := { T with clock := T.clock + 1 }
def makeT (T : TT) (ok : Bool) (p : Pth) : Nat × TT :=
 let r := opT T ok
 if r.1 ≠ 0 then r else match valS r.2.now p with
  | some _ => (7, r.2)
  | none => (0, noteT { r.2 with clock := r.2.clock + 1, files := r.2.files ++ [⟨[], [], r.2.clock + 1⟩] } (.mk p r.2.files.length))
def putT (T : TT) (ok : Bool) (p : Pth) (g : List Nat → List Nat) : Nat × TT :=
 let r := opT T ok
 if r.1 ≠ 0 then r else match valS r.2.now p with
  | none => (6, r.2)
  | some i => if T.room < (r.2.used : Int) - (r.2.fil i).b.length + (g (r.2.fil i).b).length then (10, r.2)
   else (0, { r.2 with clock := r.2.clock + 1, files := r.2.files.set i ⟨g (r.2.fil i).b, (r.2.fil i).s, r.2.clock + 1⟩ })
def syncT (T : TT) (ok : Bool) (p : Pth) : Nat × TT :=
 let r := opT T ok
 if r.1 ≠ 0 then r else match valS r.2.now p with
  | none => (6, r.2)
  | some i => (0, { r.2 with files := r.2.files.set i ⟨(r.2.fil i).b, (r.2.fil i).b, (r.2.fil i).st⟩ })
def keepT (T : TT) (n : Nat) : TT := { T with safe := doAll (T.notes.take n) T.safe, notes := [] }
def syncPT (T : TT) : Nat × TT :=
 let r := opT T true
 if r.1 ≠ 0 then r else (0, keepT r.2 r.2.notes.length)
def renT (T : TT) (ok : Bool) (a b : Pth) : Nat × TT :=
 let r := opT T ok
 if r.1 ≠ 0 then r else match valS r.2.now a with
  | none => (6, r.2)
  | some _ => if a = b then (0, r.2) else (0, noteT (tickT r.2) (.ren a b))
def rmT (T : TT) (ok : Bool) (p : Pth) : Nat × TT :=
 let r := opT T ok
 if r.1 ≠ 0 then r else match valS r.2.now p with
  | none => (6, r.2)
  | some _ => (0, noteT (tickT r.2) (.rm p))
def readT (T : TT) (ok : Bool) (p : Pth) : List Nat × Nat × TT :=
 let r := opT T ok
 if r.1 ≠ 0 then ([], r) else match valS r.2.now p with
  | none => ([], 6, r.2)
  | some i => ((r.2.fil i).b, 0, r.2)
def statT (T : TT) (p : Pth) : Nat × Nat × Bool := match valS T.now p with
 | none => (0, 0, false)
 | some i => ((T.fil i).b.length, (T.fil i).st, true)
def leftF (f : Fil) (part : Int) : List Nat :=
 if f.b.take f.s.length = f.s then f.b.take (f.s.length + (max 0 part).toNat % (f.b.length - f.s.length + 1)) else f.s
def hd0 : List Int → Int
 | [] => 0
 | a :: _ => a
def crash1 (was : Ixs) (T : TT) (s : Pth) (part : Int) : TT := match valS T.safe s with
 | none => T
 | some i =>
  let b := leftF (T.fil i) part
  if valS was s = some i ∧ b = (T.fil i).b then { T with now := updS T.now s T.files.length, files := T.files ++ [⟨b, b, (T.fil i).st⟩] }
  else { T with clock := T.clock + 1, now := updS T.now s T.files.length, files := T.files ++ [⟨b, b, T.clock + 1⟩] }
def crashL (was : Ixs) : TT → List Pth → List Int → TT
 | T, [], _ => T
 | T, s :: r, ps => crashL was (crash1 was T s (hd0 ps)) r ps.tail
def crashT (T : TT) (keep : Int) (parts : List Int) : TT :=
 let T1 := keepT T ((max 0 keep).toNat % (T.notes.length + 1))
 let T2 := crashL T.now { T1 with clock := T1.clock + 1, now := [] } (sortS (T1.safe.map (·.1))) parts
 {T2 with safe := T2.now, off := false, fuse := -1 }

/-! ### What is right of every tree -/
def NteOK (n : Nat) : Nte → Prop
 | .mk p i => i < n ∧ p.length ≤ 69
 | .ren a b => b.length ≤ 69
 | .rm _ => True
def IxOK (n : Nat) (E : Ixs) : Prop := onceS E ∧ ∀ k i, valS E k = some i → i < n ∧ k.length ≤ 69
def FilOK (f : Fil) : Prop := (∀ b ∈ f.b, b < 256) ∧ (∀ b ∈ f.s, b < 256) ∧ f.b.length ≤ 67108864 ∧ f.s.length ≤ 67108864
theorem FilOK.zero (n : Nat) : FilOK ⟨[], [], n⟩ := ⟨fun b hb => by simp at hb, fun b hb => by simp at hb, Nat.zero_le _, Nat.zero_le _⟩
structure Wf (T : TT) : Prop where
 now : IxOK T.files.length T.now
 safe : IxOK T.files.length T.safe
 notes : ∀ n ∈ T.notes, NteOK T.files.length n
 fuse : -1 ≤ T.fuse ∧ T.fuse ≤ 9223372036854775807
 room : 0 ≤ T.room ∧ T.room ≤ 67108864
 byt : ∀ f ∈ T.files, FilOK f
theorem IxOK.mono {n m : Nat} {E : Ixs} (h : IxOK n E) (hm : n ≤ m) : IxOK m E := ⟨h.1, fun k i hk => ⟨Nat.lt_of_lt_of_le (h.2 k i hk).1 hm, (h.2 k i hk).2⟩⟩
theorem NteOK.mono {n m : Nat} : ∀ {t : Nte}, NteOK n t → n ≤ m → NteOK m t
 | .mk _ _, h, hm => ⟨Nat.lt_of_lt_of_le h.1 hm, h.2⟩
 | .ren _ _, h, _ => h
 | .rm _, _, _ => trivial
theorem IxOK.upd {n : Nat} {E : Ixs} (h : IxOK n E) (p : Pth) {i : Nat} (hi : i < n) (hp : p.length ≤ 69) : IxOK n (updS E p i) := by
 refine ⟨onceS_upd _ _ _ h.1, fun k j hk => ?_⟩
 rw [valS_upd] at hk
 split at hk
 ·rename_i hh
  cases hk; exact ⟨hi, by rw [hh]; exact hp⟩
 ·exact h.2 k j hk
theorem IxOK.del {n : Nat} {E : Ixs} (h : IxOK n E) (p : Pth) : IxOK n (delS E p) := by
 refine ⟨onceS_del _ _ h.1, fun k j hk => ?_⟩
 rw [valS_del _ h.1] at hk
 split at hk
 ·cases hk
 ·exact h.2 k j hk
theorem IxOK.nil (n : Nat) : IxOK n [] := ⟨trivial, fun k i h => by cases h⟩
theorem IxOK.doN {n : Nat} {E : Ixs} (h : IxOK n E) : ∀ {t : Nte}, NteOK n t → IxOK n (doN t E)
 | .mk p i, ht => h.upd p ht.1 ht.2
 | .ren a b, ht => by
  show IxOK n (match valS E a with | some i => delS (updS E b i) a | none => E)
  cases hv : valS E a with
  | none => exact h
  | some i => exact (h.upd b (h.2 a i hv).1 ht).del a
 | .rm p, _ => h.del p
theorem IxOK.doAll {n : Nat} : ∀ {l : List Nte} {E : Ixs}, IxOK n E → (∀ t ∈ l, NteOK n t) → IxOK n (doAll l E)
 | [], _, h, _ => h
 | t :: r, E, h, hl => IxOK.doAll (l := r) (h.doN (hl t (List.mem_cons_self ..))) fun x hx => hl x (List.mem_cons_of_mem _ hx)
theorem Wf.new {room : Int} (h : 0 ≤ room ∧ room ≤ 67108864) : Wf (newT room) :=
 ⟨IxOK.nil _, IxOK.nil _, fun n hn => by simp [newT] at hn, ⟨Int.le_refl _, show (-1 : Int) ≤ 9223372036854775807 by decide⟩, h, fun f hf => by simp [newT] at hf⟩
theorem opT_eq (T : TT) (ok : Bool) : (opT T ok).2.room = T.room ∧ (opT T ok).2.now = T.now ∧ (opT T ok).2.safe = T.safe ∧ (opT T ok).2.notes = T.notes ∧ (opT T ok).2.clock = T.clock ∧ (opT T ok).2.files = T.files := by
 unfold opT
 repeat' split
 all_goals exact ⟨rfl, rfl, rfl, rfl, rfl, rfl⟩
theorem Wf.op {T : TT} (h : Wf T) (ok : Bool) : Wf (opT T ok).2 := by
 obtain ⟨h1, h2, h3, h4, h5, h6⟩ := h
 unfold opT
 repeat' split
 all_goals first
  | exact ⟨h1, h2, h3, h4, h5, h6⟩
  | exact ⟨h1, h2, h3, ⟨by decide, by decide⟩, h5, h6⟩
  | (refine ⟨h1, h2, h3, ⟨?_, ?_⟩, h5, h6⟩ <;> simp only <;> omega)
theorem Wf.tick {T : TT} (h : Wf T) : Wf (tickT T) := ⟨h.1, h.2, h.3, h.4, h.5, h.6⟩
theorem Wf.note {T : TT} (h : Wf T) {n : Nte} (hn : NteOK T.files.length n) : Wf (noteT T n) := by
 refine ⟨h.1.doN hn, h.2, fun t ht => ?_, h.4, h.5, h.6⟩
 rcases List.mem_append.1 ht with h1 | h1
 ·exact h.3 t h1
 ·rw [List.mem_singleton.1 h1]; exact hn
theorem Wf.grow {T : TT} (h : Wf T) (f : Fil) (hf : FilOK f) (c : Nat) : Wf { T with clock := c, files := T.files ++ [f] } := by
 have hle : T.files.length ≤ (T.files ++ [f]).length := by simp
 refine ⟨h.1.mono hle, h.2.mono hle, fun t ht => (h.3 t ht).mono hle, h.4, h.5, fun x hx => ?_⟩
 rcases List.mem_append.1 hx with h1 | h1
 ·exact h.6 x h1
 ·rw [List.mem_singleton.1 h1]; exact hf
theorem opT_ok {T : TT} {ok : Bool} (h : ¬ (opT T ok).1 ≠ 0) : ok = true := by
 cases ok
 ·exact absurd (show (opT T false).1 ≠ 0 by simp [opT]) h
 ·rfl
theorem Wf.make {T : TT} (h : Wf T) (ok : Bool) (p : Pth) (hp : ok = true → p.length ≤ 69) : Wf (makeT T ok p).2 := by
 unfold makeT
 dsimp only
 split
 ·exact h.op ok
 ·rename_i hh
  split
  ·exact h.op ok
  ·refine Wf.note (Wf.grow (h.op ok) _ (FilOK.zero _) _) ⟨?_, hp (opT_ok hh)⟩
   show (opT T ok).2.files.length < ((opT T ok).2.files ++ [_]).length
   simp
theorem fil_ok {T : TT} (h : Wf T) (i : Nat) : FilOK (T.fil i) := by
 unfold TT.fil
 cases hf : T.files[i]? with
 | none => exact FilOK.zero _
 | some f => exact h.6 f (List.mem_iff_getElem?.2 ⟨i, hf⟩)
theorem Wf.set {T : TT} (h : Wf T) (i : Nat) {f : Fil} (hf : FilOK f) (c : Nat) : Wf { T with clock := c, files := T.files.set i f } := by
 have e : (T.files.set i f).length = T.files.length := by simp
 refine ⟨by rw [e]; exact h.1, by rw [e]; exact h.2, by rw [e]; exact h.3, h.4, h.5, fun x hx => ?_⟩
 rcases List.mem_or_eq_of_mem_set hx with h1 | rfl
 ·exact h.6 x h1
 ·exact hf
theorem lenE_ge {fs : List Fil} : ∀ {E : Ixs} {p : Pth} {i : Nat}, valS E p = some i → ((fs[i]?).getD ⟨[], [], 0⟩).b.length ≤ lenE fs E
 | e :: r, p, i, h => by
  unfold valS at h
  unfold lenE
  by_cases hk : e.1 = p
  ·rw [if_pos hk] at h
   cases h
   omega
  ·rw [if_neg hk] at h
   have := lenE_ge (fs := fs) h
   omega
theorem lenE_le {fs : List Fil} {n : Nat} (hn : ∀ f ∈ fs, f.b.length ≤ n) : ∀ (E : Ixs), lenE fs E ≤ E.length * n
 | [] => by simp [lenE]
 | e :: r => by
  have ih := lenE_le hn r
  have h1 : ((fs[e.2]?).getD ⟨[], [], 0⟩).b.length ≤ n := by
   cases hf : fs[e.2]? with
   | none => exact Nat.zero_le _
   | some f => exact hn f (List.mem_iff_getElem?.2 ⟨_, hf⟩)
  unfold lenE
  rw [List.length_cons, Nat.succ_mul]
  omega
theorem Wf.put {T : TT} (h : Wf T) (ok : Bool) (p : Pth) {g : List Nat → List Nat} (hg : ∀ l, (∀ b ∈ l, b < 256) → ∀ b ∈ g l, b < 256) : Wf (putT T ok p g).2 := by
 have hw := h.op ok
 have hr := (opT_eq T ok).1
 unfold putT
 dsimp only
 split
 ·exact hw
 ·split
  ·exact hw
  ·rename_i i hv
   split
   ·exact hw
   ·rename_i hu
    have hge : ((opT T ok).2.fil i).b.length ≤ (opT T ok).2.used := lenE_ge hv
    have hl := h.room
    obtain ⟨q1, q2, q3, q4⟩ := fil_ok hw i
    refine Wf.set hw _ ?_ _
    refine ⟨hg _ q1, q2, ?_, q4⟩
    show (g ((opT T ok).2.fil i).b).length ≤ 67108864
    omega
theorem Wf.sync {T : TT} (h : Wf T) (ok : Bool) (p : Pth) : Wf (syncT T ok p).2 := by
 unfold syncT
 dsimp only
 split
 ·exact h.op ok
 ·split
  ·exact h.op ok
  ·rename_i i hv
   obtain ⟨q1, q2, q3, q4⟩ := fil_ok (h.op ok) i
   refine Wf.set (h.op ok) _ ?_ _
   exact ⟨q1, q1, q3, q3⟩
theorem Wf.keep {T : TT} (h : Wf T) (n : Nat) : Wf (keepT T n) :=
 ⟨h.1, h.2.doAll fun t ht => h.3 t (List.mem_of_mem_take ht), fun t ht => by simp [keepT] at ht, h.4, h.5, h.6⟩
theorem Wf.syncP {T : TT} (h : Wf T) : Wf (syncPT T).2 := by
 unfold syncPT
 dsimp only
 split
 ·exact h.op true
 ·exact (h.op true).keep _
theorem Wf.ren {T : TT} (h : Wf T) (ok : Bool) (a b : Pth) (hb : ok = true → b.length ≤ 69) : Wf (renT T ok a b).2 := by
 unfold renT
 dsimp only
 split
 ·exact h.op ok
 ·rename_i hh
  split
  ·exact h.op ok
  ·split
   ·exact h.op ok
   ·exact Wf.note (h.op ok).tick (hb (opT_ok hh))
theorem Wf.rm {T : TT} (h : Wf T) (ok : Bool) (p : Pth) : Wf (rmT T ok p).2 := by
 unfold rmT
 dsimp only
 split
 ·exact h.op ok
 ·split
  ·exact h.op ok
  ·exact Wf.note (h.op ok).tick trivial
theorem Wf.read {T : TT} (h : Wf T) (ok : Bool) (p : Pth) : Wf (readT T ok p).2.2 := by
 unfold readT
 dsimp only
 split
 ·exact h.op ok
 ·split <;> exact h.op ok
theorem leftF_ok {f : Fil} (h : FilOK f) (part : Int) (n : Nat) : FilOK ⟨leftF f part, leftF f part, n⟩ := by
 have key : (∀ b ∈ leftF f part, b < 256) ∧ (leftF f part).length ≤ 67108864 := by
  unfold leftF
  split
  ·refine ⟨fun b hb => h.1 b (List.mem_of_mem_take hb), ?_⟩
   have := h.2.2.1
   rw [List.length_take]
   omega
  ·exact ⟨h.2.1, h.2.2.2⟩
 exact ⟨key.1, key.1, key.2, key.2⟩
theorem Wf.crash1 {was : Ixs} {T : TT} (h : Wf T) (s : Pth) (part : Int) : Wf (crash1 was T s part) := by
 unfold Abs.crash1
 split
 ·exact h
 ·rename_i i hi
  have hs := (h.2.2 s i hi).2
  dsimp only
  split
  ·have h2 := Wf.grow h _ (leftF_ok (fil_ok h i) part (T.fil i).st) T.clock
   exact ⟨h2.1.upd _ (by simp) hs, h2.2, h2.3, h2.4, h2.5, h2.6⟩
  ·have h2 := Wf.grow h _ (leftF_ok (fil_ok h i) part (T.clock + 1)) (T.clock + 1)
   exact ⟨h2.1.upd _ (by simp) hs, h2.2, h2.3, h2.4, h2.5, h2.6⟩
theorem Wf.crashL {was : Ixs} : ∀ {l : List Pth} {T : TT} {ps : List Int}, Wf T → Wf (crashL was T l ps)
 | [], _, _, h => h
 | s :: r, T, ps, h => Wf.crashL (l := r) (h.crash1 s (hd0 ps))
theorem Wf.crash {T : TT} (h : Wf T) (keep : Int) (parts : List Int) : Wf (crashT T keep parts) := by
 unfold crashT
 dsimp only
 have h1 := h.keep ((max 0 keep).toNat % (T.notes.length + 1))
 have h2 : Wf { keepT T ((max 0 keep).toNat % (T.notes.length + 1)) with clock := (keepT T ((max 0 keep).toNat % (T.notes.length + 1))).clock + 1, now := [] } := ⟨IxOK.nil _, h1.2, h1.3, h1.4, h1.5, h1.6⟩
 have h3 := Wf.crashL (was := T.now) (l := sortS ((keepT T ((max 0 keep).toNat % (T.notes.length + 1))).safe.map (·.1))) (ps := parts) h2
 exact ⟨h3.1, h3.1, h3.3, ⟨Int.le_refl _, show (-1 : Int) ≤ 9223372036854775807 by decide⟩, h3.5, h3.6⟩
end Go.Abs
end

section
namespace Go.Abs
open Go
set_option linter.unusedVariables false
set_option linter.unusedSimpArgs false

section
variable {P : Program}
def Cs (h : AH) (v : AV) (l : List AV) : Prop :=
 (v = .nilsl ∧ l = []) ∨ ∃ id off c cs o t, v = .sl id off l.length 1 c ∧ h.get id = some (.cells cs o t) ∧ id < h.nx ∧ off + l.length ≤ cs.length ∧ (∀ k, c = some k → l.length ≤ k) ∧ (cs.drop off).take l.length = l
theorem Cs.fr {h h' : AH} {v : AV} {l : List AV} (hb : Cs h v l) (hf : Fr h h') : Cs h' v l := by
 rcases hb with h1 | ⟨id, off, c, cs, o, t, h1, h2, h3, h4, h5, h6⟩
 ·exact .inl h1
 ·exact .inr ⟨id, off, c, cs, o, t, h1, (hf.get id h3).trans h2, Nat.lt_of_lt_of_le h3 hf.nx, h4, h5, h6⟩
theorem cs_get {cs : List AV} {off : Nat} {l : List AV} (hx : (cs.drop off).take l.length = l) {i : Nat} {b : AV} (hi : l[i]? = some b) : cs[off + i]? = some b := by
 have hil : i < l.length := (List.getElem?_eq_some_iff.1 hi).1
 rw [← hx, List.getElem?_take_of_lt hil, List.getElem?_drop] at hi
 exact hi
theorem Cs.first {h : AH} {v : AV} {l : List AV} (hb : Cs h v l) : lenA v = some l.length ∧ firstA h 1 l.length v = some l := by
 rcases hb with ⟨rfl, rfl⟩ | ⟨id, off, c, cs, o, t, rfl, h2, h3, h4, h5, h6⟩
 ·exact ⟨rfl, rfl⟩
 ·refine ⟨rfl, ?_⟩
  rw [firstA_sl h2 (Nat.le_refl _) (by omega), Nat.mul_one, h6]
theorem Cs.one {h : AH} {v : AV} {l : List AV} (hb : Cs h v l) : oneA v = true ∧ sameAV 20 v v = true := by
 rcases hb with ⟨rfl, rfl⟩ | ⟨id, off, c, cs, o, t, rfl, _⟩
 ·exact ⟨rfl, rfl⟩
 ·exact ⟨rfl, by simp [sameAV]⟩
theorem Cs.len {h : AH} {v : AV} {l : List AV} {t e : TypeId} (hb : Cs h v l) (ht : P.underlying t = some (.slice e)) (g : AH) : evLen P g #[t] v = some (.int .i64 (l.length : Nat)) := by
 rcases hb with ⟨rfl, rfl⟩ | ⟨id, off, c, cs, o, tx, rfl, _⟩
 ·simp [evLen, ht]
 ·simp [evLen, ht]
theorem Cs.slice_to {h : AH} {v : AV} {l : List AV} {t e : TypeId} {hi : Nat} (hb : Cs h v l) (ht : P.underlying t = some (.slice e)) (he : tsize P e = some 1) (hhi : hi ≤ l.length) :
  ∃ v', (∀ h1, evSlice P h1 t v none (some (.int .i64 (hi : Nat))) none = some v') ∧ Cs h v' (l.take hi) ∧ (∀ id off n z c, v' = .sl id off n z c → ∃ off n z c, v = .sl id off n z c) := by
 rcases hb with ⟨rfl, rfl⟩ | ⟨id, off, c, cs, o, tx, rfl, h2, h3, h4, h5, h6⟩
 ·obtain rfl : hi = 0 := by simpa using hhi
  refine ⟨.nilsl, fun h1 => ?_, .inl ⟨rfl, rfl⟩, fun _ _ _ _ _ hh => by cases hh⟩
  simp [evSlice, ht, he, boundsA, boundA, upTo]
 ·have hlen : (l.take hi).length = hi := by simp; omega
  refine ⟨.sl id off hi 1 c, fun h1 => ?_, .inr ⟨id, off, c, cs, o, tx, ?_, h2, h3, ?_, ?_, ?_⟩, fun _ _ _ _ _ hh => by cases hh; exact ⟨_, _, _, _, rfl⟩⟩
  ·have hu : upTo ((hi : Nat) : Int) l.length = some hi := by rw [upTo_of (by omega) (by omega)]; simp
   cases c with
   | none => simp [evSlice, ht, he, boundsA, boundA, hu]
   | some k =>
    have hk := h5 k rfl
    have hu2 : upTo ((hi : Nat) : Int) k = some hi := by rw [upTo_of (by omega) (by omega)]; simp
    simp [evSlice, ht, he, boundsA, boundA, hu, hu2]
  ·rw [hlen]
  ·rw [hlen]; omega
  ·intro k hk
   rw [hlen]
   have := h5 k hk
   omega
  ·rw [hlen]
   have := congrArg (List.take hi) h6
   rw [List.take_take, Nat.min_eq_left hhi] at this
   exact this
def Co (n0 : Nat) (h : AH) (v : AV) (l : List AV) : Prop :=
 ∃ id c cs tx, v = .sl id 0 l.length 1 c ∧ h.get id = some (.cells cs true tx) ∧ id < h.nx ∧ n0 ≤ id ∧ cs.take l.length = l ∧ l.length ≤ cs.length ∧ (c = none ∨ c = some l.length)
theorem Co.cs {n0 : Nat} {h : AH} {v : AV} {l : List AV} (hb : Co n0 h v l) : Cs h v l := by
 obtain ⟨id, c, cs, tx, h1, h2, h3, h4, h5, h6, h7⟩ := hb
 refine .inr ⟨id, 0, c, cs, true, tx, h1, h2, h3, by omega, fun k hk => ?_, by rw [List.drop_zero]; exact h5⟩
 rcases h7 with rfl | rfl
 ·cases hk
 ·cases hk; exact Nat.le_refl _
theorem Co.fr {n0 : Nat} {h h' : AH} {v : AV} {l : List AV} (hb : Co n0 h v l) (hf : Fr h h') : Co n0 h' v l := by
 obtain ⟨id, c, cs, tx, h1, h2, h3, h4, h5⟩ := hb
 exact ⟨id, c, cs, tx, h1, (hf.get id h3).trans h2, Nat.lt_of_lt_of_le h3 hf.nx, h4, h5⟩
theorem Co.low {n0 n1 : Nat} {h : AH} {v : AV} {l : List AV} (hb : Co n0 h v l) (hn : n1 ≤ n0) : Co n1 h v l := by
 obtain ⟨id, c, cs, tx, h1, h2, h3, h4, h5⟩ := hb
 exact ⟨id, c, cs, tx, h1, h2, h3, Nat.le_trans hn h4, h5⟩
theorem Co.app {h0 h : AH} {v x : AV} {l m : List AV} {st xt e : TypeId} {d : TypeDesc} {bt : Nat} (hu : P.underlying st = some (.slice e)) (hd : P.underlying xt = some d) (hni : notInt d = true) (hi : appI P e = some (1, bt)) (hbt : bt ≤ 64) (hb : Co h0.nx h v l) (hn : lenA x = some m.length) (hnew : firstA h 1 m.length x = some m) (hall : m.all oneA = true) (hf : Fr h0 h) (hl : l.length + m.length ≤ 1073741824) :
  ∃ v' h', evAppend P h #[st, xt] v x = some (.val v' h') ∧ Fr h0 h' ∧ Co h0.nx h' v' (l ++ m) ∧ oneA v' = true := by
 obtain ⟨id, c, cs, tx, rfl, h2, h3, h4, h5, h6, h7⟩ := hb
 have hold : firstA h 1 l.length (.sl id 0 l.length 1 c) = some l := by
  rw [firstA_sl h2 (Nat.le_refl _) (by omega), List.drop_zero, Nat.mul_one, h5]
 have hm : (2 * (l.length + m.length) + 1000) * bt ≤ (2 * (l.length + m.length) + 1000) * 64 := Nat.mul_le_mul_left _ hbt
 rw [evAppend_eq hu hd hni hi hn hnew rfl hold hall (Nat.le_trans hm (by omega)) (by omega) rfl]
 by_cases hm : m.length = 0
 ·rw [if_pos hm]
  have : m = [] := List.length_eq_zero_iff.1 hm
  subst this
  exact ⟨_, _, rfl, hf, ⟨id, c, cs, tx, by simp, h2, h3, h4, by simpa using h5, by simpa using h6, by simpa using h7⟩, rfl⟩
 ·rw [if_neg hm]
  have hlm : (l ++ m).length = l.length + m.length := by simp
  have fin : ∀ (g : AH) (tf : Bool), Fr h0 g → g.nx = h.nx → ∃ v' h', newCells g (l ++ m) tf (fun id => .sl id 0 (l.length + m.length) 1 none) = some (.val v' h') ∧ Fr h0 h' ∧ Co h0.nx h' v' (l ++ m) ∧ oneA v' = true := fun g tf hg hgn =>
   ⟨_, _, rfl, hg.news _, ⟨g.nx, none, l ++ m, tf, by rw [hlm], AH.get_new_eq rfl, Nat.lt_succ_self _, hg.nx, List.take_length, Nat.le_refl _, .inl rfl⟩, rfl⟩
  rcases h7 with rfl | rfl
  ·simp only
   rw [if_pos (by simp [ownBlock, h2])]
   exact fin _ _ (hf.del h4) rfl
  ·simp only
   rw [if_pos (by omega)]
   exact fin _ _ hf rfl
theorem Ss.cs {n0 : Nat} {h : AH} {v : AV} {l : List (List Nat)} (hb : Ss n0 h v l) : Cs h v (l.map AV.str) := by
 rcases hb with ⟨rfl, rfl⟩ | ⟨id, rfl, h2, h3, h4⟩
 ·exact .inl ⟨rfl, rfl⟩
 ·exact .inr ⟨id, 0, none, l.map AV.str, true, false, by simp, h2, h3, by simp, fun k hk => (by cases hk), by rw [List.drop_zero, List.take_length]⟩
def Tx (K : Nat → Nat) (h : AH) (v : AV) (l : List (List Nat)) : Prop := Cs h v (l.map AV.str) ∧ ∀ id off n z c, v = .sl id off n z c → K id = 0
theorem Tx.fr {K : Nat → Nat} {h h' : AH} {v : AV} {l : List (List Nat)} (hb : Tx K h v l) (hf : Fr h h') : Tx K h' v l := ⟨hb.1.fr hf, hb.2⟩
theorem Tx.len {K : Nat → Nat} {h : AH} {v : AV} {l : List (List Nat)} {t e : TypeId} (hb : Tx K h v l) (ht : P.underlying t = some (.slice e)) (g : AH) : evLen P g #[t] v = some (.int .i64 (l.length : Nat)) := by
 have := hb.1.len ht g
 rwa [List.length_map] at this
theorem Tx.get {K : Nat → Nat} {h : AH} {v : AV} {l : List (List Nat)} (hb : Tx K h v l) {i : Nat} {s : List Nat} (hi : l[i]? = some s) : ∃ id off c cs o t, v = .sl id off l.length 1 c ∧ h.get id = some (.cells cs o t) ∧ id < h.nx ∧ cs[off + i]? = some (.str s) := by
 have hil : i < l.length := (List.getElem?_eq_some_iff.1 hi).1
 rcases hb.1 with ⟨_, h1⟩ | ⟨id, off, c, cs, o, t, h1, h2, h3, h4, h5, h6⟩
 ·have : l = [] := List.map_eq_nil_iff.1 h1
  rw [this] at hil; simp at hil
 ·rw [List.length_map] at h1
  exact ⟨id, off, c, cs, o, t, h1, h2, h3, cs_get h6 (by simp [hi])⟩
theorem Tx.of {K : Nat → Nat} {n0 : Nat} {h : AH} {v : AV} {l : List (List Nat)} (hb : Ss n0 h v l) (top : ∀ j, n0 ≤ j → K j = 0) : Tx K h v l := by
 refine ⟨hb.cs, fun id off n z c hh => ?_⟩
 rcases hb with ⟨h1, _⟩ | ⟨id', h1, h2, h3, h4⟩
 ·rw [h1] at hh; cases hh
 ·rw [h1] at hh
  cases hh
  exact top _ h4
theorem Tx.own {K : Nat → Nat} {n0 : Nat} {h : AH} {v : AV} {l : List (List Nat)} (hb : Co n0 h v (l.map AV.str)) (top : ∀ j, n0 ≤ j → K j = 0) : Tx K h v l := by
 refine ⟨hb.cs, fun id off n z c hh => ?_⟩
 obtain ⟨id', c', cs, tx, h1, h2, h3, h4, h5⟩ := hb
 rw [h1] at hh
 cases hh
 exact top _ h4
theorem Tx.take {K : Nat → Nat} {h : AH} {v : AV} {l : List (List Nat)} {t e : TypeId} {hi : Nat} (hb : Tx K h v l) (ht : P.underlying t = some (.slice e)) (he : tsize P e = some 1) (hhi : hi ≤ l.length) :
  ∃ v', (∀ h1, evSlice P h1 t v none (some (.int .i64 (hi : Nat))) none = some v') ∧ Tx K h v' (l.take hi) := by
 obtain ⟨v', h1, h2, h3⟩ := hb.1.slice_to ht he (by rw [List.length_map]; exact hhi)
 refine ⟨v', h1, by rw [List.map_take]; exact h2, fun id off n z c hh => ?_⟩
 obtain ⟨_, _, _, _, e⟩ := h3 id off n z c hh
 exact hb.2 _ _ _ _ _ e
end
end Go.Abs
end

section
namespace Go.Abs
open Go
set_option linter.unusedVariables false
set_option linter.unusedSimpArgs false

namespace Wal
def stepsT : List (TT → Nat × TT) → TT → Nat × TT
 | [], T => (0, T)
 | f :: r, T => if (f T).1 ≠ 0 then f T else stepsT r (f T).2
def remT (q : Pth) (T : TT) : Nat × TT := if (statT T q).2.2 = true then rmT T true q else (0, T)
def nf (φ : Int) : Int := if 0 < φ then φ - 1 else φ
section
variable {R : Int} {N Sf : Ixs} {nt : List Nte} {c : Nat} {φ : Int} {fs : List Fil} {p q : Pth}
theorem opS (h : φ ≠ 0) : opT ⟨R, N, Sf, nt, c, false, φ, fs⟩ true = (0, ⟨R, N, Sf, nt, c, false, nf φ, fs⟩) := by
 by_cases h2 : 0 < φ
 ·simp [opT, nf, h, h2]
 ·simp [opT, nf, h, h2]
theorem putS (h : φ ≠ 0) {i : Nat} {f : Fil} (hv : valS N q = some i) (hf : fs[i]? = some f) {g : List Nat → List Nat} (hg : ((lenE fs N : Nat) : Int) - f.b.length + (g f.b).length ≤ R) :
  putT ⟨R, N, Sf, nt, c, false, φ, fs⟩ true q g = (0, ⟨R, N, Sf, nt, c + 1, false, nf φ, fs.set i ⟨g f.b, f.s, c + 1⟩⟩) := by
 have : ¬ R < ((lenE fs N : Nat) : Int) - f.b.length + (g f.b).length := by omega
 simp [putT, opS h, hv, TT.used, TT.fil, hf, this]
end
theorem updS_len {α : Type} : ∀ (E : List (List Nat × α)) (k : List Nat) (v : α), (updS E k v).length ≤ E.length + 1
 | [], _, _ => Nat.le_refl _
 | e :: r, k, v => by
  unfold updS
  split
  ·simp
  ·have := updS_len r k v
   simp; omega
theorem delS_len {α : Type} : ∀ (E : List (List Nat × α)) (k : List Nat), (delS E k).length ≤ E.length
 | [], _ => Nat.le_refl _
 | e :: r, k => by
  unfold delS
  split
  ·simp
  ·have := delS_len r k
   simp; omega
theorem doN_len (t : Nte) (E : Ixs) : (doN t E).length ≤ E.length + 1 := by
 cases t with
 | mk p i => exact updS_len _ _ _
 | ren a b =>
  show (match valS E a with | some i => delS (updS E b i) a | none => E).length ≤ _
  cases valS E a with
  | none => exact Nat.le_succ _
  | some i => exact Nat.le_trans (delS_len _ _) (updS_len _ _ _)
 | rm p => exact Nat.le_succ_of_le (delS_len _ _)
theorem doAll_len : ∀ (l : List Nte) (E : Ixs), (doAll l E).length ≤ E.length + l.length
 | [], E => Nat.le_refl _
 | t :: r, E => by
  have h1 := doAll_len r (doN t E)
  have h2 := doN_len t E
  show (doAll r (doN t E)).length ≤ E.length + (r.length + 1)
  omega
structure Bm (n c : Nat) (T : TT) : Prop where
 now : T.now.length ≤ n
 sn : T.safe.length + T.notes.length ≤ n
 clock : T.clock ≤ c
section
variable {n c : Nat} {T : TT}
theorem Bm.mono (h : Bm n c T) {m d : Nat} (h1 : n ≤ m) (h2 : c ≤ d) : Bm m d T := ⟨Nat.le_trans h.now h1, Nat.le_trans h.sn h1, Nat.le_trans h.clock h2⟩
theorem Bm.op (h : Bm n c T) (b : Bool) : Bm n c (opT T b).2 := by
 obtain ⟨e1, e2, e3, e4, e5, e6⟩ := opT_eq T b
 exact ⟨by rw [e2]; exact h.now, by rw [e3, e4]; exact h.sn, by rw [e5]; exact h.clock⟩
theorem Bm.note (h : Bm n c T) (t : Nte) : Bm (n + 1) c (noteT T t) := by
 have h1 := doN_len t T.now
 have := h.now; have := h.sn
 exact ⟨by show (doN t T.now).length ≤ n + 1; omega, by show T.safe.length + (T.notes ++ [t]).length ≤ n + 1; simp; omega, h.clock⟩
theorem Bm.make (h : Bm n c T) (b : Bool) (p : Pth) : Bm (n + 1) (c + 1) (makeT T b p).2 := by
 unfold makeT
 dsimp only
 split
 ·exact (h.op _).mono (Nat.le_succ _) (Nat.le_succ _)
 ·split
  ·exact (h.op _).mono (Nat.le_succ _) (Nat.le_succ _)
  ·have h1 := h.op b
   refine Bm.note ?_ _
   exact ⟨h1.now, h1.sn, Nat.succ_le_succ h1.clock⟩
theorem Bm.put (h : Bm n c T) (b : Bool) (p : Pth) (g : List Nat → List Nat) : Bm n (c + 1) (putT T b p g).2 := by
 have h1 := h.op b
 have h2 := h1.mono (Nat.le_refl n) (Nat.le_succ c)
 unfold putT
 dsimp only
 split
 ·exact h2
 ·split
  ·exact h2
  ·split
   ·exact h2
   ·exact ⟨h1.now, h1.sn, Nat.succ_le_succ h1.clock⟩
theorem Bm.sync (h : Bm n c T) (b : Bool) (p : Pth) : Bm n c (syncT T b p).2 := by
 have h1 := h.op b
 unfold syncT
 dsimp only
 split
 ·exact h1
 ·split
  ·exact h1
  ·exact ⟨h1.now, h1.sn, h1.clock⟩
theorem keepT_len (h : Bm n c T) (k : Nat) : (keepT T k).safe.length ≤ n := by
 have h1 := doAll_len (T.notes.take k) T.safe
 have h2 := h.sn
 rw [List.length_take] at h1
 show (doAll (T.notes.take k) T.safe).length ≤ n
 omega
theorem Bm.syncP (h : Bm n c T) : Bm n c (syncPT T).2 := by
 have h1 := h.op true
 unfold syncPT
 dsimp only
 split
 ·exact h1
 ·have h2 := keepT_len h1 (opT T true).2.notes.length
  exact ⟨h1.now, by show (keepT (opT T true).2 (opT T true).2.notes.length).safe.length + 0 ≤ n; omega, h1.clock⟩
theorem Bm.rm (h : Bm n c T) (b : Bool) (p : Pth) : Bm (n + 1) (c + 1) (rmT T b p).2 := by
 have h1 := h.op b
 have h2 := h1.mono (Nat.le_succ n) (Nat.le_succ c)
 unfold rmT
 dsimp only
 split
 ·exact h2
 ·split
  ·exact h2
  ·refine Bm.note ?_ _
   exact ⟨h1.now, h1.sn, Nat.succ_le_succ h1.clock⟩
theorem Bm.new (R : Int) : Bm 0 0 (newT R) := ⟨Nat.le_refl _, Nat.le_refl _, Nat.le_refl _⟩
theorem steps_bm : ∀ (l : List (TT → Nat × TT)) {n c : Nat} {T : TT}, (∀ f ∈ l, ∀ n c T, Bm n c T → Bm (n + 1) (c + 1) (f T).2) → Bm n c T → Bm (n + l.length) (c + l.length) (stepsT l T).2
 | [], _, _, _, _, h => h
 | f :: r, n, c, T, hl, h => by
  have h1 := hl f (List.mem_cons_self ..) n c T h
  show Bm (n + (r.length + 1)) (c + (r.length + 1)) (if (f T).1 ≠ 0 then f T else stepsT r (f T).2).2
  split
  ·exact h1.mono (by omega) (by omega)
  ·have := steps_bm r (fun g hg => hl g (List.mem_cons_of_mem _ hg)) h1
   exact this.mono (by omega) (by omega)
theorem Bm.rem (h : Bm n c T) (q : Pth) : Bm (n + 1) (c + 1) (remT q T).2 := by
 unfold remT
 split
 ·exact h.rm _ _
 ·exact h.mono (Nat.le_succ _) (Nat.le_succ _)
end
end Wal
end Go.Abs
end

section
namespace Go.Abs
open Go Go.Abs.Wal
set_option linter.unusedVariables false

/-! ### The order of texts -/
theorem lessA_irr : ∀ x : List Nat, lessA x x = false
 | [] => rfl
 | a :: x => by
  have : Nat.blt a a = false := by rw [Bool.eq_false_iff]; intro h; rw [Nat.blt_eq] at h; exact absurd h (Nat.lt_irrefl a)
  unfold lessA
  rw [this, lessA_irr x]; simp
theorem lessA_cons (a b : Nat) (x y : List Nat) : lessA (a :: x) (b :: y) = true ↔ a < b ∨ (a = b ∧ lessA x y = true) := by
 have e : lessA (a :: x) (b :: y) = (Nat.blt a b || (Nat.beq a b && lessA x y)) := rfl
 rw [e]
 simp [Nat.blt_eq, Nat.beq_eq]
theorem lessA_tr : ∀ x y z : List Nat, lessA x y = true → lessA y z = true → lessA x z = true
 | _, [], _, h, _ => by cases ‹List Nat› <;> simp [lessA] at h
 | _, _ :: _, [], _, h => by simp [lessA] at h
 | [], _ :: _, _ :: _, _, _ => rfl
 | a :: x, b :: y, c :: z, h1, h2 => by
  rw [lessA_cons] at *
  rcases h1 with h1 | ⟨h1, h3⟩ <;> rcases h2 with h2 | ⟨h2, h4⟩
  ·exact .inl (by omega)
  ·exact .inl (by omega)
  ·exact .inl (by omega)
  ·exact .inr ⟨by omega, lessA_tr x y z h3 h4⟩
theorem lessA_tot : ∀ x y : List Nat, x ≠ y → lessA x y = false → lessA y x = true
 | [], [], h, _ => absurd rfl h
 | [], _ :: _, _, h => by simp [lessA] at h
 | _ :: _, [], _, _ => rfl
 | a :: x, b :: y, h, h1 => by
  rw [lessA_cons]
  have h2 : ¬ (a < b ∨ (a = b ∧ lessA x y = true)) := by rw [← lessA_cons, h1]; simp
  by_cases hab : a = b
  ·subst hab
   have hxy : x ≠ y := fun hh => h (by rw [hh])
   have : lessA x y = false := by
    cases hl : lessA x y
    ·rfl
    ·exact absurd (.inr ⟨rfl, hl⟩) h2
   exact .inr ⟨rfl, lessA_tot x y hxy this⟩
  ·exact .inl (by omega)
theorem lessA_asym {x y : List Nat} (h : lessA x y = true) : lessA y x = false := by
 cases hl : lessA y x
 ·rfl
 ·have := lessA_tr _ _ _ h hl
  rw [lessA_irr] at this; cases this
theorem lessA_ne {x y : List Nat} (h : lessA x y = true) : x ≠ y := fun hh => by rw [hh, lessA_irr] at h; cases h

/-! ### Rising lists of texts -/
def riseS : List (List Nat) → Prop
 | [] => True
 | a :: l => (∀ x ∈ l, lessA a x = true) ∧ riseS l
theorem insS_mem_iff {a x : List Nat} : ∀ {l : List (List Nat)}, x ∈ insS a l ↔ x = a ∨ x ∈ l
 | [] => by simp [insS]
 | b :: l => by
  unfold insS
  cases lessA b a
  ·simp [cond]
  ·simp only [cond, List.mem_cons]
   rw [insS_mem_iff (l := l)]
   constructor
   ·rintro (h | h | h)
    ·exact .inr (.inl h)
    ·exact .inl h
    ·exact .inr (.inr h)
   ·rintro (h | h | h)
    ·exact .inr (.inl h)
    ·exact .inl h
    ·exact .inr (.inr h)
theorem sortS_mem_iff {x : List Nat} : ∀ {l : List (List Nat)}, x ∈ sortS l ↔ x ∈ l
 | [] => by simp [sortS]
 | b :: l => by
  unfold sortS
  rw [insS_mem_iff, sortS_mem_iff (l := l)]
  simp
theorem riseS_ins {a : List Nat} : ∀ {l : List (List Nat)}, riseS l → a ∉ l → riseS (insS a l)
 | [], _, _ => ⟨fun x hx => by simp at hx, trivial⟩
 | b :: l, h, hn => by
  unfold insS
  cases hb : lessA b a
  ·have hab : lessA a b = true := lessA_tot b a (fun hh => hn (by simp [hh])) hb
   exact ⟨fun x hx => by
    rcases List.mem_cons.1 hx with rfl | hx
    ·exact hab
    ·exact lessA_tr _ _ _ hab (h.1 x hx), h⟩
  ·refine ⟨fun x hx => ?_, riseS_ins h.2 (fun hh => hn (by simp [hh]))⟩
   rcases insS_mem_iff.1 hx with rfl | hx
   ·exact hb
   ·exact h.1 x hx
theorem riseS_sort : ∀ {l : List (List Nat)}, l.Nodup → riseS (sortS l)
 | [], _ => trivial
 | a :: l, h => by
  rw [List.nodup_cons] at h
  exact riseS_ins (riseS_sort h.2) (fun hh => h.1 (sortS_mem_iff.1 hh))
theorem riseS_eq : ∀ {l m : List (List Nat)}, riseS l → riseS m → (∀ x, x ∈ l ↔ x ∈ m) → l = m
 | [], [], _, _, _ => rfl
 | [], b :: m, _, _, h => absurd ((h b).2 (by simp)) (by simp)
 | a :: l, [], _, _, h => absurd ((h a).1 (by simp)) (by simp)
 | a :: l, b :: m, hl, hm, h => by
  have hab : a = b := by
   by_cases hh : a = b
   ·exact hh
   ·have h1 : a ∈ m := by
     have := (h a).1 (by simp)
     rcases List.mem_cons.1 this with h1 | h1
     ·exact absurd h1 hh
     ·exact h1
    have h2 : b ∈ l := by
     have := (h b).2 (by simp)
     rcases List.mem_cons.1 this with h1 | h1
     ·exact absurd h1.symm hh
     ·exact h1
    have h3 := lessA_asym (hm.1 a h1)
    rw [hl.1 b h2] at h3; cases h3
  subst hab
  have : l = m := riseS_eq hl.2 hm.2 fun x => by
   constructor
   ·intro hx
    have := (h x).1 (by simp [hx])
    rcases List.mem_cons.1 this with h1 | h1
    ·exact absurd h1.symm (lessA_ne (hl.1 x hx))
    ·exact h1
   ·intro hx
    have := (h x).2 (by simp [hx])
    rcases List.mem_cons.1 this with h1 | h1
    ·exact absurd h1.symm (lessA_ne (hm.1 x hx))
    ·exact h1
  rw [this]

/-! ### Rising lists of texts and numbers -/
def riseE : Ixs → Prop
 | [] => True
 | e :: r => (∀ x ∈ r, lessA e.1 x.1 = true) ∧ riseE r
def putL : Ixs → Pth → Nat → Ixs
 | [], k, v => [(k, v)]
 | e :: r, k, v => if lessA e.1 k = true then e :: putL r k v else if e.1 = k then (k, v) :: r else (k, v) :: e :: r
theorem valS_none_mem {α : Type} {k : List Nat} : ∀ {E : List (List Nat × α)}, (∀ e ∈ E, e.1 ≠ k) → valS E k = none
 | [], _ => rfl
 | e :: r, h => by
  unfold valS
  rw [if_neg (h e (by simp))]
  exact valS_none_mem fun x hx => h x (by simp [hx])
theorem valS_mem_iff {α : Type} {k : List Nat} : ∀ {E : List (List Nat × α)}, k ∈ E.map (·.1) ↔ valS E k ≠ none
 | [] => by simp [valS]
 | e :: r => by
  unfold valS
  by_cases h : e.1 = k
  ·simp [h]
  ·rw [if_neg h, List.map_cons, List.mem_cons, valS_mem_iff (E := r)]
   constructor
   ·rintro (h1 | h1)
    ·exact absurd h1.symm h
    ·exact h1
   ·exact .inr
theorem riseE_once : ∀ {E : Ixs}, riseE E → onceS E
 | [], _ => trivial
 | e :: r, h => ⟨valS_none_mem fun x hx => fun hh => lessA_ne (h.1 x hx) hh.symm, riseE_once h.2⟩
theorem riseE_keys : ∀ {E : Ixs}, riseE E → riseS (E.map (·.1))
 | [], _ => trivial
 | e :: r, h => ⟨fun x hx => by
  obtain ⟨y, hy, rfl⟩ := List.mem_map.1 hx
  exact h.1 y hy, riseE_keys h.2⟩
theorem once_nodup {α : Type} : ∀ {E : List (List Nat × α)}, onceS E → (E.map (·.1)).Nodup
 | [], _ => List.nodup_nil
 | e :: r, h => by
  rw [List.map_cons, List.nodup_cons]
  exact ⟨fun hh => (valS_mem_iff.1 hh) h.1, once_nodup h.2⟩
theorem putL_mem {k : Pth} {v : Nat} : ∀ {E : Ixs} {x : Pth × Nat}, x ∈ putL E k v → x = (k, v) ∨ x ∈ E
 | [], x, h => by
  simp only [putL, List.mem_singleton] at h
  exact .inl h
 | e :: r, x, h => by
  unfold putL at h
  split at h
  ·rcases List.mem_cons.1 h with h | h
   ·exact .inr (by simp [h])
   ·rcases putL_mem h with h | h
    ·exact .inl h
    ·exact .inr (by simp [h])
  ·split at h
   ·rcases List.mem_cons.1 h with h | h
    ·exact .inl h
    ·exact .inr (by simp [h])
   ·rcases List.mem_cons.1 h with h | h
    ·exact .inl h
    ·exact .inr h
theorem riseE_put {k : Pth} {v : Nat} : ∀ {E : Ixs}, riseE E → riseE (putL E k v)
 | [], _ => ⟨fun x hx => by simp at hx, trivial⟩
 | e :: r, h => by
  unfold putL
  split
  ·rename_i h1
   refine ⟨fun x hx => ?_, riseE_put h.2⟩
   rcases putL_mem hx with rfl | hx
   ·exact h1
   ·exact h.1 x hx
  ·rename_i h1
   split
   ·rename_i h2
    exact ⟨fun x hx => by rw [← h2]; exact h.1 x hx, h.2⟩
   ·rename_i h2
    have h3 : lessA k e.1 = true := lessA_tot _ _ h2 (by simpa using h1)
    exact ⟨fun x hx => by
     rcases List.mem_cons.1 hx with rfl | hx
     ·exact h3
     ·exact lessA_tr _ _ _ h3 (h.1 x hx), h⟩
theorem valS_putL {k : Pth} {v : Nat} (j : Pth) : ∀ {E : Ixs}, riseE E → valS (putL E k v) j = if j = k then some v else valS E j
 | [], _ => by
  unfold putL valS
  by_cases h : j = k
  ·rw [if_pos h, if_pos h.symm]
  ·rw [if_neg h, if_neg (fun hh => h hh.symm)]
   rfl
 | e :: r, h => by
  unfold putL
  split
  ·rename_i h1
   unfold valS
   by_cases h2 : e.1 = j
   ·have : ¬ j = k := fun hh => lessA_ne h1 (h2.trans hh)
    rw [if_pos h2, if_pos h2, if_neg this]
   ·rw [if_neg h2, if_neg h2]
    exact valS_putL j h.2
  ·split
   ·rename_i h2
    have e1 : valS ((k, v) :: r) j = if k = j then some v else valS r j := rfl
    have e2 : valS (e :: r) j = if e.1 = j then some e.2 else valS r j := rfl
    rw [e1, e2]
    by_cases hj : j = k
    ·rw [if_pos hj, if_pos hj.symm]
    ·rw [if_neg hj, if_neg (fun hh => hj hh.symm), if_neg (fun hh => hj (hh.symm.trans h2))]
   ·have e1 : valS ((k, v) :: e :: r) j = if k = j then some v else valS (e :: r) j := rfl
    rw [e1]
    by_cases hj : j = k
    ·rw [if_pos hj, if_pos hj.symm]
    ·rw [if_neg hj, if_neg (fun hh => hj hh.symm)]
theorem delS_mem {α : Type} {k : List Nat} {x : List Nat × α} : ∀ {E : List (List Nat × α)}, x ∈ delS E k → x ∈ E
 | [], h => h
 | e :: r, h => by
  unfold delS at h
  split at h
  ·exact List.mem_cons_of_mem _ h
  ·rcases List.mem_cons.1 h with h | h
   ·simp [h]
   ·exact List.mem_cons_of_mem _ (delS_mem h)
theorem riseE_del {k : Pth} : ∀ {E : Ixs}, riseE E → riseE (delS E k)
 | [], _ => trivial
 | e :: r, h => by
  unfold delS
  split
  ·exact h.2
  ·exact ⟨fun x hx => h.1 x (delS_mem hx), riseE_del h.2⟩

/-! ### A rising list says what a map says -/
structure SE (A E : Ixs) : Prop where
 rise : riseE A
 once : onceS E
 val : ∀ k, valS A k = valS E k
theorem SE.nil : SE [] [] := ⟨trivial, trivial, fun _ => rfl⟩
theorem SE.upd {A E : Ixs} (h : SE A E) (k : Pth) (v : Nat) : SE (putL A k v) (updS E k v) :=
 ⟨riseE_put h.rise, onceS_upd _ _ _ h.once, fun j => by rw [valS_putL j h.rise, valS_upd, h.val]⟩
theorem SE.del {A E : Ixs} (h : SE A E) (k : Pth) : SE (delS A k) (delS E k) :=
 ⟨riseE_del h.rise, onceS_del _ _ h.once, fun j => by rw [valS_del _ (riseE_once h.rise), valS_del _ h.once, h.val]⟩
theorem SE.keys {A E : Ixs} (h : SE A E) : sortS (E.map (·.1)) = A.map (·.1) := by
 refine riseS_eq (riseS_sort (once_nodup h.once)) (riseE_keys h.rise) fun x => ?_
 rw [sortS_mem_iff, valS_mem_iff, valS_mem_iff, h.val]
theorem lenE_del {fs : List Fil} {k : Pth} {i : Nat} : ∀ {A : Ixs}, valS A k = some i → lenE fs A = ((fs[i]?).getD ⟨[], [], 0⟩).b.length + lenE fs (delS A k)
 | [], h => by cases h
 | e :: r, h => by
  unfold valS at h
  unfold delS
  by_cases he : e.1 = k
  ·rw [if_pos he] at h ⊢
   cases h
   rfl
  ·rw [if_neg he] at h ⊢
   have e1 : lenE fs (e :: r) = ((fs[e.2]?).getD ⟨[], [], 0⟩).b.length + lenE fs r := rfl
   have e2 : lenE fs (e :: delS r k) = ((fs[e.2]?).getD ⟨[], [], 0⟩).b.length + lenE fs (delS r k) := rfl
   rw [e1, e2, lenE_del h]
   omega
theorem same_del {A r : Ixs} {e : Pth × Nat} (ha : onceS A) (hr : valS r e.1 = none ∧ onceS r) (h : ∀ k, valS A k = valS (e :: r) k) (k : Pth) : valS (delS A e.1) k = valS r k := by
 rw [valS_del _ ha, h k]
 have e1 : valS (e :: r) k = if e.1 = k then some e.2 else valS r k := rfl
 rw [e1]
 by_cases hk : k = e.1
 ·rw [if_pos hk, hk, hr.1]
 ·rw [if_neg hk, if_neg (fun hh => hk hh.symm)]
theorem same_nil {A : Ixs} (h : ∀ k, valS A k = none) : A = [] := by
 cases A with
 | nil => rfl
 | cons e r =>
  have := h e.1
  unfold valS at this
  rw [if_pos rfl] at this; cases this
theorem lenE_same {fs : List Fil} : ∀ {E A : Ixs}, onceS E → onceS A → (∀ k, valS A k = valS E k) → lenE fs A = lenE fs E
 | [], A, _, _, h => by rw [same_nil h]
 | e :: r, A, he, ha, h => by
  have hv : valS A e.1 = some e.2 := by rw [h]; unfold valS; rw [if_pos rfl]
  have e1 : lenE fs (e :: r) = ((fs[e.2]?).getD ⟨[], [], 0⟩).b.length + lenE fs r := rfl
  rw [lenE_del hv, e1, lenE_same he.2 (onceS_del _ _ ha) (same_del ha he h)]
theorem insS_len8 (a : Pth) : ∀ l : List Pth, (insS a l).length = l.length + 1
 | [] => rfl
 | b :: r => by
  unfold insS
  cases lessA b a
  ·simp
  ·simp [insS_len8 a r]
theorem sortS_len8 : ∀ l : List Pth, (sortS l).length = l.length
 | [] => rfl
 | a :: r => by
  show (insS a (sortS r)).length = r.length + 1
  rw [insS_len8, sortS_len8 r]
theorem SE.len {A E : Ixs} (h : SE A E) : A.length = E.length := by
 have := congrArg List.length h.keys
 rw [sortS_len8] at this
 simpa using this.symm
theorem SE.lenE {A E : Ixs} (h : SE A E) (fs : List Fil) : lenE fs A = lenE fs E := lenE_same h.once (riseE_once h.rise) h.val
end Go.Abs
end

section
namespace Go.Abs
open Go Go.Abs.Wal
set_option linter.unusedVariables false

def doL : Nte → Ixs → Ixs
 | .mk p i, E => putL E p i
 | .ren a b, E => E
 | .rm p, E => delS E p
def doAllL : List Nte → Ixs → Ixs
 | [], E => E
 | n :: r, E => doAllL r (doL n E)
def noteL (T : TT) (n : Nte) : TT := { T with now := doL n T.now, notes := T.notes ++ [n] }
def makeL (T : TT) (ok : Bool) (p : Pth) : Nat × TT :=
 let r := opT T ok
 if r.1 ≠ 0 then r else match valS r.2.now p with
  | some _ => (7, r.2)
  | none => (0, noteL { r.2 with clock := r.2.clock + 1, files := r.2.files ++ [⟨[], [], r.2.clock + 1⟩] } (.mk p r.2.files.length))
def rmL (T : TT) (ok : Bool) (p : Pth) : Nat × TT :=
 let r := opT T ok
 if r.1 ≠ 0 then r else match valS r.2.now p with
  | none => (6, r.2)
  | some _ => (0, noteL (tickT r.2) (.rm p))
def syncPL (T : TT) : Nat × TT :=
 let r := opT T true
 if r.1 ≠ 0 then r else (0, { r.2 with safe := r.2.now, notes := [] })
def crash1L (was : Ixs) (T : TT) (e : Pth × Nat) (part : Int) : TT :=
 let b := leftF (T.fil e.2) part
 if valS was e.1 = some e.2 ∧ b = (T.fil e.2).b then { T with now := T.now ++ [(e.1, T.files.length)], files := T.files ++ [⟨b, b, (T.fil e.2).st⟩] }
 else { T with clock := T.clock + 1, now := T.now ++ [(e.1, T.files.length)], files := T.files ++ [⟨b, b, T.clock + 1⟩] }
def crashLL (was : Ixs) : TT → Ixs → List Int → TT
 | T, [], _ => T
 | T, e :: r, ps => crashLL was (crash1L was T e (hd0 ps)) r ps.tail
def crashR (T : TT) (keep : Int) (parts : List Int) : TT :=
 let l := doAllL (T.notes.take ((max 0 keep).toNat % (T.notes.length + 1))) T.safe
 let T2 := crashLL T.now { T with clock := T.clock + 1, now := [], safe := l, notes := [] } l parts
 {T2 with safe := T2.now, off := false, fuse := -1 }
def plainN : Nte → Prop
 | .ren _ _ => False
 | _ => True

/-! ### The same -/
structure DRt (R T : TT) : Prop where
 room : R.room = T.room
 now : SE R.now T.now
 safe : SE R.safe T.safe
 notes : R.notes = T.notes
 clock : R.clock = T.clock
 off : R.off = T.off
 fuse : R.fuse = T.fuse
 files : R.files = T.files
 pl : ∀ n ∈ T.notes, plainN n
 don : ∀ k, valS (doAll T.notes T.safe) k = valS T.now k
theorem DRt.new (room : Int) : DRt (newT room) (newT room) := ⟨rfl, SE.nil, SE.nil, rfl, rfl, rfl, rfl, rfl, fun n hn => (by cases hn), fun _ => rfl⟩
theorem doAll_snoc (n : Nte) : ∀ (l : List Nte) (E : Ixs), doAll (l ++ [n]) E = doN n (doAll l E)
 | [], E => rfl
 | m :: l, E => doAll_snoc n l (doN m E)
theorem SE.doL {A E : Ixs} (h : SE A E) {n : Nte} (hp : plainN n) : SE (doL n A) (doN n E) := by
 cases n with
 | mk p i => exact h.upd p i
 | ren a b => exact hp.elim
 | rm p => exact h.del p
theorem SE.doAllL : ∀ {l : List Nte} {A E : Ixs}, SE A E → (∀ n ∈ l, plainN n) → SE (doAllL l A) (doAll l E)
 | [], _, _, h, _ => h
 | n :: l, A, E, h, hp => SE.doAllL (l := l) (h.doL (hp n (by simp))) fun m hm => hp m (by simp [hm])
theorem once_doN {E : Ixs} (h : onceS E) : ∀ {n : Nte}, plainN n → onceS (doN n E)
 | .mk p i, _ => onceS_upd _ _ _ h
 | .rm p, _ => onceS_del _ _ h
theorem once_doAll : ∀ {l : List Nte} {E : Ixs}, onceS E → (∀ n ∈ l, plainN n) → onceS (doAll l E)
 | [], _, h, _ => h
 | n :: l, E, h, hp => once_doAll (l := l) (once_doN h (hp n (by simp))) fun m hm => hp m (by simp [hm])
theorem doN_same {A E : Ixs} (ha : onceS A) (he : onceS E) (h : ∀ k, valS A k = valS E k) {n : Nte} (hp : plainN n) (k : Pth) : valS (doN n A) k = valS (doN n E) k := by
 cases n with
 | mk p i => show valS (updS A p i) k = valS (updS E p i) k; rw [valS_upd, valS_upd, h]
 | ren a b => exact hp.elim
 | rm p => show valS (delS A p) k = valS (delS E p) k; rw [valS_del _ ha, valS_del _ he, h]
theorem DRt.op {R T : TT} (h : DRt R T) (ok : Bool) : (opT R ok).1 = (opT T ok).1 ∧ DRt (opT R ok).2 (opT T ok).2 := by
 obtain ⟨h1, h2, h3, h4, h5, h6, h7, h8, h9, h10⟩ := h
 unfold opT
 rw [h6, h7]
 split
 ·exact ⟨rfl, h1, h2, h3, h4, h5, h6, h7, h8, h9, h10⟩
 ·split
  ·exact ⟨rfl, h1, h2, h3, h4, h5, h6, h7, h8, h9, h10⟩
  ·split
   ·exact ⟨rfl, h1, h2, h3, h4, h5, rfl, rfl, h8, h9, h10⟩
   ·split
    ·exact ⟨rfl, h1, h2, h3, h4, h5, rfl, rfl, h8, h9, h10⟩
    ·exact ⟨rfl, h1, h2, h3, h4, h5, h6, h7, h8, h9, h10⟩
theorem DRt.note {R T : TT} (h : DRt R T) {n : Nte} (hp : plainN n) : DRt (noteL R n) (noteT T n) := by
 refine ⟨h.room, h.now.doL hp, h.safe, ?_, h.clock, h.off, h.fuse, h.files, ?_, ?_⟩
 ·show R.notes ++ [n] = T.notes ++ [n]
  rw [h.notes]
 ·intro m hm
  rcases List.mem_append.1 hm with hm | hm
  ·exact h.pl m hm
  ·rw [List.mem_singleton.1 hm]; exact hp
 ·intro k
  show valS (doAll (T.notes ++ [n]) T.safe) k = valS (doN n T.now) k
  rw [doAll_snoc]
  exact doN_same (once_doAll h.safe.once h.pl) h.now.once h.don hp k
theorem DRt.with_ {R T : TT} (h : DRt R T) (c : Nat) {f g : List Fil} (hf : f = g) : DRt { R with clock := c, files := f } { T with clock := c, files := g } :=
 ⟨h.room, h.now, h.safe, h.notes, rfl, h.off, h.fuse, hf, h.pl, h.don⟩
theorem DRt.used {R T : TT} (h : DRt R T) : R.used = T.used := by
 show lenE R.files R.now = lenE T.files T.now
 rw [h.files]
 exact h.now.lenE _
theorem DRt.fil {R T : TT} (h : DRt R T) (i : Nat) : R.fil i = T.fil i := by unfold TT.fil; rw [h.files]
theorem DRt.make {R T : TT} (h : DRt R T) (ok : Bool) (p : Pth) : (makeL R ok p).1 = (makeT T ok p).1 ∧ DRt (makeL R ok p).2 (makeT T ok p).2 := by
 obtain ⟨e, d⟩ := h.op ok
 unfold makeL makeT
 dsimp only
 rw [e]
 by_cases c : (opT T ok).1 ≠ 0
 ·rw [if_pos c, if_pos c]; exact ⟨e, d⟩
 ·rw [if_neg c, if_neg c, d.now.val]
  cases valS (opT T ok).2.now p with
  | some i => exact ⟨rfl, d⟩
  | none =>
   refine ⟨rfl, ?_⟩
   dsimp only
   rw [d.clock, d.files]
   exact (d.with_ _ rfl).note trivial
theorem DRt.rm {R T : TT} (h : DRt R T) (ok : Bool) (p : Pth) : (rmL R ok p).1 = (rmT T ok p).1 ∧ DRt (rmL R ok p).2 (rmT T ok p).2 := by
 obtain ⟨e, d⟩ := h.op ok
 unfold rmL rmT
 dsimp only
 rw [e]
 by_cases c : (opT T ok).1 ≠ 0
 ·rw [if_pos c, if_pos c]; exact ⟨e, d⟩
 ·rw [if_neg c, if_neg c, d.now.val]
  cases valS (opT T ok).2.now p with
  | none => exact ⟨rfl, d⟩
  | some i =>
   refine ⟨rfl, ?_⟩
   have d2 : DRt (tickT (opT R ok).2) (tickT (opT T ok).2) := by
    have := d.with_ ((opT T ok).2.clock + 1) d.files
    unfold tickT
    rw [d.clock]
    exact this
   exact d2.note trivial
theorem DRt.put {R T : TT} (h : DRt R T) (ok : Bool) (p : Pth) (g : List Nat → List Nat) : (putT R ok p g).1 = (putT T ok p g).1 ∧ DRt (putT R ok p g).2 (putT T ok p g).2 := by
 obtain ⟨e, d⟩ := h.op ok
 unfold putT
 dsimp only
 rw [e]
 by_cases c : (opT T ok).1 ≠ 0
 ·rw [if_pos c, if_pos c]; exact ⟨e, d⟩
 ·rw [if_neg c, if_neg c, d.now.val]
  cases valS (opT T ok).2.now p with
  | none => exact ⟨rfl, d⟩
  | some i =>
   dsimp only
   rw [h.room, d.used, d.fil]
   split
   ·exact ⟨rfl, d⟩
   ·refine ⟨rfl, ?_⟩
    rw [d.clock]
    exact d.with_ _ (by rw [d.files])
theorem DRt.sync {R T : TT} (h : DRt R T) (ok : Bool) (p : Pth) : (syncT R ok p).1 = (syncT T ok p).1 ∧ DRt (syncT R ok p).2 (syncT T ok p).2 := by
 obtain ⟨e, d⟩ := h.op ok
 unfold syncT
 dsimp only
 rw [e]
 by_cases c : (opT T ok).1 ≠ 0
 ·rw [if_pos c, if_pos c]; exact ⟨e, d⟩
 ·rw [if_neg c, if_neg c, d.now.val]
  cases valS (opT T ok).2.now p with
  | none => exact ⟨rfl, d⟩
  | some i =>
   refine ⟨rfl, ?_⟩
   dsimp only
   rw [d.fil]
   obtain ⟨h1, h2, h3, h4, h5, h6, h7, h8, h9, h10⟩ := d
   exact ⟨h1, h2, h3, h4, h5, h6, h7, by dsimp only; rw [h8], h9, h10⟩
theorem DRt.stat {R T : TT} (h : DRt R T) (p : Pth) : statT R p = statT T p := by
 unfold statT
 rw [h.now.val]
 cases valS T.now p with
 | none => rfl
 | some i => dsimp only; rw [h.fil]
theorem DRt.syncP {R T : TT} (h : DRt R T) : (syncPL R).1 = (syncPT T).1 ∧ DRt (syncPL R).2 (syncPT T).2 := by
 obtain ⟨e, d⟩ := h.op true
 unfold syncPL syncPT
 dsimp only
 rw [e]
 by_cases c : (opT T true).1 ≠ 0
 ·rw [if_pos c, if_pos c]; exact ⟨e, d⟩
 ·rw [if_neg c, if_neg c]
  refine ⟨rfl, ?_⟩
  have hk : (keepT (opT T true).2 (opT T true).2.notes.length) = { (opT T true).2 with safe := doAll (opT T true).2.notes (opT T true).2.safe, notes := [] } := by
   unfold keepT; rw [List.take_length]
  rw [hk]
  have ho := once_doAll d.safe.once d.pl
  refine ⟨d.room, d.now, ⟨d.now.rise, ho, fun k => ?_⟩, rfl, d.clock, d.off, d.fuse, d.files, fun n hn => (by cases hn), fun k => ?_⟩
  ·rw [d.now.val]; exact (d.don k).symm
  ·exact d.don k
theorem DRt.keys {R T : TT} (h : DRt R T) : sortS (T.now.map (·.1)) = R.now.map (·.1) := h.now.keys
structure DCt (R T : TT) : Prop where
 room : R.room = T.room
 now : SE R.now T.now
 clock : R.clock = T.clock
 files : R.files = T.files
theorem riseE_snoc {k : Pth} {v : Nat} : ∀ {E : Ixs}, riseE E → (∀ e ∈ E, lessA e.1 k = true) → riseE (E ++ [(k, v)]) ∧ putL E k v = E ++ [(k, v)]
 | [], _, _ => ⟨⟨fun x hx => by simp at hx, trivial⟩, rfl⟩
 | e :: r, h, hk => by
  have ih := riseE_snoc (v := v) h.2 fun x hx => hk x (by simp [hx])
  refine ⟨⟨fun x hx => ?_, ih.1⟩, ?_⟩
  ·rcases List.mem_append.1 hx with hx | hx
   ·exact h.1 x hx
   ·rw [List.mem_singleton.1 hx]; exact hk e (by simp)
  ·have e1 : putL (e :: r) k v = if lessA e.1 k = true then e :: putL r k v else if e.1 = k then (k, v) :: r else (k, v) :: e :: r := rfl
   rw [e1, if_pos (hk e (by simp)), ih.2]
   rfl
theorem DCt.one {R T : TT} (h : DCt R T) {was1 was2 : Ixs} (hw : ∀ k, valS was1 k = valS was2 k) {s : Pth} {i : Nat} (hs : valS T.safe s = some i) (hl : ∀ e ∈ R.now, lessA e.1 s = true) (part : Int) :
  DCt (crash1L was1 R (s, i) part) (crash1 was2 T s part) ∧ (crash1 was2 T s part).safe = T.safe ∧ ∀ e ∈ (crash1L was1 R (s, i) part).now, e ∈ R.now ∨ e.1 = s := by
 have hf : R.fil i = T.fil i := by unfold TT.fil; rw [h.files]
 have hp := (riseE_snoc (v := T.files.length) h.now.rise hl).2
 have hu := h.now.upd s T.files.length
 rw [hp] at hu
 unfold crash1L crash1
 rw [hs]
 dsimp only
 rw [hf, hw, h.files, h.clock]
 split
 ·exact ⟨⟨h.room, hu, rfl, rfl⟩, rfl, fun e he => by
   rcases List.mem_append.1 he with he | he
   ·exact .inl he
   ·rw [List.mem_singleton.1 he]; exact .inr rfl⟩
 ·exact ⟨⟨h.room, hu, rfl, rfl⟩, rfl, fun e he => by
   rcases List.mem_append.1 he with he | he
   ·exact .inl he
   ·rw [List.mem_singleton.1 he]; exact .inr rfl⟩
theorem DCt.all {was1 was2 : Ixs} (hw : ∀ k, valS was1 k = valS was2 k) : ∀ (l : Ixs) {R T : TT} (ps : List Int), DCt R T → riseE l → (∀ e ∈ l, valS T.safe e.1 = some e.2) → (∀ x ∈ R.now, ∀ e ∈ l, lessA x.1 e.1 = true) →
  DCt (crashLL was1 R l ps) (crashL was2 T (l.map (·.1)) ps)
 | [], R, T, ps, h, _, _, _ => h
 | e :: r, R, T, ps, h, hr, hs, hl => by
  obtain ⟨h1, h2, h3⟩ := h.one hw (s := e.1) (i := e.2) (hs e (by simp)) (fun x hx => hl x hx e (by simp)) (hd0 ps)
  exact DCt.all hw r ps.tail h1 hr.2 (fun x hx => by rw [h2]; exact hs x (by simp [hx])) fun x hx y hy => by
   rcases h3 x hx with hx | hx
   ·exact hl x hx y (by simp [hy])
   ·rw [hx]; exact hr.1 y hy
theorem crashL_keep (was : Ixs) : ∀ (l : List Pth) (T : TT) (ps : List Int), (crashL was T l ps).notes = T.notes
 | [], T, ps => rfl
 | s :: r, T, ps => by
  show (crashL was (crash1 was T s (hd0 ps)) r ps.tail).notes = T.notes
  rw [crashL_keep was r]
  unfold crash1
  cases valS T.safe s with
  | none => rfl
  | some i => dsimp only; split <;> rfl
theorem crashLL_keep (was : Ixs) : ∀ (l : Ixs) (T : TT) (ps : List Int), (crashLL was T l ps).notes = T.notes
 | [], T, ps => rfl
 | s :: r, T, ps => by
  show (crashLL was (crash1L was T s (hd0 ps)) r ps.tail).notes = T.notes
  rw [crashLL_keep was r]
  unfold crash1L
  dsimp only
  split <;> rfl
theorem val_of_mem {l : Ixs} (h : onceS l) : ∀ {e : Pth × Nat}, e ∈ l → valS l e.1 = some e.2 := by
 induction l with
 | nil => intro e he; cases he
 | cons a r ih =>
  intro e he
  unfold valS
  rcases List.mem_cons.1 he with rfl | he
  ·rw [if_pos rfl]
  ·have hv := ih h.2 he
   by_cases hk : a.1 = e.1
   ·rw [← hk, h.1] at hv; cases hv
   ·rw [if_neg hk]; exact hv
theorem DRt.crash {R T : TT} (h : DRt R T) (keep : Int) (parts : List Int) : DRt (crashR R keep parts) (crashT T keep parts) := by
 have hk : ∀ n ∈ T.notes.take ((max 0 keep).toNat % (T.notes.length + 1)), plainN n := fun n hn => h.pl n (List.mem_of_mem_take hn)
 have hs := h.safe.doAllL hk
 unfold crashR crashT keepT
 dsimp only
 rw [h.notes]
 generalize T.notes.take ((max 0 keep).toNat % (T.notes.length + 1)) = nt at hs
 rw [hs.keys]
 have dc : DCt { R with clock := R.clock + 1, now := [], safe := doAllL nt R.safe, notes := [] } { T with clock := T.clock + 1, now := [], safe := doAll nt T.safe, notes := [] } := ⟨h.room, SE.nil, by show R.clock + 1 = T.clock + 1; rw [h.clock], h.files⟩
 have da := DCt.all (was1 := R.now) (was2 := T.now) h.now.val (doAllL nt R.safe) parts dc hs.rise (fun e he => by
  show valS (doAll nt T.safe) e.1 = some e.2
  rw [← hs.val]; exact val_of_mem (riseE_once hs.rise) he) (fun x hx => by cases hx)
 have n1 := crashLL_keep R.now (doAllL nt R.safe) { R with clock := R.clock + 1, now := [], safe := doAllL nt R.safe, notes := [] } parts
 have n2 := crashL_keep T.now ((doAllL nt R.safe).map (·.1)) { T with clock := T.clock + 1, now := [], safe := doAll nt T.safe, notes := [] } parts
 generalize crashLL R.now { R with clock := R.clock + 1, now := [], safe := doAllL nt R.safe, notes := [] } (doAllL nt R.safe) parts = A at da n1
 generalize crashL T.now { T with clock := T.clock + 1, now := [], safe := doAll nt T.safe, notes := [] } ((doAllL nt R.safe).map (·.1)) parts = B at da n2
 refine ⟨da.room, da.now, da.now, ?_, da.clock, rfl, rfl, da.files, ?_, ?_⟩
 ·show A.notes = B.notes
  rw [n1, n2]
 ·intro n hn
  have hn' : n ∈ B.notes := hn
  rw [n2] at hn'; cases hn'
 ·intro k
  show valS (doAll B.notes B.now) k = valS B.now k
  rw [n2]; rfl
end Go.Abs
end

section
namespace Go.Abs
open Go
set_option linter.unusedVariables false
section
variable {P : Program}
def Ez (z n0 : Nat) (h : AH) (v : AV) (l : List AV) : Prop :=
 (v = .nilsl ∧ l = []) ∨ ∃ id n c tx, v = .sl id 0 n z c ∧ h.get id = some (.cells l true tx) ∧ id < h.nx ∧ n0 ≤ id ∧ l.length = n * z ∧ (c = none ∨ c = some n) ∧ (tx = false ∨ (l = [] ∧ c = some 0))
theorem Ez.fr {z n0 : Nat} {h h' : AH} {v : AV} {l : List AV} (hb : Ez z n0 h v l) (hf : Fr h h') : Ez z n0 h' v l := by
 rcases hb with h1 | ⟨id, n, c, tx, h1, h2, h3, h4, h5⟩
 ·exact .inl h1
 ·exact .inr ⟨id, n, c, tx, h1, (hf.get id h3).trans h2, Nat.lt_of_lt_of_le h3 hf.nx, h4, h5⟩
theorem Ez.low {z n0 n1 : Nat} {h : AH} {v : AV} {l : List AV} (hb : Ez z n0 h v l) (hn : n1 ≤ n0) : Ez z n1 h v l := by
 rcases hb with h1 | ⟨id, n, c, tx, h1, h2, h3, h4, h5⟩
 ·exact .inl h1
 ·exact .inr ⟨id, n, c, tx, h1, h2, h3, Nat.le_trans hn h4, h5⟩
theorem Ez.len {z n0 : Nat} {h : AH} {v : AV} {l : List AV} {t e : TypeId} {n : Nat} (hb : Ez z n0 h v l) (ht : P.underlying t = some (.slice e)) (hz : 0 < z) (hl : l.length = n * z) (g : AH) : evLen P g #[t] v = some (.int .i64 (n : Nat)) := by
 rcases hb with ⟨rfl, rfl⟩ | ⟨id, m, c, tx, rfl, h2, h3, h4, h5, h6, h7⟩
 ·have : n = 0 := by
   rcases Nat.mul_eq_zero.1 hl.symm with h | h
   ·exact h
   ·omega
  subst this
  simp [evLen, ht]
 ·have : m = n := Nat.eq_of_mul_eq_mul_right hz (h5.symm.trans hl)
  subst this
  simp [evLen, ht]
theorem Ez.one {z n0 : Nat} {h : AH} {v : AV} {l : List AV} (hb : Ez z n0 h v l) : sameAV 20 v v = true ∧ oneA v = true := by
 rcases hb with ⟨rfl, rfl⟩ | ⟨id, n, c, tx, rfl, h2, h3, h4, h5, h6, h7⟩
 ·exact ⟨rfl, rfl⟩
 ·exact ⟨by simp [sameAV], rfl⟩
theorem Ez.app {z : Nat} {h0 h : AH} {v x : AV} {l m : List AV} {k : Nat} {st xt e : TypeId} {d : TypeDesc} {bt : Nat} (hu : P.underlying st = some (.slice e)) (hd : P.underlying xt = some d) (hni : notInt d = true) (hi : appI P e = some (z, bt)) (hbt : bt ≤ 64) (hz : 0 < z) (hb : Ez z h0.nx h v l) (hn : lenA x = some k) (hnew : firstA h z k x = some m) (hm : m.length = k * z) (hall : m.all oneA = true) (hf : Fr h0 h) (hl : l.length + m.length ≤ 1073741824) :
  ∃ v' h', evAppend P h #[st, xt] v x = some (.val v' h') ∧ Fr h0 h' ∧ Ez z h0.nx h' v' (l ++ m) ∧ oneA v' = true ∧ h.nx ≤ h'.nx ∧ (∀ j, j < h.nx → (∀ id o n c, v = .sl id o n z c → j ≠ id) → h'.get j = h.get j) ∧ ((k = 0 ∧ v' = v) ∨ ∃ id n, v' = .sl id 0 n z none ∧ h.nx ≤ id) := by
 have hk : k ≤ m.length := by rw [hm]; exact Nat.le_mul_of_pos_right k hz
 rcases hb with ⟨rfl, rfl⟩ | ⟨id, n, c, tx, rfl, h2, h3, h4, h5, h6, h7⟩
 ·have hm' : (2 * (0 + k) + 1000) * bt ≤ (2 * (0 + k) + 1000) * 64 := Nat.mul_le_mul_left _ hbt
  simp only [List.length_nil] at hl
  rw [evAppend_eq (len := 0) (old := []) hu hd hni hi hn hnew rfl rfl hall (Nat.le_trans hm' (by omega)) (by omega) rfl]
  by_cases hk0 : k = 0
  ·subst hk0
   have : m = [] := List.length_eq_zero_iff.1 (by omega)
   subst this
   rw [if_pos rfl]
   exact ⟨_, _, rfl, hf, .inl ⟨rfl, rfl⟩, rfl, Nat.le_refl _, fun j _ _ => rfl, .inl ⟨rfl, rfl⟩⟩
  ·rw [if_neg hk0]
   exact ⟨_, _, rfl, hf.news _, .inr ⟨h.nx, k, none, false, rfl, AH.get_new_eq rfl, Nat.lt_succ_self _, hf.nx, hm, .inl rfl, .inl rfl⟩, rfl, Nat.le_succ _, fun j hj _ => AH.get_new_ne (Nat.ne_of_lt hj), .inr ⟨_, _, rfl, Nat.le_refl _⟩⟩
 ·have hnl : n ≤ l.length := by rw [h5]; exact Nat.le_mul_of_pos_right n hz
  have hold : firstA h z n (.sl id 0 n z c) = some l := by
   rw [firstA_sl h2 (Nat.le_refl _) (by omega), List.drop_zero, ← h5, List.take_length]
  have hm' : (2 * (n + k) + 1000) * bt ≤ (2 * (n + k) + 1000) * 64 := Nat.mul_le_mul_left _ hbt
  rw [evAppend_eq (len := n) hu hd hni hi hn hnew rfl hold hall (Nat.le_trans hm' (by omega)) (by omega) rfl]
  by_cases hk0 : k = 0
  ·subst hk0
   have : m = [] := List.length_eq_zero_iff.1 (by omega)
   subst this
   rw [if_pos rfl]
   exact ⟨_, _, rfl, hf, .inr ⟨id, n, c, tx, rfl, by rw [List.append_nil]; exact h2, h3, h4, by rw [List.append_nil]; exact h5, h6, by rw [List.append_nil]; exact h7⟩, rfl, Nat.le_refl _, fun j _ _ => rfl, .inl ⟨rfl, rfl⟩⟩
  ·rw [if_neg hk0]
   have hlm : (l ++ m).length = (n + k) * z := by rw [List.length_append, h5, hm, Nat.add_mul]
   have fin : ∀ (g : AH), Fr h0 g → g.nx = h.nx → (∀ j, j ≠ id → g.get j = h.get j) → ∃ v' h', newCells g (l ++ m) false (fun id => .sl id 0 (n + k) z none) = some (.val v' h') ∧ Fr h0 h' ∧ Ez z h0.nx h' v' (l ++ m) ∧ oneA v' = true ∧ h.nx ≤ h'.nx ∧ (∀ j, j < h.nx → (∀ id' o n' c', AV.sl id 0 n z c = .sl id' o n' z c' → j ≠ id') → h'.get j = h.get j) ∧ ((k = 0 ∧ v' = .sl id 0 n z c) ∨ ∃ id n, v' = .sl id 0 n z none ∧ h.nx ≤ id) := fun g hg hgn hgo =>
    ⟨_, _, rfl, hg.news _, .inr ⟨g.nx, n + k, none, false, rfl, AH.get_new_eq rfl, Nat.lt_succ_self _, hg.nx, hlm, .inl rfl, .inl rfl⟩, rfl, by rw [← hgn]; exact Nat.le_succ _, fun j hj hne => (AH.get_new_ne (by omega)).trans (hgo j (hne _ _ _ _ rfl)), .inr ⟨_, _, rfl, by omega⟩⟩
   rcases h6 with rfl | rfl
   ·have ht0 : tx = false := by
     rcases h7 with h7 | ⟨_, h7⟩
     ·exact h7
     ·cases h7
    subst ht0
    simp only
    rw [if_pos (by simp [ownBlock, h2])]
    have ht : (textBlock h id || !(Nat.beq 0 0)) = false := by simp [textBlock, h2]
    rw [ht]
    exact fin _ (hf.del h4) rfl fun j hj => by rw [AH.get_del, if_neg hj]
   ·simp only
    rw [if_pos (by omega)]
    exact fin _ hf rfl fun j _ => rfl
theorem Ez.at {z n0 : Nat} {h : AH} {v : AV} {l : List AV} (hb : Ez z n0 h v l) {n i : Nat} (hl : l.length = n * z) (hi : i < n) (hz : 0 < z) : ∃ id c, v = .sl id 0 n z c ∧ h.get id = some (.cells l true false) ∧ id < h.nx ∧ n0 ≤ id := by
 rcases hb with ⟨rfl, rfl⟩ | ⟨id, m, c, tx, rfl, h2, h3, h4, h5, h6, h7⟩
 ·rcases Nat.mul_eq_zero.1 hl.symm with h | h <;> omega
 ·have : m = n := Nat.eq_of_mul_eq_mul_right hz (h5.symm.trans hl)
  subst this
  have ht0 : tx = false := by
   rcases h7 with h7 | ⟨h7, _⟩
   ·exact h7
   ·rw [h7] at h5
    have : m * z = 0 := h5.symm
    rcases Nat.mul_eq_zero.1 this with h | h <;> omega
  subst ht0
  exact ⟨id, c, rfl, h2, h3, h4⟩

/-! ### Cells of two each -/
def flat2 {α : Type} (f g : α → AV) : List α → List AV
 | [] => []
 | a :: l => f a :: g a :: flat2 f g l
theorem flat2_len {α : Type} (f g : α → AV) : ∀ l : List α, (flat2 f g l).length = l.length * 2
 | [] => rfl
 | a :: l => by
  show (flat2 f g l).length + 1 + 1 = (l.length + 1) * 2
  rw [flat2_len f g l]; omega
theorem flat2_app {α : Type} (f g : α → AV) : ∀ l m : List α, flat2 f g (l ++ m) = flat2 f g l ++ flat2 f g m
 | [], m => rfl
 | a :: l, m => by
  show f a :: g a :: flat2 f g (l ++ m) = _
  rw [flat2_app f g l m]; rfl
theorem flat2_get {α : Type} (f g : α → AV) : ∀ {l : List α} {i : Nat} {a : α}, l[i]? = some a → (flat2 f g l)[i * 2]? = some (f a) ∧ (flat2 f g l)[i * 2 + 1]? = some (g a) ∧ ((flat2 f g l).drop (i * 2)).take 2 = [f a, g a]
 | [], i, a, h => by simp at h
 | b :: l, 0, a, h => by
  cases h
  exact ⟨rfl, rfl, rfl⟩
 | b :: l, i + 1, a, h => by
  have ih := flat2_get f g (l := l) (i := i) (a := a) (by simpa using h)
  have e : (i + 1) * 2 = i * 2 + 1 + 1 := by omega
  rw [e]
  exact ⟨ih.1, ih.2.1, ih.2.2⟩
theorem flat2_one {α : Type} {f g : α → AV} (hf : ∀ a, oneA (f a) = true) (hg : ∀ a, oneA (g a) = true) : ∀ l : List α, (flat2 f g l).all oneA = true
 | [] => rfl
 | a :: l => by
  show (oneA (f a) && (oneA (g a) && (flat2 f g l).all oneA)) = true
  rw [hf, hg, flat2_one hf hg l]; rfl
end
end Go.Abs
end

section
namespace Go.Abs
open Go Go.Abs.Wal
set_option linter.unusedVariables false
def putStep (k : Pth) (v : Nat) (s : Ixs × Bool) (e : Pth × Nat) : Ixs × Bool :=
 if s.2 = false ∧ lessA e.1 k = false then (if e.1 = k then (s.1 ++ [(k, v)], true) else (s.1 ++ [(k, v)] ++ [e], true))
 else (if e.1 = k then s else (s.1 ++ [e], s.2))
def putF (k : Pth) (v : Nat) (d : Bool) (E : Ixs) : Ixs × Bool := E.foldl (putStep k v) ([], d)
def putR (k : Pth) (v : Nat) (d : Bool) (E : Ixs) : Ixs := if (putF k v d E).2 = false then (putF k v d E).1 ++ [(k, v)] else (putF k v d E).1
theorem putF_snoc (k : Pth) (v : Nat) (d : Bool) (E : Ixs) (e : Pth × Nat) : putF k v d (E ++ [e]) = putStep k v (putF k v d E) e := by
 unfold putF
 rw [List.foldl_append]; rfl
theorem putF_take {k : Pth} {v : Nat} {d : Bool} {E : Ixs} {i : Nat} {e : Pth × Nat} (h : E[i]? = some e) : putF k v d (E.take (i + 1)) = putStep k v (putF k v d (E.take i)) e := by
 rw [List.take_add_one, h]
 exact putF_snoc _ _ _ _ _
theorem fold_true (k : Pth) (v : Nat) : ∀ (E acc : Ixs), E.foldl (putStep k v) (acc, true) = (acc ++ E.filter (fun e => !decide (e.1 = k)), true)
 | [], acc => by simp
 | e :: r, acc => by
  rw [List.foldl_cons]
  by_cases h : e.1 = k
  ·have : putStep k v (acc, true) e = (acc, true) := by simp [putStep, h]
   rw [this, fold_true k v r acc]
   simp [List.filter_cons, h]
  ·have : putStep k v (acc, true) e = (acc ++ [e], true) := by simp [putStep, h]
   rw [this, fold_true k v r]
   simp [List.filter_cons, h]
theorem filter_all {k : Pth} {r : Ixs} (h : ∀ x ∈ r, x.1 ≠ k) : r.filter (fun e => !decide (e.1 = k)) = r := List.filter_eq_self.2 fun x hx => by simp [h x hx]
theorem filter_del {k : Pth} : ∀ {E : Ixs}, riseE E → E.filter (fun e => !decide (e.1 = k)) = delS E k
 | [], _ => rfl
 | e :: r, h => by
  unfold delS
  by_cases hk : e.1 = k
  ·rw [if_pos hk, List.filter_cons]
   simp only [hk, decide_true, Bool.not_true, Bool.false_eq_true, if_false]
   exact filter_all fun x hx hh => lessA_ne (h.1 x hx) (hk.trans hh.symm)
  ·rw [if_neg hk, List.filter_cons]
   simp only [hk, decide_false, Bool.not_false, if_true]
   rw [filter_del h.2]
theorem fold_false (k : Pth) (v : Nat) : ∀ (E acc : Ixs), riseE E → (let s := E.foldl (putStep k v) (acc, false); if s.2 = false then s.1 ++ [(k, v)] else s.1) = acc ++ putL E k v
 | [], acc, _ => by simp [putL]
 | e :: r, acc, h => by
  rw [List.foldl_cons]
  unfold putL
  cases hl : lessA e.1 k
  ·have hx : ∀ x ∈ r, x.1 ≠ k := fun x hx hh => by
    have h1 := h.1 x hx
    rw [hh] at h1
    rw [h1] at hl; cases hl
   by_cases hk : e.1 = k
   ·have : putStep k v (acc, false) e = (acc ++ [(k, v)], true) := by unfold putStep; rw [if_pos ⟨rfl, hl⟩, if_pos hk]
    rw [this, fold_true, filter_all hx]
    simp [hk]
   ·have : putStep k v (acc, false) e = (acc ++ [(k, v)] ++ [e], true) := by simp [putStep, hl, hk]
    rw [this, fold_true, filter_all hx]
    simp [hk]
  ·have hk : ¬ e.1 = k := lessA_ne hl
   have : putStep k v (acc, false) e = (acc ++ [e], false) := by simp [putStep, hl, hk]
   rw [this, fold_false k v r _ h.2]
   simp
theorem putR_put {k : Pth} {v : Nat} {E : Ixs} (h : riseE E) : putR k v false E = putL E k v := by
 have := fold_false k v E [] h
 rw [List.nil_append] at this
 exact this
theorem putR_del {k : Pth} {v : Nat} {E : Ixs} (h : riseE E) : putR k v true E = delS E k := by
 unfold putR putF
 rw [fold_true, filter_del h]
 simp
theorem putF_len (k : Pth) (v : Nat) (d : Bool) : ∀ (E : Ixs) (acc : Ixs), (E.foldl (putStep k v) (acc, d)).1.length ≤ acc.length + 2 * E.length := by
 intro E
 induction E generalizing d with
 | nil => intro acc; simp
 | cons e r ih =>
  intro acc
  rw [List.foldl_cons]
  have h1 : (putStep k v (acc, d) e).1.length ≤ acc.length + 2 := by
   unfold putStep
   split
   ·split <;> simp
   ·split <;> simp
  have h2 := ih (putStep k v (acc, d) e).2 (putStep k v (acc, d) e).1
  simp only [List.length_cons]
  have h3 : ((putStep k v (acc, d) e).1, (putStep k v (acc, d) e).2) = putStep k v (acc, d) e := rfl
  rw [h3] at h2
  omega
end Go.Abs
end

section
namespace Go.Abs
open Go Go.Abs.Wal
set_option linter.unusedVariables false

theorem DRt.wf {R T : TT} (h : DRt R T) (w : Wf T) : Wf R := by
 refine ⟨⟨riseE_once h.now.rise, fun k i hk => ?_⟩, ⟨riseE_once h.safe.rise, fun k i hk => ?_⟩, ?_, ?_, ?_, ?_⟩
 ·rw [h.now.val] at hk; rw [h.files]; exact w.now.2 k i hk
 ·rw [h.safe.val] at hk; rw [h.files]; exact w.safe.2 k i hk
 ·rw [h.notes, h.files]; exact w.notes
 ·rw [h.fuse]; exact w.fuse
 ·rw [h.room]; exact w.room
 ·rw [h.files]; exact w.byt
theorem DRt.bm {R T : TT} (h : DRt R T) {n c : Nat} (b : Bm n c R) : Bm n c T :=
 ⟨by rw [← h.now.len]; exact b.now, by rw [← h.safe.len, ← h.notes]; exact b.sn, by rw [← h.clock]; exact b.clock⟩
theorem DRt.setFuse {R T : TT} (h : DRt R T) (x : Int) : DRt { R with fuse := x } { T with fuse := x } :=
 ⟨h.room, h.now, h.safe, h.notes, h.clock, h.off, rfl, h.files, h.pl, h.don⟩
theorem DRt.steps : ∀ (l : List ((TT → Nat × TT) × (TT → Nat × TT))) {R T : TT}, (∀ x ∈ l, ∀ R T, DRt R T → (x.1 R).1 = (x.2 T).1 ∧ DRt (x.1 R).2 (x.2 T).2) → DRt R T →
  (stepsT (l.map (·.1)) R).1 = (stepsT (l.map (·.2)) T).1 ∧ DRt (stepsT (l.map (·.1)) R).2 (stepsT (l.map (·.2)) T).2
 | [], R, T, _, h => ⟨rfl, h⟩
 | x :: r, R, T, hl, h => by
  obtain ⟨e, d⟩ := hl x (List.mem_cons_self ..) R T h
  have e1 : stepsT ((x :: r).map (·.1)) R = if (x.1 R).1 ≠ 0 then x.1 R else stepsT (r.map (·.1)) (x.1 R).2 := rfl
  have e2 : stepsT ((x :: r).map (·.2)) T = if (x.2 T).1 ≠ 0 then x.2 T else stepsT (r.map (·.2)) (x.2 T).2 := rfl
  rw [e1, e2, e]
  by_cases c : (x.2 T).1 ≠ 0
  ·rw [if_pos c, if_pos c]; exact ⟨e, d⟩
  ·rw [if_neg c, if_neg c]
   exact DRt.steps r (fun y hy => hl y (List.mem_cons_of_mem _ hy)) d

/-! ### How great it grows -/
theorem nodup_le : ∀ (l D : List Pth), l.Nodup → (∀ x ∈ l, x ∈ D) → l.length ≤ D.length
 | [], D, _, _ => Nat.zero_le _
 | a :: l, D, h, hs => by
  rw [List.nodup_cons] at h
  have ha := hs a (by simp)
  have h1 := nodup_le l (D.erase a) h.2 fun x hx => (List.mem_erase_of_ne (fun hh => h.1 (by rw [← hh]; exact hx))).2 (hs x (by simp [hx]))
  rw [List.length_erase_of_mem ha] at h1
  have h2 : 0 < D.length := List.length_pos_of_mem ha
  simp only [List.length_cons]
  omega
theorem rise_le {E : Ixs} {D : List Pth} (h : riseE E) (hs : ∀ e ∈ E, e.1 ∈ D) : E.length ≤ D.length := by
 have := nodup_le (E.map (·.1)) D (once_nodup (riseE_once h)) fun x hx => by
  obtain ⟨e, he, rfl⟩ := List.mem_map.1 hx
  exact hs e he
 simpa using this
theorem delS_lt {k : Pth} : ∀ {E : Ixs} {i : Nat}, valS E k = some i → (delS E k).length + 1 = E.length
 | [], _, h => by cases h
 | e :: r, i, h => by
  unfold valS at h
  unfold delS
  by_cases he : e.1 = k
  ·rw [if_pos he]; rfl
  ·rw [if_neg he] at h ⊢
   have := delS_lt h
   simp only [List.length_cons]
   omega
theorem putL_le (k : Pth) (v : Nat) : ∀ E : Ixs, (putL E k v).length ≤ E.length + 1
 | [] => Nat.le_refl _
 | e :: r => by
  unfold putL
  split
  ·have := putL_le k v r
   simp only [List.length_cons]
   omega
  ·split <;> simp
structure Lv0 (D : List Pth) (m c : Nat) (R : TT) : Prop where
 rn : riseE R.now
 rs : riseE R.safe
 now : ∀ e ∈ R.now, e.1 ∈ D
 safe : ∀ e ∈ R.safe, e.1 ∈ D
 nmk : ∀ n ∈ R.notes, ∀ p i, n = Nte.mk p i → p ∈ D
 m : R.now.length + R.notes.length ≤ m
 clock : R.clock ≤ c
def Lv (ok : Pth → Bool) (d m c : Nat) (R : TT) : Prop := ∃ D : List Pth, D.length ≤ d ∧ (∀ k ∈ D, ok k = true) ∧ Lv0 D m c R
section
variable {ok : Pth → Bool} {D : List Pth} {d m c : Nat} {R : TT}
theorem Lv.new (room : Int) : Lv ok 0 0 0 (newT room) := ⟨[], Nat.le_refl _, fun k hk => (by cases hk), trivial, trivial, fun e he => (by cases he), fun e he => (by cases he), fun n hn => (by cases hn), Nat.le_refl _, Nat.le_refl _⟩
theorem Lv.mono (h : Lv ok d m c R) {d' m' c' : Nat} (h1 : d ≤ d') (h2 : m ≤ m') (h3 : c ≤ c') : Lv ok d' m' c' R := by
 obtain ⟨D, a1, a2, a3, a4, a5, a6, a7, a8, a9⟩ := h
 exact ⟨D, Nat.le_trans a1 h1, a2, a3, a4, a5, a6, a7, Nat.le_trans a8 h2, Nat.le_trans a9 h3⟩
theorem Lv0.op (h : Lv0 D m c R) (b : Bool) : Lv0 D m c (opT R b).2 := by
 obtain ⟨e1, e2, e3, e4, e5, e6⟩ := opT_eq R b
 obtain ⟨a1, a2, a3, a4, a5, a6, a7⟩ := h
 exact ⟨by rw [e2]; exact a1, by rw [e3]; exact a2, by rw [e2]; exact a3, by rw [e3]; exact a4, by rw [e4]; exact a5, by rw [e2, e4]; exact a6, by rw [e5]; exact a7⟩
theorem Lv.op (h : Lv ok d m c R) (b : Bool) : Lv ok d m c (opT R b).2 := by
 obtain ⟨D, a1, a2, a3⟩ := h
 exact ⟨D, a1, a2, a3.op b⟩
theorem Lv.setFuse (h : Lv ok d m c R) (x : Int) : Lv ok d m c { R with fuse := x } := by
 obtain ⟨D, a1, a2, a3, a4, a5, a6, a7, a8, a9⟩ := h
 exact ⟨D, a1, a2, a3, a4, a5, a6, a7, a8, a9⟩
theorem Lv.make (h : Lv ok d m c R) (p : Pth) : Lv ok (d + 1) (m + 2) (c + 1) (makeL R (ok p) p).2 := by
 obtain ⟨D, a1, a2, a3⟩ := h.op (ok p)
 have triv : Lv ok (d + 1) (m + 2) (c + 1) (opT R (ok p)).2 := Lv.mono ⟨D, a1, a2, a3⟩ (Nat.le_succ _) (by omega) (Nat.le_succ _)
 unfold makeL
 dsimp only
 split
 ·exact triv
 ·rename_i hz
  split
  ·exact triv
  ·have hp : ok p = true := by
    cases hh : ok p with
    | true => rfl
    | false =>
     rw [hh] at hz
     exact absurd (show (opT R false).1 ≠ 0 by simp [opT]) hz
   obtain ⟨b1, b2, b3, b4, b5, b6, b7⟩ := a3
   refine ⟨p :: D, Nat.succ_le_succ a1, fun k hk => ?_, riseE_put b1, b2, fun e he => ?_, fun e he => List.mem_cons_of_mem _ (b4 e he), fun n hn q i hq => ?_, ?_, Nat.succ_le_succ b7⟩
   ·rcases List.mem_cons.1 hk with rfl | hk
    ·exact hp
    ·exact a2 k hk
   ·rcases putL_mem he with rfl | he
    ·exact List.mem_cons_self ..
    ·exact List.mem_cons_of_mem _ (b3 e he)
   ·rcases List.mem_append.1 hn with hn | hn
    ·exact List.mem_cons_of_mem _ (b5 n hn q i hq)
    ·rw [List.mem_singleton.1 hn] at hq
     cases hq
     exact List.mem_cons_self ..
   ·have := putL_le p (opT R (ok p)).2.files.length (opT R (ok p)).2.now
    show (putL (opT R (ok p)).2.now p _).length + ((opT R (ok p)).2.notes ++ [_]).length ≤ m + 2
    rw [List.length_append, List.length_singleton]
    omega
theorem Lv.rm (h : Lv ok d m c R) (b : Bool) (p : Pth) : Lv ok d m (c + 1) (rmL R b p).2 := by
 obtain ⟨D, a1, a2, a3⟩ := h.op b
 have triv : Lv ok d m (c + 1) (opT R b).2 := Lv.mono ⟨D, a1, a2, a3⟩ (Nat.le_refl _) (Nat.le_refl _) (Nat.le_succ _)
 unfold rmL
 dsimp only
 split
 ·exact triv
 ·split
  ·exact triv
  ·rename_i i hv
   obtain ⟨b1, b2, b3, b4, b5, b6, b7⟩ := a3
   refine ⟨D, a1, a2, riseE_del b1, b2, fun e he => b3 e (delS_mem he), b4, fun n hn q i hq => ?_, ?_, Nat.succ_le_succ b7⟩
   ·rcases List.mem_append.1 hn with hn | hn
    ·exact b5 n hn q i hq
    ·rw [List.mem_singleton.1 hn] at hq
     cases hq
   ·have := delS_lt hv
    show (delS (opT R b).2.now p).length + ((opT R b).2.notes ++ [_]).length ≤ m
    rw [List.length_append, List.length_singleton]
    omega
theorem Lv.put (h : Lv ok d m c R) (b : Bool) (p : Pth) (g : List Nat → List Nat) : Lv ok d m (c + 1) (putT R b p g).2 := by
 obtain ⟨D, a1, a2, a3⟩ := h.op b
 have triv : Lv ok d m (c + 1) (opT R b).2 := Lv.mono ⟨D, a1, a2, a3⟩ (Nat.le_refl _) (Nat.le_refl _) (Nat.le_succ _)
 unfold putT
 dsimp only
 split
 ·exact triv
 ·split
  ·exact triv
  ·split
   ·exact triv
   ·obtain ⟨b1, b2, b3, b4, b5, b6, b7⟩ := a3
    exact ⟨D, a1, a2, b1, b2, b3, b4, b5, b6, Nat.succ_le_succ b7⟩
theorem Lv.sync (h : Lv ok d m c R) (b : Bool) (p : Pth) : Lv ok d m c (syncT R b p).2 := by
 obtain ⟨D, a1, a2, a3⟩ := h.op b
 unfold syncT
 dsimp only
 split
 ·exact ⟨D, a1, a2, a3⟩
 ·split
  ·exact ⟨D, a1, a2, a3⟩
  ·obtain ⟨b1, b2, b3, b4, b5, b6, b7⟩ := a3
   exact ⟨D, a1, a2, b1, b2, b3, b4, b5, b6, b7⟩
theorem Lv.syncP (h : Lv ok d m c R) : Lv ok d m c (syncPL R).2 := by
 obtain ⟨D, a1, a2, a3⟩ := h.op true
 unfold syncPL
 dsimp only
 split
 ·exact ⟨D, a1, a2, a3⟩
 ·obtain ⟨b1, b2, b3, b4, b5, b6, b7⟩ := a3
  exact ⟨D, a1, a2, b1, b1, b3, b3, fun n hn => (by cases hn), (by show (opT R true).2.now.length + 0 ≤ m; omega), b7⟩
theorem doAllL_in : ∀ {l : List Nte} {E : Ixs}, riseE E → (∀ e ∈ E, e.1 ∈ D) → (∀ n ∈ l, ∀ p i, n = .mk p i → p ∈ D) → riseE (doAllL l E) ∧ ∀ e ∈ doAllL l E, e.1 ∈ D
 | [], E, h1, h2, _ => ⟨h1, h2⟩
 | n :: l, E, h1, h2, h3 => by
  refine doAllL_in (l := l) (E := doL n E) ?_ ?_ fun m hm => h3 m (List.mem_cons_of_mem _ hm)
  ·cases n with
   | mk p i => exact riseE_put h1
   | ren a b => exact h1
   | rm p => exact riseE_del h1
  ·intro e he
   cases n with
   | mk p i =>
    rcases putL_mem he with rfl | he
    ·exact h3 _ (List.mem_cons_self ..) p i rfl
    ·exact h2 e he
   | ren a b => exact h2 e he
   | rm p => exact h2 e (delS_mem he)
theorem crashLL_in (was : Ixs) : ∀ (l : Ixs) (T : TT) (ps : List Int), ((crashLL was T l ps).now.map (·.1)) = T.now.map (·.1) ++ l.map (·.1) ∧ (crashLL was T l ps).clock ≤ T.clock + l.length
 | [], T, ps => ⟨by simp [crashLL], Nat.le_refl _⟩
 | e :: r, T, ps => by
  obtain ⟨h1, h2⟩ := crashLL_in was r (crash1L was T e (hd0 ps)) ps.tail
  have h3 : (crash1L was T e (hd0 ps)).now.map (·.1) = T.now.map (·.1) ++ [e.1] := by
   unfold crash1L
   dsimp only
   split <;> simp
  have h4 : (crash1L was T e (hd0 ps)).clock ≤ T.clock + 1 := by
   unfold crash1L
   dsimp only
   split
   ·exact Nat.le_succ _
   ·exact Nat.le_refl _
  rw [h3] at h1
  refine ⟨?_, ?_⟩
  ·show (crashLL was (crash1L was T e (hd0 ps)) r ps.tail).now.map (·.1) = _
   rw [h1]; simp
  ·show (crashLL was (crash1L was T e (hd0 ps)) r ps.tail).clock ≤ T.clock + (r.length + 1)
   omega
theorem riseE_of : ∀ {E F : Ixs}, E.map (·.1) = F.map (·.1) → riseE F → riseE E
 | [], [], _, _ => trivial
 | [], f :: s, h, _ => by simp at h
 | e :: r, [], h, _ => by simp at h
 | e :: r, f :: s, h, hr => by
  rw [List.map_cons, List.map_cons, List.cons.injEq] at h
  refine ⟨fun x hx => ?_, riseE_of h.2 hr.2⟩
  have : x.1 ∈ s.map (·.1) := by rw [← h.2]; exact List.mem_map_of_mem hx
  obtain ⟨y, hy, hxy⟩ := List.mem_map.1 this
  rw [h.1, ← hxy]
  exact hr.1 y hy
theorem Lv.crash (h : Lv ok d m c R) (keep : Int) (ps : List Int) : Lv ok d d (c + d + 1) (crashR R keep ps) := by
 obtain ⟨D, a1, a2, b1, b2, b3, b4, b5, b6, b7⟩ := h
 unfold crashR
 dsimp only
 obtain ⟨l1, l2⟩ := doAllL_in (D := D) (l := R.notes.take ((max 0 keep).toNat % (R.notes.length + 1))) b2 b4 fun n hn => b5 n (List.mem_of_mem_take hn)
 generalize doAllL (R.notes.take ((max 0 keep).toNat % (R.notes.length + 1))) R.safe = l at l1 l2
 have hll := rise_le l1 l2
 obtain ⟨c1, c2⟩ := crashLL_in R.now l { R with clock := R.clock + 1, now := [], safe := l, notes := [] } ps
 have c3 := crashLL_keep R.now l { R with clock := R.clock + 1, now := [], safe := l, notes := [] } ps
 generalize crashLL R.now { R with clock := R.clock + 1, now := [], safe := l, notes := [] } l ps = A at c1 c2 c3
 have c1' : A.now.map (·.1) = l.map (·.1) := by simpa using c1
 have hr := riseE_of c1' l1
 have hin : ∀ e ∈ A.now, e.1 ∈ D := fun e he => by
  have : e.1 ∈ l.map (·.1) := by rw [← c1']; exact List.mem_map_of_mem he
  obtain ⟨y, hy, hxy⟩ := List.mem_map.1 this
  rw [← hxy]; exact l2 y hy
 have hlen : A.now.length = l.length := by
  have := congrArg List.length c1'
  simpa using this
 refine ⟨D, a1, a2, hr, hr, hin, hin, fun n hn => ?_, ?_, ?_⟩
 ·have hn' : n ∈ A.notes := hn
  rw [c3] at hn'; cases hn'
 ·show A.now.length + A.notes.length ≤ d
  rw [c3, hlen]
  show l.length + 0 ≤ d
  omega
 ·have c2' : A.clock ≤ R.clock + 1 + l.length := c2
  show A.clock ≤ c + d + 1
  omega
theorem Lv.rms : ∀ (l : List Pth) {c : Nat} {R : TT}, Lv ok d m c R → Lv ok d m (c + l.length) (stepsT (l.map fun q T => rmL T true q) R).2
 | [], c, R, h => h
 | q :: r, c, R, h => by
  have h1 := h.rm true q
  show Lv ok d m (c + (r.length + 1)) (if (rmL R true q).1 ≠ 0 then rmL R true q else stepsT (r.map fun q T => rmL T true q) (rmL R true q).2).2
  split
  ·exact h1.mono (Nat.le_refl _) (Nat.le_refl _) (by omega)
  ·exact (Lv.rms r h1).mono (Nat.le_refl _) (Nat.le_refl _) (by omega)
theorem Lv.bm (h : Lv ok d m c R) : Bm (d + m) c R := by
 obtain ⟨D, a1, a2, b1, b2, b3, b4, b5, b6, b7⟩ := h
 have := rise_le b2 b4
 exact ⟨by omega, by omega, b7⟩
theorem Lv.key (h : Lv ok d m c R) : ∀ e ∈ R.now, ok e.1 = true := by
 obtain ⟨D, a1, a2, b1, b2, b3, b4, b5, b6, b7⟩ := h
 exact fun e he => a2 _ (b3 e he)
end
end Go.Abs
end

section
namespace Go.Abs
open Go
set_option linter.unusedVariables false
set_option linter.unusedSimpArgs false

section
variable {P : Program} {S : Sums}
def syGoN (P : Program) (S : Sums) (R : Nat → Prop) (n : Nat) (ops : Array Oper) (base : Nat) : List Oper → List Oper → Nat → Env → AH → List (Nat × AO) → (Env → AH → Prop) → Prop
 | [], rest, i, t, h, pend, K => syGo0 P S n ops base rest i t h pend K
 | o :: r, rest, i, t, h, pend, K => syDSK P S R n ops base i o t h pend fun t' h' pend' => syGoN P S R n ops base r rest (i + 1) t' h' pend' K
def SSN (P : Program) (R : Nat → Prop) (n m : Nat) (ops : Array Oper) (ss : List DS) : Prop :=
 ∀ j o s s', j < m → ops[j]? = some o → ss[j]? = some s → ss[j + 1]? = some s' → StepOK P R n ops o s.t s.h s'.t s'.h
theorem syGo0_len {n : Nat} {ops : Array Oper} {base : Nat} {K : Env → AH → Prop} : ∀ {l : List Oper} {i : Nat} {t : Env} {h : AH} {pend : List (Nat × AO)} {acc : List DS}, syGo0 P S n ops base l i t h pend K →
  syGo P S n ops base l i t h pend acc fun ss t' h' => (∃ suf, ss = acc ++ ({ t := t, h := h, pend := pend } : DS) :: suf ∧ suf.length = l.length) ∧ K t' h'
 | [], i, t, h, pend, acc, hw => ⟨⟨[], rfl, rfl⟩, hw⟩
 | o :: r, i, t, h, pend, acc, hw => syDS_mono (fun t' h' pend' hk => by
   refine syGo_mono (fun ss t2 h2 hx => ?_) (syGo0_len (l := r) (acc := acc ++ [({ t := t, h := h, pend := pend } : DS)]) hk)
   obtain ⟨⟨suf, e1, e2⟩, hK⟩ := hx
   exact ⟨⟨({ t := t', h := h', pend := pend' } : DS) :: suf, by rw [e1]; simp, by simp [e2]⟩, hK⟩) hw
theorem syGoN_go {R : Nat → Prop} {n m : Nat} {ops : Array Oper} {base : Nat} {rest : List Oper} : ∀ {l : List Oper} {i : Nat} {t : Env} {h : AH} {pend : List (Nat × AO)} {acc : List DS} {K : Env → AH → Prop}, (∃ pre, ops.toList = pre ++ (l ++ rest) ∧ pre.length = i) → i + l.length = m → acc.length = i →
  SSN P R n m ops (acc ++ [({ t := t, h := h, pend := pend } : DS)]) → syGoN P S R n ops base l rest i t h pend K →
  syGo P S n ops base (l ++ rest) i t h pend acc fun ss t' h' => (SSN P R n m ops ss ∧ ss.length = ops.size + 1) ∧ K t' h'
 | [], i, t, h, pend, acc, K, ⟨pre, hp, hl⟩, hm, ha, hs, hw => by
  refine syGo_mono (fun ss t' h' hx => ?_) (syGo0_len (acc := acc) hw)
  obtain ⟨⟨suf, e1, e2⟩, hK⟩ := hx
  have hz : ops.size = i + rest.length := by rw [← Array.length_toList, hp]; simp [hl]
  refine ⟨⟨?_, by rw [e1]; simp [ha, e2, hz]; omega⟩, hK⟩
  intro j oj s s' hj hoj hsj hsj'
  have hm' : i = m := by simpa using hm
  have e3 : ss = (acc ++ [({ t := t, h := h, pend := pend } : DS)]) ++ suf := by rw [e1]; simp
  refine hs j oj s s' hj hoj ?_ ?_
  ·rw [e3, List.getElem?_append_left (by simp; omega)] at hsj; exact hsj
  ·rw [e3, List.getElem?_append_left (by simp; omega)] at hsj'; exact hsj'
 | o :: r, i, t, h, pend, acc, K, ⟨pre, hp, hl⟩, hm, ha, hs, hw => by
  refine syDS_mono (fun t' h' pend' hk => ?_) (syDSK_step hw)
  refine syGoN_go (l := r) ⟨pre ++ [o], by rw [hp]; simp, by simp [hl]⟩ (by simp at hm; omega) (by simp [ha]) ?_ hk.2
  intro j oj s s' hjm hoj hsj hsj'
  by_cases hj : j + 1 < acc.length + 1
  ·refine hs j oj s s' hjm hoj ?_ ?_
   ·rw [List.getElem?_append_left (by simp; omega)] at hsj; exact hsj
   ·rw [List.getElem?_append_left (by simp; omega)] at hsj'; exact hsj'
  ·have hjl : j + 1 < ((acc ++ [({ t := t, h := h, pend := pend } : DS)]) ++ [({ t := t', h := h', pend := pend' } : DS)]).length := (List.getElem?_eq_some_iff.1 hsj').1
   simp at hjl
   have hje : j = acc.length := by omega
   subst hje
   have h1 : s = { t := t, h := h, pend := pend } := by
    rw [List.getElem?_append_left (by simp), List.getElem?_append_right (Nat.le_refl _)] at hsj
    simpa using hsj.symm
   have h2 : s' = { t := t', h := h', pend := pend' } := by
    rw [List.getElem?_append_right (by simp)] at hsj'
    simpa using hsj'.symm
   have h3 : oj = o := by
    rw [← Array.getElem?_toList, hp, ha, ← hl, List.getElem?_append_right (Nat.le_refl _)] at hoj
    simpa using hoj.symm
   subst h1; subst h2; subst h3
   exact hk.1
theorem SSN.chain {R : Nat → Prop} {n m : Nat} {ops : Array Oper} {ss : List DS} (hm : m ≤ ops.size) (hs : SSN P R n m ops ss) (hl : ss.length = ops.size + 1) : ∀ (b a : Nat), a ≤ b → b ≤ m → ∀ sa sb, ss[a]? = some sa → ss[b]? = some sb → ∀ id, R id → sb.h.get id = sa.h.get id
 | 0, a, hab, _, sa, sb, h1, h2, id, hr => by
  obtain rfl : a = 0 := by omega
  rw [h1] at h2; cases h2; rfl
 | b + 1, a, hab, hb, sa, sb, h1, h2, id, hr => by
  by_cases he : a = b + 1
  ·subst he; rw [h1] at h2; cases h2; rfl
  ·have h3 : ss[b]? = some ss[b] := List.getElem?_eq_getElem (by omega)
   have h4 : ops[b]? = some ops[b] := Array.getElem?_eq_getElem (by omega)
   rw [(hs b _ _ _ (by omega) h4 h3 h2).keep id hr]
   exact hs.chain hm hl b a (by omega) (by omega) sa _ h1 h3 id hr
theorem sameAll_goodN {R : Nat → Prop} {Rc : Rec} {n m : Nat} {ops : Array Oper} {ss : List DS} (hm : m ≤ ops.size) (hs : SSN P R n m ops ss) (hl : ss.length = ops.size + 1) : ∀ (prs : List (Nat × Nat)), (∀ p, p ∈ prs → GoodP P ops p) → (∀ p, p ∈ prs → p.2 < m) → sameAll P Rc n ops ss prs = true
 | [], _, _ => rfl
 | (j, i) :: r, hg, hb => by
  obtain ⟨hji, oj, oi, hoj, hoi, hcl⟩ := hg (j, i) (List.mem_cons_self ..)
  have hb1 : i < m := hb (j, i) (List.mem_cons_self ..)
  simp only at hji hoj hoi
  have hi : i < ops.size := (Array.getElem?_eq_some_iff.1 hoi).1
  have g1 : ss[i]? = some ss[i] := List.getElem?_eq_getElem (by omega)
  have g2 : ss[i + 1]? = some ss[i + 1] := List.getElem?_eq_getElem (by omega)
  have g3 : ss[j]? = some ss[j] := List.getElem?_eq_getElem (by omega)
  have g4 : ss[j + 1]? = some ss[j + 1] := List.getElem?_eq_getElem (by omega)
  refine sameAll_one hoi g1 g2 g3 g4 ?_ (sameAll_goodN hm hs hl r (fun p hp => hg p (List.mem_cons_of_mem _ hp)) fun p hp => hb p (List.mem_cons_of_mem _ hp))
  rcases hcl with ⟨c1, c2⟩ | ⟨c1, c2⟩
  ·rw [if_pos (by rw [c1]; rfl)]
   exact sameAt_low hoi (hs i _ _ _ hb1 hoi g1 g2) c1 fun id hr => (hs.chain hm hl i j (by omega) (by omega) _ _ g3 g1 id hr).symm
  ·rw [if_neg (by rw [c1]; decide)]
   exact sameAt_low hoj (hs j _ _ _ (by omega) hoj g3 g4) c2 fun id hr => hs.chain hm hl (i + 1) j (by omega) (by omega) _ _ g3 g2 id hr
def lowFree (m : Nat) (o : Option (List (Nat × Nat))) : Bool := match o with
 | some prs => prs.all fun p => Nat.blt p.2 m
 | none => false
theorem syDraw.keepN {n : Nat} {l : List Oper} {t : Env} {h : AH} {K : Env → AH → Prop} (m : Nat) (R : Nat → Prop) (hf : P.follows .mixedOrders = true) (hs : lowFree m (statGo P l.toArray l 0 [] [] []) = true) (hm : Nat.ble m l.length = true)
  (hw : syGoN P S R n l.toArray h.nx (l.take m) (l.drop m) 0 t { tr := h.tr, nx := h.nx + l.length } [] K) : syDraw P S n l.toArray t h K ⟨⟩ ⟨⟩ ⟨⟩ ⟨⟩ := by
 rw [Nat.ble_eq] at hm
 cases hp : statGo P l.toArray l 0 [] [] [] with
 | none => rw [hp] at hs; cases hs
 | some prs =>
  rw [hp] at hs
  have hb : ∀ p, p ∈ prs → p.2 < m := fun p hm => by
   have := List.all_eq_true.1 hs p hm
   rw [Nat.blt_eq] at this
   exact this
  refine syDraw.go prs hf hp ?_
  have h1 := syGoN_go (P := P) (S := S) (R := R) (m := m) (ops := l.toArray) (l := l.take m) (rest := l.drop m) (i := 0) (acc := []) ⟨[], by simp, rfl⟩ (by rw [List.length_take]; omega) rfl (fun j o s s' _ _ _ h2 => by simp at h2) hw
  rw [List.take_append_drop] at h1
  refine syGo_mono (fun ss t' h' hk => ⟨?_, hk.2⟩) h1
  exact sameAll_goodN (by simpa using hm) hk.1.1 hk.1.2 prs (statGo_good l 0 [] [] [] prs rfl (by simp) (fun p hp => by simp at hp) hp) hb
theorem syGoN_nil (R : Nat → Prop) (n : Nat) (ops : Array Oper) (base : Nat) (rest : List Oper) (i : Nat) (t : Env) (h : AH) (pend : List (Nat × AO)) (K : Env → AH → Prop) : syGoN P S R n ops base [] rest i t h pend K = syGo0 P S n ops base rest i t h pend K := propext Iff.rfl
theorem syGoN_cons (R : Nat → Prop) (n : Nat) (ops : Array Oper) (base : Nat) (o : Oper) (r rest : List Oper) (i : Nat) (t : Env) (h : AH) (pend : List (Nat × AO)) (K : Env → AH → Prop) : syGoN P S R n ops base (o :: r) rest i t h pend K = syDSK P S R n ops base i o t h pend fun t' h' pend' => syGoN P S R n ops base r rest (i + 1) t' h' pend' K := rfl
theorem syDS_some (n : Nat) (ops : Array Oper) (base i : Nat) (dst : Option Tmp) (op : Op) (ty : TypeId) (pos : String) (after : Array Edge) (g : Nat × Bool) (t : Env) (h : AH) (pend : List (Nat × AO)) (K : Env → AH → List (Nat × AO) → Prop) :
  syDS P S n ops base i { dst, op, type := ty, pos, after, guard := some g } t h pend K = bnd (wantedA ops t { dst, op := .move (.tmp 0), type := ty, pos, after, guard := some g }) (fun b => ifB (.bool b)
   (clsK (clsOf P op)
    (bnd (allocA P (opnd t) op) (fun x => syPut n t dst (x.2 (base + i)) fun t' => K t' h (pend ++ [(base + i, x.1)])) ⟨⟩)
    (syO P S (opnd t) op (absorb pend h) fun v h' => syPut n t dst v fun t' => K t' h' [])
    (syO P S (opnd t) op h fun v _ => syPut n t dst v fun t' => K t' h pend) ⟨⟩ ⟨⟩ ⟨⟩)
   (clsK (clsOf P op)
    (syPut n t dst (.tup []) fun t' => K t' h pend)
    (syPut n t dst (.tup []) fun t' => K t' (absorb pend h) [])
    (syPut n t dst (.tup []) fun t' => K t' h pend) ⟨⟩ ⟨⟩ ⟨⟩) ⟨⟩ ⟨⟩) ⟨⟩ := by
 unfold syDS
 show clsK (clsOf P op) _ _ _ _ _ _ = _
 generalize clsOf P op = c
 rcases c with _ | _ | _ | _ | c <;> rfl
end
attribute [go_sem ↓] syDS_some
attribute [go_sem ↓] syGoN_nil syGoN_cons
end Go.Abs
end
