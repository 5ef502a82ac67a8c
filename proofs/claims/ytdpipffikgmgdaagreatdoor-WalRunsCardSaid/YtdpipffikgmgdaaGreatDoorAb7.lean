/- The abstract layer, parts 51 to 55. Conditions: none. -/
import Derived.Test.YtdpipffikgmgdaaGreatDoorAb6

section
namespace Go.Abs
open Go
set_option linter.unusedVariables false
set_option linter.unusedSimpArgs false

namespace Wal
def stepsT : List (TT → Nat × TT) → TT → Nat × TT
  | [], T => (0, T)
  | f :: r, T => if (f T).1 ≠ 0 then f T else stepsT r (f T).2
def remT (q : Pth) (T : TT) : Nat × TT := if (statT T q).2.2 = true then rmT T true q else (0, T)
def tailT (p q : Pth) (b : List Nat) : List (TT → Nat × TT) := [fun T => makeT T true q, fun T => putT T true q fun _ => b, fun T => syncT T true q, fun T => renT T true q p, syncPT]
def asideT (p q : Pth) (b : List Nat) (T : TT) : Nat × TT := stepsT (remT q :: tailT p q b) T
structure Lg where
  e : Nat
  size : Nat
  n : Nat
def openT (p q : Pth) (T : TT) : Option (Lg × List (List Nat)) × Nat × TT :=
  if (statT T p).2.2 = false then
    if (asideT p q [] T).1 ≠ 0 then (none, asideT p q [] T) else (some (⟨0, 0, 0⟩, []), asideT p q [] T)
  else
    let r := readT T true p
    if r.2.1 ≠ 0 then (none, r.2) else
    let s := scn (r.1.length + 1) r.1
    if s.2.2 ≠ 0 then (none, s.2.2, r.2.2) else
    let r2 := if s.2.1 < r.1.length then asideT p q (r.1.take s.2.1) r.2.2 else (0, r.2.2)
    if r2.1 ≠ 0 then (none, r2) else
    let r3 := remT q r2.2
    if r3.1 ≠ 0 then (none, r3) else (some (⟨0, s.2.1, s.1.length⟩, s.1), r3)
def appendL (p : Pth) (L : Lg) (T : TT) (s : List Nat) : Nat × Lg × TT :=
  if L.e ≠ 0 then (L.e, L, T) else
  let r := putT T true p fun o => o ++ frm s
  if r.1 ≠ 0 then (r.1, { L with e := r.1 }, r.2) else (0, ⟨0, L.size + (frm s).length, L.n + 1⟩, r.2)
def syncL (p : Pth) (L : Lg) (T : TT) : Nat × Lg × TT :=
  if L.e ≠ 0 then (L.e, L, T) else ((syncT T true p).1, { L with e := (syncT T true p).1 }, (syncT T true p).2)
def asideL (p q : Pth) (L : Lg) (T : TT) (s : List (List Nat)) : Nat × Lg × TT :=
  if L.e ≠ 0 then (L.e, L, T) else
  let r := asideT p q (frs s) T
  if r.1 ≠ 0 then (r.1, { L with e := r.1 }, r.2) else (0, ⟨0, (frs s).length, s.length⟩, r.2)

/-! ### Steps, with a fuse -/
def nf (φ : Int) : Int := if 0 < φ then φ - 1 else φ
theorem nf0 : nf (-1) = -1 := rfl
section
variable {R : Int} {N Sf : Ixs} {nt : List Nte} {c : Nat} {φ : Int} {fs : List Fil} {p q : Pth}
theorem opS (h : φ ≠ 0) : opT ⟨R, N, Sf, nt, c, false, φ, fs⟩ true = (0, ⟨R, N, Sf, nt, c, false, nf φ, fs⟩) := by
  by_cases h2 : 0 < φ
  · simp [opT, nf, h, h2]
  · simp [opT, nf, h, h2]
theorem opX : opT ⟨R, N, Sf, nt, c, false, 0, fs⟩ true = (11, ⟨R, N, Sf, nt, c, true, -1, fs⟩) := by simp [opT]
theorem makeS (h : φ ≠ 0) (hv : valS N q = none) : makeT ⟨R, N, Sf, nt, c, false, φ, fs⟩ true q = (0, ⟨R, updS N q fs.length, Sf, nt ++ [.mk q fs.length], c + 1, false, nf φ, fs ++ [⟨[], [], c + 1⟩]⟩) := by
  simp [makeT, opS h, hv, noteT, doN]
theorem putS (h : φ ≠ 0) {i : Nat} {f : Fil} (hv : valS N q = some i) (hf : fs[i]? = some f) {g : List Nat → List Nat} (hg : ((lenE fs N : Nat) : Int) - f.b.length + (g f.b).length ≤ R) :
    putT ⟨R, N, Sf, nt, c, false, φ, fs⟩ true q g = (0, ⟨R, N, Sf, nt, c + 1, false, nf φ, fs.set i ⟨g f.b, f.s, c + 1⟩⟩) := by
  have : ¬ R < ((lenE fs N : Nat) : Int) - f.b.length + (g f.b).length := by omega
  simp [putT, opS h, hv, TT.used, TT.fil, hf, this]
theorem syncS (h : φ ≠ 0) {i : Nat} {f : Fil} (hv : valS N q = some i) (hf : fs[i]? = some f) :
    syncT ⟨R, N, Sf, nt, c, false, φ, fs⟩ true q = (0, ⟨R, N, Sf, nt, c, false, nf φ, fs.set i ⟨f.b, f.b, f.st⟩⟩) := by
  simp [syncT, opS h, hv, TT.fil, hf]
theorem renS (h : φ ≠ 0) {i : Nat} (hv : valS N q = some i) (hqp : ¬ q = p) :
    renT ⟨R, N, Sf, nt, c, false, φ, fs⟩ true q p = (0, ⟨R, delS (updS N p i) q, Sf, nt ++ [.ren q p], c + 1, false, nf φ, fs⟩) := by
  simp [renT, opS h, hv, hqp, noteT, doN, tickT]
theorem rmS1 (h : φ ≠ 0) {i : Nat} (hv : valS N q = some i) :
    rmT ⟨R, N, Sf, nt, c, false, φ, fs⟩ true q = (0, ⟨R, delS N q, Sf, nt ++ [.rm q], c + 1, false, nf φ, fs⟩) := by
  simp [rmT, opS h, hv, noteT, doN, tickT]
theorem syncPS (h : φ ≠ 0) : syncPT ⟨R, N, Sf, nt, c, false, φ, fs⟩ = (0, ⟨R, N, doAll nt Sf, [], c, false, nf φ, fs⟩) := by
  simp [syncPT, opS h, keepT]
theorem readS (h : φ ≠ 0) {i : Nat} {f : Fil} (hv : valS N q = some i) (hf : fs[i]? = some f) :
    readT ⟨R, N, Sf, nt, c, false, φ, fs⟩ true q = (f.b, 0, ⟨R, N, Sf, nt, c, false, nf φ, fs⟩) := by
  simp [readT, opS h, hv, TT.fil, hf]
theorem steps_ok {f : TT → Nat × TT} {r : List (TT → Nat × TT)} {T T' : TT} (h : f T = (0, T')) : stepsT (f :: r) T = stepsT r T' := by
  simp [stepsT, h]
theorem steps_bad {f : TT → Nat × TT} {r : List (TT → Nat × TT)} {T T' : TT} {n : Nat} (h : f T = (n, T')) (hn : n ≠ 0) : stepsT (f :: r) T = (n, T') := by
  simp [stepsT, h, hn]
def At (N : Ixs) (fs : List Fil) (p : Pth) (n : Nat) : Prop := (N = [] ∧ n = 0) ∨ ∃ i f, N = [(p, i)] ∧ fs[i]? = some f ∧ f.b.length = n
theorem At.none {n : Nat} (h : At N fs p n) (hpq : ¬ p = q) : valS N q = Option.none := by
  rcases h with ⟨rfl, _⟩ | ⟨i, f, rfl, _⟩
  · rfl
  · simp [valS, hpq]
theorem At.upd {n : Nat} (h : At N fs p n) (hpq : ¬ p = q) {x : Fil} (hx : x.b = []) : valS (updS N q fs.length) q = some fs.length ∧ lenE (fs ++ [x]) (updS N q fs.length) = n ∧ delS (updS (updS N q fs.length) p fs.length) q = [(p, fs.length)] := by
  have hqp : ¬ q = p := fun hh => hpq hh.symm
  rcases h with ⟨rfl, rfl⟩ | ⟨i, f, rfl, hf, rfl⟩
  · simp [updS, valS, delS, lenE, hpq, hqp, hx]
  · have hi : i < fs.length := (List.getElem?_eq_some_iff.1 hf).1
    have : (fs ++ [x])[i]? = some f := by rw [List.getElem?_append_left hi]; exact hf
    simp [updS, valS, delS, lenE, hpq, hqp, hx, this]
theorem tail_ok {n : Nat} {b : List Nat} (hN : At N fs p n) (hpq : ¬ p = q) (hR : ((n + b.length : Nat) : Int) ≤ R) :
    stepsT (tailT p q b) ⟨R, N, Sf, nt, c, false, -1, fs⟩ = (0, ⟨R, [(p, fs.length)], doAll (nt ++ [.mk q fs.length] ++ [.ren q p]) Sf, [], c + 1 + 1 + 1, false, -1, fs ++ [⟨b, b, c + 1 + 1⟩]⟩) := by
  have hm : (-1 : Int) ≠ 0 := by decide
  have hqp : ¬ q = p := fun hh => hpq hh.symm
  obtain ⟨u1, u2, u3⟩ := hN.upd hpq (x := ⟨[], [], c + 1⟩) rfl
  have hl : ∀ x : Fil, (fs ++ [x])[fs.length]? = some x := fun x => by simp
  have hs : ∀ x y : Fil, (fs ++ [x]).set fs.length y = fs ++ [y] := fun x y => by simp
  unfold tailT
  rw [steps_ok (makeS hm (hN.none hpq)), nf0, steps_ok (putS hm u1 (hl _) (by rw [u2]; simp; omega)), nf0, hs, steps_ok (syncS hm u1 (hl _)), nf0, hs, steps_ok (renS hm u1 hqp), nf0, u3, steps_ok (syncPS hm), nf0]
  rfl
theorem rem_ok {j : Nat} (hv : valS N q = some j) : remT q ⟨R, N, Sf, nt, c, false, -1, fs⟩ = (0, ⟨R, delS N q, Sf, nt ++ [.rm q], c + 1, false, -1, fs⟩) := by
  have : (statT ⟨R, N, Sf, nt, c, false, -1, fs⟩ q).2.2 = true := by simp [statT, hv]
  unfold remT
  rw [if_pos this, rmS1 (by decide) hv, nf0]
theorem rem_no {T : TT} (hv : valS T.now q = none) : remT q T = (0, T) := by
  have : (statT T q).2.2 = false := by simp [statT, hv]
  unfold remT
  rw [if_neg (by rw [this]; decide)]
end
def One (T : TT) (p : Pth) (R : Int) (x : List Nat) : Prop := T.room = R ∧ T.off = false ∧ T.fuse = -1 ∧ ∃ i f, T.now = [(p, i)] ∧ T.files[i]? = some f ∧ f.b = x
def Two (T : TT) (p q : Pth) (R : Int) (x : List Nat) : Prop := T.room = R ∧ T.off = false ∧ T.fuse = -1 ∧ ∃ i f, (T.now = [(p, i)] ∨ ∃ j, T.now = [(q, j), (p, i)]) ∧ T.files[i]? = some f ∧ f.b = x
section
variable {p q : Pth} {R : Int} {T : TT} {x : List Nat}
theorem One.two (h : One T p R x) : Two T p q R x := by
  obtain ⟨h1, h2, h3, i, f, h4, h5, h6⟩ := h
  exact ⟨h1, h2, h3, i, f, .inl h4, h5, h6⟩
theorem Two.rem (h : Two T p q R x) (hpq : ¬ p = q) : ∃ T', remT q T = (0, T') ∧ One T' p R x := by
  have hqp : ¬ q = p := fun hh => hpq hh.symm
  obtain ⟨h1, h2, h3, i, f, h4, h5, h6⟩ := h
  rcases h4 with h4 | ⟨j, h4⟩
  · exact ⟨T, rem_no (by rw [h4]; simp [valS, hpq]), h1, h2, h3, i, f, h4, h5, h6⟩
  · obtain ⟨room, now, safe, notes, clock, off, fuse, files⟩ := T
    dsimp only at h1 h2 h3 h4 h5
    subst h1 h2 h3 h4
    refine ⟨_, rem_ok (j := j) (by simp [valS]), rfl, rfl, rfl, i, f, ?_, h5, h6⟩
    simp [delS, hqp, hpq]
theorem One.tail (h : One T p R x) (hpq : ¬ p = q) {b : List Nat} (hR : ((x.length + b.length : Nat) : Int) ≤ R) : ∃ T', stepsT (tailT p q b) T = (0, T') ∧ One T' p R b := by
  obtain ⟨h1, h2, h3, i, f, h4, h5, h6⟩ := h
  obtain ⟨room, now, safe, notes, clock, off, fuse, files⟩ := T
  dsimp only at h1 h2 h3 h4 h5
  subst h1 h2 h3 h4 h6
  exact ⟨_, tail_ok (.inr ⟨i, f, rfl, h5, rfl⟩) hpq hR, rfl, rfl, rfl, files.length, ⟨b, b, clock + 1 + 1⟩, rfl, by simp, rfl⟩
theorem Two.aside (h : Two T p q R x) (hpq : ¬ p = q) {b : List Nat} (hR : ((x.length + b.length : Nat) : Int) ≤ R) : ∃ T', asideT p q b T = (0, T') ∧ One T' p R b := by
  obtain ⟨T1, e1, h1⟩ := h.rem hpq
  obtain ⟨T2, e2, h2⟩ := h1.tail hpq hR
  exact ⟨T2, (steps_ok e1).trans e2, h2⟩
theorem Two.open (h : Two T p q R x) (hpq : ¬ p = q) {s : List (List Nat)} (hs : scn (x.length + 1) x = (s, (frs s).length, 0)) (hx : x.take (frs s).length = frs s) (hR : ((x.length + (frs s).length : Nat) : Int) ≤ R) :
    ∃ T', openT p q T = (some (⟨0, (frs s).length, s.length⟩, s), 0, T') ∧ One T' p R (frs s) := by
  have hw : (statT T p).2.2 = true ∧ readT T true p = (x, 0, T) := by
    have hqp : ¬ q = p := fun hh => hpq hh.symm
    obtain ⟨h1, h2, h3, i, f, h4, h5, h6⟩ := h
    obtain ⟨room, now, safe, notes, clock, off, fuse, files⟩ := T
    dsimp only at h1 h2 h3 h4 h5
    subst h1 h2 h3 h6
    have hv : valS now p = some i := by
      rcases h4 with rfl | ⟨j, rfl⟩
      · simp [valS]
      · simp [valS, hqp]
    exact ⟨by simp [statT, hv], by rw [readS (by decide) hv h5, nf0]⟩
  unfold openT
  rw [if_neg (by rw [hw.1]; decide), hw.2]
  dsimp only
  rw [if_neg (by decide), hs]
  dsimp only
  rw [if_neg (by decide), hx]
  by_cases hl : (frs s).length < x.length
  · rw [if_pos hl]
    obtain ⟨T2, e2, h2⟩ := h.aside hpq hR
    obtain ⟨T3, e3, h3⟩ := (h2.two (q := q)).rem hpq
    rw [e2]
    dsimp only
    rw [if_neg (by decide), e3]
    exact ⟨T3, rfl, h3⟩
  · rw [if_neg hl]
    obtain ⟨T3, e3, h3⟩ := h.rem hpq
    dsimp only
    rw [if_neg (by decide), e3]
    have : x = frs s := by rw [← hx, List.take_of_length_le (by omega)]
    exact ⟨T3, rfl, this ▸ h3⟩
theorem frs_ge : ∀ l : List (List Nat), l.length ≤ (frs l).length
  | [] => Nat.le_refl _
  | s :: r => by
    have := frs_ge r
    show r.length + 1 ≤ (frm s ++ frs r).length
    rw [List.length_append, frm_len]
    omega
theorem One.open {s : List (List Nat)} (h : One T p R (frs s)) (hpq : ¬ p = q) (hs : ∀ x ∈ s, x.length ≤ 1048576) (hR : (((frs s).length + (frs s).length : Nat) : Int) ≤ R) :
    ∃ T', openT p q T = (some (⟨0, (frs s).length, s.length⟩, s), 0, T') ∧ One T' p R (frs s) :=
  (h.two (q := q)).open hpq (scn_frs s _ hs (by have := frs_ge s; omega)) List.take_length hR
theorem open_new (hpq : ¬ p = q) (hR : 0 ≤ R) : openT p q (newT R) = (some (⟨0, 0, 0⟩, []), 0, ⟨R, [(p, 0)], [(p, 0)], [], 3, false, -1, [⟨[], [], 2⟩]⟩) := by
  have hqp : ¬ q = p := fun hh => hpq hh.symm
  have e : asideT p q [] (newT R) = (0, ⟨R, [(p, 0)], [(p, 0)], [], 3, false, -1, [⟨[], [], 2⟩]⟩) := by
    refine (steps_ok (rem_no (T := newT R) rfl)).trans ?_
    refine (tail_ok (n := 0) (.inl ⟨rfl, rfl⟩) hpq (by simpa using hR)).trans ?_
    simp [doAll, doN, updS, valS, delS, hpq, hqp]
  unfold openT
  rw [if_pos (by rfl), e]
  rfl
theorem One.append (h : One T p R x) (L : Lg) (hL : L.e = 0) {s : List Nat} (hR : ((x.length + s.length + 8 : Nat) : Int) ≤ R) :
    ∃ T', appendL p L T s = (0, ⟨0, L.size + (frm s).length, L.n + 1⟩, T') ∧ One T' p R (x ++ frm s) := by
  obtain ⟨h1, h2, h3, i, f, h4, h5, h6⟩ := h
  obtain ⟨room, now, safe, notes, clock, off, fuse, files⟩ := T
  dsimp only at h1 h2 h3 h4 h5
  subst h1 h2 h3 h4 h6
  have hi : i < files.length := (List.getElem?_eq_some_iff.1 h5).1
  have e := putS (R := room) (Sf := safe) (nt := notes) (c := clock) (φ := -1) (fs := files) (N := [(p, i)]) (q := p) (by decide) (i := i) (by simp [valS]) h5 (g := fun o => o ++ frm s) (by
    simp [lenE, h5, frm_len]; simp at hR; omega)
  unfold appendL
  rw [if_neg (by rw [hL]; decide), e]
  dsimp only
  rw [if_neg (by decide)]
  exact ⟨_, rfl, rfl, rfl, rfl, i, _, rfl, by rw [List.getElem?_set_self hi], rfl⟩
theorem One.sync (h : One T p R x) (L : Lg) (hL : L.e = 0) : ∃ T', syncL p L T = (0, L, T') ∧ One T' p R x := by
  obtain ⟨h1, h2, h3, i, f, h4, h5, h6⟩ := h
  obtain ⟨room, now, safe, notes, clock, off, fuse, files⟩ := T
  dsimp only at h1 h2 h3 h4 h5
  subst h1 h2 h3 h4 h6
  obtain ⟨e, z, n⟩ := L
  dsimp only at hL
  subst hL
  have hi : i < files.length := (List.getElem?_eq_some_iff.1 h5).1
  have e := syncS (R := room) (Sf := safe) (nt := notes) (c := clock) (φ := -1) (fs := files) (N := [(p, i)]) (q := p) (by decide) (i := i) (by simp [valS]) h5
  unfold syncL
  rw [if_neg (by simp), e]
  exact ⟨_, rfl, rfl, rfl, rfl, i, ⟨f.b, f.b, f.st⟩, rfl, List.getElem?_set_self hi, rfl⟩
theorem One.asideL (h : One T p R x) (L : Lg) (hL : L.e = 0) (hpq : ¬ p = q) {s : List (List Nat)} (hR : ((x.length + (frs s).length : Nat) : Int) ≤ R) :
    ∃ T', Wal.asideL p q L T s = (0, ⟨0, (frs s).length, s.length⟩, T') ∧ One T' p R (frs s) := by
  obtain ⟨T', e, h'⟩ := (h.two (q := q)).aside hpq hR
  unfold Wal.asideL
  rw [if_neg (by rw [hL]; decide), e]
  exact ⟨T', rfl, h'⟩
end
end Wal
end Go.Abs
end

section
namespace Go.Abs
open Go
set_option linter.unusedVariables false
set_option linter.unusedSimpArgs false

namespace Wal
/-! ### What is read from the beginning of frames -/
theorem unfE_ok {l : List Nat} (h : unfE l = 0) : told l + 8 ≤ l.length := by
  unfold unfE at h
  split at h
  · cases h
  · split at h
    · cases h
    · split at h
      · cases h
      · omega
theorem scn_fuel : ∀ (f g : Nat) (l : List Nat), l.length < f → l.length < g → scn f l = scn g l
  | 0, g, l, hf, hg => by omega
  | f + 1, g, l, hf, hg => by
    obtain ⟨g, rfl⟩ : ∃ g', g = g' + 1 := ⟨g - 1, by omega⟩
    unfold scn
    by_cases h : unfE l = 0
    · have hk := unfE_ok h
      rw [if_pos h, if_pos h, scn_fuel f g (l.drop (told l + 8)) (by simp; omega) (by simp; omega)]
    · rw [if_neg h, if_neg h]
theorem scn_whole : ∀ (f : Nat) (l : List Nat), (scn f l).2.1 ≤ l.length
  | 0, l => Nat.zero_le _
  | f + 1, l => by
    unfold scn
    by_cases h : unfE l = 0
    · have hk := unfE_ok h
      have ih := scn_whole f (l.drop (told l + 8))
      rw [if_pos h]
      simp only [List.length_drop] at ih ⊢
      omega
    · rw [if_neg h]
      split <;> exact Nat.zero_le _
theorem scn_succ (f : Nat) (l : List Nat) : scn (f + 1) l = if unfE l = 0 then (piece l :: (scn f (l.drop (told l + 8))).1, told l + 8 + (scn f (l.drop (told l + 8))).2.1, (scn f (l.drop (told l + 8))).2.2) else if unfE l = 5 then ([], 0, 0) else ([], 0, 4) := rfl
theorem scn_app : ∀ (a : List (List Nat)) (f : Nat) (y : List Nat), (∀ s ∈ a, s.length ≤ 1048576) → scn (a.length + f) (frs a ++ y) = (a ++ (scn f y).1, (frs a).length + (scn f y).2.1, (scn f y).2.2)
  | [], f, y, _ => by simp [frs]
  | s :: r, f, y, hs => by
    have ih := scn_app r f y (fun x hx => hs x (List.mem_cons_of_mem _ hx))
    have hs0 := hs s (List.mem_cons_self ..)
    have e : (s :: r).length + f = (r.length + f) + 1 := by simp; omega
    have e2 : frs (s :: r) ++ y = frm s ++ (frs r ++ y) := by simp [frs]
    rw [e, e2]
    obtain ⟨h1, h2, h3⟩ := unf_frm hs0 (frs r ++ y)
    have ht := told_frm hs0 (frs r ++ y)
    rw [scn_succ, if_pos h1, h2, h3, ih, ht]
    have : (frs (s :: r)).length = s.length + 8 + (frs r).length := by
      show (frm s ++ frs r).length = _
      rw [List.length_append, frm_len]
    rw [this]
    dsimp only
    rw [Nat.add_assoc (s.length + 8) (frs r).length, List.cons_append]
theorem tot_cut {a d : List (List Nat)} (m : Nat) (ha : ∀ s ∈ a, s.length ≤ 1048576) (hd : ∀ s ∈ d, s.length ≤ 1048576) : ∃ k, k ≤ d.length ∧
    scn ((frs a ++ (frs d).take m).length + 1) (frs a ++ (frs d).take m) = (a ++ d.take k, (frs (a ++ d.take k)).length, 0) ∧ (frs a ++ (frs d).take m).take (frs (a ++ d.take k)).length = frs (a ++ d.take k) := by
  obtain ⟨k, hk, e⟩ := scn_take d ((frs a ++ (frs d).take m).length + d.length + 1) m hd (by omega)
  have e2 := scn_app a ((frs a ++ (frs d).take m).length + d.length + 1) ((frs d).take m) ha
  have hw := scn_whole ((frs a ++ (frs d).take m).length + d.length + 1) ((frs d).take m)
  rw [e] at e2 hw
  dsimp only at e2 hw
  refine ⟨k, hk, ?_, ?_⟩
  · rw [scn_fuel _ (a.length + ((frs a ++ (frs d).take m).length + d.length + 1)) _ (by omega) (by omega), e2, frs_app, List.length_append]
  · have hd2 : frs d = frs (d.take k) ++ frs (d.drop k) := by rw [← frs_app, List.take_append_drop]
    rw [frs_app, List.length_append, List.take_append, List.take_of_length_le (by omega), Nat.add_sub_cancel_left, List.take_take]
    congr 1
    have hm : (frs (d.take k)).length ≤ m := by
      rw [List.length_take] at hw
      omega
    rw [Nat.min_eq_left hm]
    conv => lhs; rw [hd2]
    rw [List.take_append_of_le_length (Nat.le_refl _), List.take_length]
/-! ### A crash -/
theorem left_ext (x y : List Nat) (st : Nat) (part : Int) : ∃ m, leftF ⟨x ++ y, x, st⟩ part = x ++ y.take m := by
  unfold leftF
  rw [if_pos (by simp)]
  refine ⟨(max 0 part).toNat % ((x ++ y).length - x.length + 1), ?_⟩
  show (x ++ y).take (x.length + _) = _
  rw [List.take_append, List.take_of_length_le (by omega), Nat.add_sub_cancel_left]
theorem left_all (y : List Nat) (st : Nat) (part : Int) : leftF ⟨y, y, st⟩ part = y := by
  unfold leftF
  simp [Nat.mod_one]
theorem crash1_eq (was : Ixs) (T : TT) (s : Pth) (part : Int) {i : Nat} (hv : valS T.safe s = some i) :
    ∃ c st, crash1 was T s part = { T with clock := c, now := updS T.now s T.files.length, files := T.files ++ [⟨leftF (T.fil i) part, leftF (T.fil i) part, st⟩] } := by
  unfold crash1
  rw [hv]
  dsimp only
  split
  · exact ⟨T.clock, (T.fil i).st, rfl⟩
  · exact ⟨T.clock + 1, T.clock + 1, rfl⟩
section
variable {p q : Pth} {R : Int} {T : TT} {x : List Nat}
theorem crash_one {keep : Int} {ps : List Int} {i : Nat} {f : Fil} (hs : (keepT T ((max 0 keep).toNat % (T.notes.length + 1))).safe = [(p, i)]) (hf : T.files[i]? = some f) :
    ∃ part, Two (crashT T keep ps) p q T.room (leftF f part) := by
  refine ⟨hd0 ps, ?_⟩
  unfold crashT
  dsimp only
  generalize hT1 : keepT T ((max 0 keep).toNat % (T.notes.length + 1)) = T1 at *
  have hr : T1.room = T.room ∧ T1.files = T.files := by rw [← hT1]; exact ⟨rfl, rfl⟩
  obtain ⟨c, st, e⟩ := crash1_eq T.now { T1 with clock := T1.clock + 1, now := [] } p (hd0 ps) (i := i) (by show valS T1.safe p = some i; rw [hs]; simp [valS])
  have hfil : ({ T1 with clock := T1.clock + 1, now := [] } : TT).fil i = f := by show (T1.files[i]?).getD _ = f; rw [hr.2, hf]; rfl
  rw [hfil] at e
  have hso : sortS (T1.safe.map (·.1)) = [p] := by rw [hs]; rfl
  have hl : crashL T.now { T1 with clock := T1.clock + 1, now := [] } [p] ps = crash1 T.now { T1 with clock := T1.clock + 1, now := [] } p (hd0 ps) := rfl
  rw [hso, hl, e]
  exact ⟨hr.1, rfl, rfl, T1.files.length, ⟨leftF f (hd0 ps), leftF f (hd0 ps), st⟩, .inl rfl, by simp, rfl⟩
theorem crash_two {keep : Int} {ps : List Int} {i j : Nat} {f : Fil} (hpq : ¬ p = q) (hlt : lessA q p = true ∧ lessA p q = false) (hs : (keepT T ((max 0 keep).toNat % (T.notes.length + 1))).safe = [(p, i), (q, j)]) (hf : T.files[i]? = some f) :
    ∃ part, Two (crashT T keep ps) p q T.room (leftF f part) := by
  have hqp : ¬ q = p := fun hh => hpq hh.symm
  refine ⟨hd0 ps.tail, ?_⟩
  unfold crashT
  dsimp only
  generalize hT1 : keepT T ((max 0 keep).toNat % (T.notes.length + 1)) = T1 at *
  have hr : T1.room = T.room ∧ T1.files = T.files := by rw [← hT1]; exact ⟨rfl, rfl⟩
  have hi : i < T1.files.length := by rw [hr.2]; exact (List.getElem?_eq_some_iff.1 hf).1
  have hso : sortS (T1.safe.map (·.1)) = [q, p] := by rw [hs]; simp [sortS, insS, hlt.1, hlt.2]
  obtain ⟨c, st, e⟩ := crash1_eq T.now { T1 with clock := T1.clock + 1, now := [] } q (hd0 ps) (i := j) (by show valS T1.safe q = some j; rw [hs]; simp [valS, hpq])
  have hl : crashL T.now { T1 with clock := T1.clock + 1, now := [] } [q, p] ps = crash1 T.now (crash1 T.now { T1 with clock := T1.clock + 1, now := [] } q (hd0 ps)) p (hd0 ps.tail) := rfl
  rw [hso, hl, e]
  generalize leftF (({ T1 with clock := T1.clock + 1, now := [] } : TT).fil j) (hd0 ps) = w
  obtain ⟨c2, st2, e2⟩ := crash1_eq T.now { T1 with clock := c, now := updS [] q T1.files.length, files := T1.files ++ [⟨w, w, st⟩] } p (hd0 ps.tail) (i := i) (by show valS T1.safe p = some i; rw [hs]; simp [valS])
  have hfil : ({ T1 with clock := c, now := updS [] q T1.files.length, files := T1.files ++ [⟨w, w, st⟩] } : TT).fil i = f := by
    show ((T1.files ++ [_])[i]?).getD _ = f
    rw [List.getElem?_append_left hi, hr.2, hf]; rfl
  rw [hfil] at e2
  have := e2
  dsimp only at this ⊢
  rw [this]
  exact ⟨hr.1, rfl, rfl, T1.files.length + 1, ⟨leftF f (hd0 ps.tail), leftF f (hd0 ps.tail), st2⟩, .inr ⟨T1.files.length, by simp [updS, hqp]⟩, by simp, rfl⟩
/-! ### A log that is appended to and put aside, with a fuse -/
def Wt (R : Int) (p : Pth) (c : Nat) (off : Bool) (φ : Int) (z x : List Nat) (st : Nat) : TT := ⟨R, [(p, 0)], [(p, 0)], [], c, off, φ, [⟨z, x, st⟩]⟩
theorem wt_append {c st : Nat} {φ : Int} {z : List Nat} (L : Lg) (hL : L.e = 0) (h : φ ≠ 0) {s : List Nat} (hR : ((z.length + s.length + 8 : Nat) : Int) ≤ R) :
    appendL p L (Wt R p c false φ z x st) s = (0, ⟨0, L.size + (frm s).length, L.n + 1⟩, Wt R p (c + 1) false (nf φ) (z ++ frm s) x (c + 1)) := by
  have e := putS (R := R) (Sf := [(p, 0)]) (nt := []) (c := c) (fs := [⟨z, x, st⟩]) (N := [(p, 0)]) (q := p) h (i := 0) (by simp [valS]) rfl (g := fun o => o ++ frm s) (by
    simp [lenE, frm_len]; simp at hR; omega)
  unfold appendL Wt
  rw [if_neg (by rw [hL]; decide), e]
  rfl
theorem wt_appendX {c st : Nat} {z : List Nat} (L : Lg) (hL : L.e = 0) {s : List Nat} :
    appendL p L (Wt R p c false 0 z x st) s = (11, { L with e := 11 }, Wt R p c true (-1) z x st) := by
  unfold appendL Wt putT
  rw [if_neg (by rw [hL]; decide), opX]
  rfl
theorem append_bad (L : Lg) (hL : L.e ≠ 0) (T : TT) (s : List Nat) : appendL p L T s = (L.e, L, T) := by
  unfold appendL
  rw [if_pos hL]
theorem wt_sync {c st : Nat} {φ : Int} {z : List Nat} (L : Lg) (hL : L.e = 0) (h : φ ≠ 0) : syncL p L (Wt R p c false φ z x st) = (0, L, Wt R p c false (nf φ) z z st) := by
  obtain ⟨e, z', n⟩ := L
  dsimp only at hL
  subst hL
  have e := syncS (R := R) (Sf := [(p, 0)]) (nt := []) (c := c) (fs := [⟨z, x, st⟩]) (N := [(p, 0)]) (q := p) h (i := 0) (by simp [valS]) rfl
  unfold syncL Wt
  rw [if_neg (by simp), e]
  rfl
def appAll (p : Pth) : Lg → TT → List (List Nat) → Lg × TT
  | L, T, [] => (L, T)
  | L, T, s :: r => appAll p (appendL p L T s).2.1 (appendL p L T s).2.2 r
def Pre (p q : Pth) (R : Int) (z x y : List Nat) (T : TT) : Prop := T.room = R ∧
  ((T.notes = [] ∧ T.safe = [(p, 0)] ∧ ∃ st, T.files[0]? = some ⟨z, x, st⟩) ∨ (T.notes = [.mk q 1] ∧ T.safe = [(p, 0)] ∧ ∃ st, T.files[0]? = some ⟨z, x, st⟩) ∨
  (T.notes = [.mk q 1, .ren q p] ∧ T.safe = [(p, 0)] ∧ (∃ st, T.files[0]? = some ⟨z, x, st⟩) ∧ ∃ st, T.files[1]? = some ⟨y, y, st⟩) ∨ (T.notes = [] ∧ T.safe = [(p, 1)] ∧ ∃ st, T.files[1]? = some ⟨y, y, st⟩))
def Pst (p : Pth) (R : Int) (y : List Nat) (T : TT) : Prop := T.room = R ∧ T.notes = [] ∧ T.safe = [(p, 1)] ∧ ∃ st, T.files[1]? = some ⟨y, y, st⟩
theorem keep_nil {T : TT} (h : T.notes = []) (n : Nat) : (keepT T n).safe = T.safe := by simp [keepT, h, doAll]
theorem Pre.crash {z y r : List Nat} (h : Pre p q R (x ++ r) x y T) (hpq : ¬ p = q) (hlt : lessA q p = true ∧ lessA p q = false) (keep : Int) (ps : List Int) :
    ∃ w, Two (crashT T keep ps) p q R w ∧ (w = y ∨ ∃ m, w = x ++ r.take m) := by
  have hqp : ¬ q = p := fun hh => hpq hh.symm
  obtain ⟨rfl, h⟩ := h
  have fin : ∀ st part, ∃ m, leftF ⟨x ++ r, x, st⟩ part = x ++ r.take m := fun st part => left_ext x r st part
  rcases h with ⟨h1, h2, st, h3⟩ | ⟨h1, h2, st, h3⟩ | ⟨h1, h2, ⟨st, h3⟩, st', h4⟩ | ⟨h1, h2, st, h3⟩
  · obtain ⟨part, hh⟩ := crash_one (q := q) (ps := ps) (keep := keep) ((keep_nil h1 _).trans h2) h3
    exact ⟨_, hh, .inr (fin _ _)⟩
  · have hk : (max 0 keep).toNat % (T.notes.length + 1) = 0 ∨ (max 0 keep).toNat % (T.notes.length + 1) = 1 := by rw [h1]; simp; omega
    rcases hk with hk | hk
    · obtain ⟨part, hh⟩ := crash_one (q := q) (ps := ps) (keep := keep) (T := T) (p := p) (i := 0) (by rw [hk]; simpa [keepT, doAll] using h2) h3
      exact ⟨_, hh, .inr (fin _ _)⟩
    · obtain ⟨part, hh⟩ := crash_two (ps := ps) (keep := keep) (T := T) (p := p) (q := q) (i := 0) (j := 1) hpq hlt (by rw [hk]; simp [keepT, doAll, doN, h1, h2, updS, hpq]) h3
      exact ⟨_, hh, .inr (fin _ _)⟩
  · have hk : (max 0 keep).toNat % (T.notes.length + 1) = 0 ∨ (max 0 keep).toNat % (T.notes.length + 1) = 1 ∨ (max 0 keep).toNat % (T.notes.length + 1) = 2 := by rw [h1]; simp; omega
    rcases hk with hk | hk | hk
    · obtain ⟨part, hh⟩ := crash_one (q := q) (ps := ps) (keep := keep) (T := T) (p := p) (i := 0) (by rw [hk]; simpa [keepT, doAll] using h2) h3
      exact ⟨_, hh, .inr (fin _ _)⟩
    · obtain ⟨part, hh⟩ := crash_two (ps := ps) (keep := keep) (T := T) (p := p) (q := q) (i := 0) (j := 1) hpq hlt (by rw [hk]; simp [keepT, doAll, doN, h1, h2, updS, hpq]) h3
      exact ⟨_, hh, .inr (fin _ _)⟩
    · obtain ⟨part, hh⟩ := crash_one (q := q) (ps := ps) (keep := keep) (T := T) (p := p) (i := 1) (by rw [hk]; simp [keepT, doAll, doN, h1, h2, updS, delS, valS, hpq, hqp]) h4
      exact ⟨_, hh, .inl (left_all _ _ _)⟩
  · obtain ⟨part, hh⟩ := crash_one (q := q) (ps := ps) (keep := keep) ((keep_nil h1 _).trans h2) h3
    exact ⟨_, hh, .inl (left_all _ _ _)⟩
theorem Pst.crash {y : List Nat} (h : Pst p R y T) (keep : Int) (ps : List Int) : Two (crashT T keep ps) p q R y := by
  obtain ⟨rfl, h1, h2, st, h3⟩ := h
  obtain ⟨part, hh⟩ := crash_one (q := q) (ps := ps) (keep := keep) ((keep_nil h1 _).trans h2) h3
  rwa [left_all] at hh
end
end Wal
end Go.Abs
end

section
namespace Go.Abs
open Go
set_option linter.unusedVariables false
set_option linter.unusedSimpArgs false

section
variable {P : Program}
def Cs (h : AH) (v : AV) (l : List AV) : Prop :=
  (v = .nilsl ∧ l = []) ∨ ∃ id off c cs o t, v = .sl id off l.length 1 c ∧ h.get id = some (.cells cs o t) ∧ id < h.nx ∧ off + l.length ≤ cs.length ∧ (∀ k, c = some k → l.length ≤ k) ∧ (cs.drop off).take l.length = l
theorem Cs.fr {h h' : AH} {v : AV} {l : List AV} (hb : Cs h v l) (hf : Fr h h') : Cs h' v l := by
  rcases hb with h1 | ⟨id, off, c, cs, o, t, h1, h2, h3, h4, h5, h6⟩
  · exact .inl h1
  · exact .inr ⟨id, off, c, cs, o, t, h1, (hf.get id h3).trans h2, Nat.lt_of_lt_of_le h3 hf.nx, h4, h5, h6⟩
theorem cs_get {cs : List AV} {off : Nat} {l : List AV} (hx : (cs.drop off).take l.length = l) {i : Nat} {b : AV} (hi : l[i]? = some b) : cs[off + i]? = some b := by
  have hil : i < l.length := (List.getElem?_eq_some_iff.1 hi).1
  rw [← hx, List.getElem?_take_of_lt hil, List.getElem?_drop] at hi
  exact hi
theorem Cs.first {h : AH} {v : AV} {l : List AV} (hb : Cs h v l) : lenA v = some l.length ∧ firstA h 1 l.length v = some l := by
  rcases hb with ⟨rfl, rfl⟩ | ⟨id, off, c, cs, o, t, rfl, h2, h3, h4, h5, h6⟩
  · exact ⟨rfl, rfl⟩
  · refine ⟨rfl, ?_⟩
    rw [firstA_sl h2 (Nat.le_refl _) (by omega), Nat.mul_one, h6]
theorem Cs.one {h : AH} {v : AV} {l : List AV} (hb : Cs h v l) : oneA v = true ∧ sameAV 20 v v = true := by
  rcases hb with ⟨rfl, rfl⟩ | ⟨id, off, c, cs, o, t, rfl, _⟩
  · exact ⟨rfl, rfl⟩
  · exact ⟨rfl, by simp [sameAV]⟩
theorem Cs.len {h : AH} {v : AV} {l : List AV} {t e : TypeId} (hb : Cs h v l) (ht : P.underlying t = some (.slice e)) (g : AH) : evLen P g #[t] v = some (.int .i64 (l.length : Nat)) := by
  rcases hb with ⟨rfl, rfl⟩ | ⟨id, off, c, cs, o, tx, rfl, _⟩
  · simp [evLen, ht]
  · simp [evLen, ht]
theorem Cs.slice_to {h : AH} {v : AV} {l : List AV} {t e : TypeId} {hi : Nat} (hb : Cs h v l) (ht : P.underlying t = some (.slice e)) (he : tsize P e = some 1) (hhi : hi ≤ l.length) :
    ∃ v', (∀ h1, evSlice P h1 t v none (some (.int .i64 (hi : Nat))) none = some v') ∧ Cs h v' (l.take hi) ∧ (∀ id off n z c, v' = .sl id off n z c → ∃ off n z c, v = .sl id off n z c) := by
  rcases hb with ⟨rfl, rfl⟩ | ⟨id, off, c, cs, o, tx, rfl, h2, h3, h4, h5, h6⟩
  · obtain rfl : hi = 0 := by simpa using hhi
    refine ⟨.nilsl, fun h1 => ?_, .inl ⟨rfl, rfl⟩, fun _ _ _ _ _ hh => by cases hh⟩
    simp [evSlice, ht, he, boundsA, boundA, upTo]
  · have hlen : (l.take hi).length = hi := by simp; omega
    refine ⟨.sl id off hi 1 c, fun h1 => ?_, .inr ⟨id, off, c, cs, o, tx, ?_, h2, h3, ?_, ?_, ?_⟩, fun _ _ _ _ _ hh => by cases hh; exact ⟨_, _, _, _, rfl⟩⟩
    · have hu : upTo ((hi : Nat) : Int) l.length = some hi := by rw [upTo_of (by omega) (by omega)]; simp
      cases c with
      | none => simp [evSlice, ht, he, boundsA, boundA, hu]
      | some k =>
        have hk := h5 k rfl
        have hu2 : upTo ((hi : Nat) : Int) k = some hi := by rw [upTo_of (by omega) (by omega)]; simp
        simp [evSlice, ht, he, boundsA, boundA, hu, hu2]
    · rw [hlen]
    · rw [hlen]; omega
    · intro k hk
      rw [hlen]
      have := h5 k hk
      omega
    · rw [hlen]
      have := congrArg (List.take hi) h6
      rw [List.take_take, Nat.min_eq_left hhi] at this
      exact this
def Co (n0 : Nat) (h : AH) (v : AV) (l : List AV) : Prop :=
  ∃ id c cs tx, v = .sl id 0 l.length 1 c ∧ h.get id = some (.cells cs true tx) ∧ id < h.nx ∧ n0 ≤ id ∧ cs.take l.length = l ∧ l.length ≤ cs.length ∧ (c = none ∨ c = some l.length)
theorem Co.cs {n0 : Nat} {h : AH} {v : AV} {l : List AV} (hb : Co n0 h v l) : Cs h v l := by
  obtain ⟨id, c, cs, tx, h1, h2, h3, h4, h5, h6, h7⟩ := hb
  refine .inr ⟨id, 0, c, cs, true, tx, h1, h2, h3, by omega, fun k hk => ?_, by rw [List.drop_zero]; exact h5⟩
  rcases h7 with rfl | rfl
  · cases hk
  · cases hk; exact Nat.le_refl _
theorem Co.fr {n0 : Nat} {h h' : AH} {v : AV} {l : List AV} (hb : Co n0 h v l) (hf : Fr h h') : Co n0 h' v l := by
  obtain ⟨id, c, cs, tx, h1, h2, h3, h4, h5⟩ := hb
  exact ⟨id, c, cs, tx, h1, (hf.get id h3).trans h2, Nat.lt_of_lt_of_le h3 hf.nx, h4, h5⟩
theorem Co.low {n0 n1 : Nat} {h : AH} {v : AV} {l : List AV} (hb : Co n0 h v l) (hn : n1 ≤ n0) : Co n1 h v l := by
  obtain ⟨id, c, cs, tx, h1, h2, h3, h4, h5⟩ := hb
  exact ⟨id, c, cs, tx, h1, h2, h3, Nat.le_trans hn h4, h5⟩
theorem Co.app {h0 h : AH} {v x : AV} {l m : List AV} {st xt e : TypeId} {d : TypeDesc} {bt : Nat} (hu : P.underlying st = some (.slice e)) (hd : P.underlying xt = some d) (hni : notInt d = true) (hi : appI P e = some (1, bt)) (hbt : bt ≤ 64) (hb : Co h0.nx h v l) (hn : lenA x = some m.length) (hnew : firstA h 1 m.length x = some m) (hall : m.all oneA = true) (hf : Fr h0 h) (hl : l.length + m.length ≤ 1073741824) :
    ∃ v' h', evAppend P h #[st, xt] v x = some (.val v' h') ∧ Fr h0 h' ∧ Co h0.nx h' v' (l ++ m) ∧ oneA v' = true := by
  obtain ⟨id, c, cs, tx, rfl, h2, h3, h4, h5, h6, h7⟩ := hb
  have hold : firstA h 1 l.length (.sl id 0 l.length 1 c) = some l := by
    rw [firstA_sl h2 (Nat.le_refl _) (by omega), List.drop_zero, Nat.mul_one, h5]
  have hm : (2 * (l.length + m.length) + 1000) * bt ≤ (2 * (l.length + m.length) + 1000) * 64 := Nat.mul_le_mul_left _ hbt
  rw [evAppend_eq hu hd hni hi hn hnew rfl hold hall (Nat.le_trans hm (by omega)) (by omega) rfl]
  by_cases hm : m.length = 0
  · rw [if_pos hm]
    have : m = [] := List.length_eq_zero_iff.1 hm
    subst this
    exact ⟨_, _, rfl, hf, ⟨id, c, cs, tx, by simp, h2, h3, h4, by simpa using h5, by simpa using h6, by simpa using h7⟩, rfl⟩
  · rw [if_neg hm]
    have hlm : (l ++ m).length = l.length + m.length := by simp
    have fin : ∀ (g : AH) (tf : Bool), Fr h0 g → g.nx = h.nx → ∃ v' h', newCells g (l ++ m) tf (fun id => .sl id 0 (l.length + m.length) 1 none) = some (.val v' h') ∧ Fr h0 h' ∧ Co h0.nx h' v' (l ++ m) ∧ oneA v' = true := fun g tf hg hgn =>
      ⟨_, _, rfl, hg.news _, ⟨g.nx, none, l ++ m, tf, by rw [hlm], AH.get_new_eq rfl, Nat.lt_succ_self _, hg.nx, List.take_length, Nat.le_refl _, .inl rfl⟩, rfl⟩
    rcases h7 with rfl | rfl
    · simp only
      rw [if_pos (by simp [ownBlock, h2])]
      exact fin _ _ (hf.del h4) rfl
    · simp only
      rw [if_pos (by omega)]
      exact fin _ _ hf rfl
theorem Ss.cs {n0 : Nat} {h : AH} {v : AV} {l : List (List Nat)} (hb : Ss n0 h v l) : Cs h v (l.map AV.str) := by
  rcases hb with ⟨rfl, rfl⟩ | ⟨id, rfl, h2, h3, h4⟩
  · exact .inl ⟨rfl, rfl⟩
  · exact .inr ⟨id, 0, none, l.map AV.str, true, false, by simp, h2, h3, by simp, fun k hk => (by cases hk), by rw [List.drop_zero, List.take_length]⟩
def Tx (K : Nat → Nat) (h : AH) (v : AV) (l : List (List Nat)) : Prop := Cs h v (l.map AV.str) ∧ ∀ id off n z c, v = .sl id off n z c → K id = 0
theorem Tx.fr {K : Nat → Nat} {h h' : AH} {v : AV} {l : List (List Nat)} (hb : Tx K h v l) (hf : Fr h h') : Tx K h' v l := ⟨hb.1.fr hf, hb.2⟩
theorem Tx.len {K : Nat → Nat} {h : AH} {v : AV} {l : List (List Nat)} {t e : TypeId} (hb : Tx K h v l) (ht : P.underlying t = some (.slice e)) (g : AH) : evLen P g #[t] v = some (.int .i64 (l.length : Nat)) := by
  have := hb.1.len ht g
  rwa [List.length_map] at this
theorem Tx.get {K : Nat → Nat} {h : AH} {v : AV} {l : List (List Nat)} (hb : Tx K h v l) {i : Nat} {s : List Nat} (hi : l[i]? = some s) : ∃ id off c cs o t, v = .sl id off l.length 1 c ∧ h.get id = some (.cells cs o t) ∧ id < h.nx ∧ cs[off + i]? = some (.str s) := by
  have hil : i < l.length := (List.getElem?_eq_some_iff.1 hi).1
  rcases hb.1 with ⟨_, h1⟩ | ⟨id, off, c, cs, o, t, h1, h2, h3, h4, h5, h6⟩
  · have : l = [] := List.map_eq_nil_iff.1 h1
    rw [this] at hil; simp at hil
  · rw [List.length_map] at h1
    exact ⟨id, off, c, cs, o, t, h1, h2, h3, cs_get h6 (by simp [hi])⟩
theorem Tx.of {K : Nat → Nat} {n0 : Nat} {h : AH} {v : AV} {l : List (List Nat)} (hb : Ss n0 h v l) (top : ∀ j, n0 ≤ j → K j = 0) : Tx K h v l := by
  refine ⟨hb.cs, fun id off n z c hh => ?_⟩
  rcases hb with ⟨h1, _⟩ | ⟨id', h1, h2, h3, h4⟩
  · rw [h1] at hh; cases hh
  · rw [h1] at hh
    cases hh
    exact top _ h4
theorem Tx.own {K : Nat → Nat} {n0 : Nat} {h : AH} {v : AV} {l : List (List Nat)} (hb : Co n0 h v (l.map AV.str)) (top : ∀ j, n0 ≤ j → K j = 0) : Tx K h v l := by
  refine ⟨hb.cs, fun id off n z c hh => ?_⟩
  obtain ⟨id', c', cs, tx, h1, h2, h3, h4, h5⟩ := hb
  rw [h1] at hh
  cases hh
  exact top _ h4
theorem Tx.take {K : Nat → Nat} {h : AH} {v : AV} {l : List (List Nat)} {t e : TypeId} {hi : Nat} (hb : Tx K h v l) (ht : P.underlying t = some (.slice e)) (he : tsize P e = some 1) (hhi : hi ≤ l.length) :
    ∃ v', (∀ h1, evSlice P h1 t v none (some (.int .i64 (hi : Nat))) none = some v') ∧ Tx K h v' (l.take hi) := by
  obtain ⟨v', h1, h2, h3⟩ := hb.1.slice_to ht he (by rw [List.length_map]; exact hhi)
  refine ⟨v', h1, by rw [List.map_take]; exact h2, fun id off n z c hh => ?_⟩
  obtain ⟨_, _, _, _, e⟩ := h3 id off n z c hh
  exact hb.2 _ _ _ _ _ e
end
end Go.Abs
end

section
namespace Go.Abs
open Go
set_option linter.unusedVariables false
set_option linter.unusedSimpArgs false

namespace Wal
theorem updS_len {α : Type} : ∀ (E : List (List Nat × α)) (k : List Nat) (v : α), (updS E k v).length ≤ E.length + 1
  | [], _, _ => Nat.le_refl _
  | e :: r, k, v => by
    unfold updS
    split
    · simp
    · have := updS_len r k v
      simp; omega
theorem delS_len {α : Type} : ∀ (E : List (List Nat × α)) (k : List Nat), (delS E k).length ≤ E.length
  | [], _ => Nat.le_refl _
  | e :: r, k => by
    unfold delS
    split
    · simp
    · have := delS_len r k
      simp; omega
theorem doN_len (t : Nte) (E : Ixs) : (doN t E).length ≤ E.length + 1 := by
  cases t with
  | mk p i => exact updS_len _ _ _
  | ren a b =>
    show (match valS E a with | some i => delS (updS E b i) a | none => E).length ≤ _
    cases valS E a with
    | none => exact Nat.le_succ _
    | some i => exact Nat.le_trans (delS_len _ _) (updS_len _ _ _)
  | rm p => exact Nat.le_succ_of_le (delS_len _ _)
theorem doAll_len : ∀ (l : List Nte) (E : Ixs), (doAll l E).length ≤ E.length + l.length
  | [], E => Nat.le_refl _
  | t :: r, E => by
    have h1 := doAll_len r (doN t E)
    have h2 := doN_len t E
    show (doAll r (doN t E)).length ≤ E.length + (r.length + 1)
    omega
theorem insS_len (a : Pth) : ∀ l : List Pth, (insS a l).length = l.length + 1
  | [] => rfl
  | b :: r => by
    unfold insS
    cases lessA b a
    · simp
    · simp [insS_len a r]
theorem sortS_len : ∀ l : List Pth, (sortS l).length = l.length
  | [] => rfl
  | a :: r => by
    show (insS a (sortS r)).length = r.length + 1
    rw [insS_len, sortS_len r]
theorem crash1_bd (was : Ixs) (T : TT) (s : Pth) (part : Int) : (crash1 was T s part).now.length ≤ T.now.length + 1 ∧ (crash1 was T s part).clock ≤ T.clock + 1 ∧ (crash1 was T s part).notes = T.notes := by
  unfold crash1
  split
  · exact ⟨Nat.le_succ _, Nat.le_succ _, rfl⟩
  · dsimp only
    split
    · exact ⟨updS_len _ _ _, Nat.le_succ _, rfl⟩
    · exact ⟨updS_len _ _ _, Nat.le_refl _, rfl⟩
theorem crashL_bd (was : Ixs) : ∀ (l : List Pth) (T : TT) (ps : List Int), (crashL was T l ps).now.length ≤ T.now.length + l.length ∧ (crashL was T l ps).clock ≤ T.clock + l.length ∧ (crashL was T l ps).notes = T.notes
  | [], T, _ => ⟨Nat.le_refl _, Nat.le_refl _, rfl⟩
  | s :: r, T, ps => by
    obtain ⟨a1, a2, a3⟩ := crashL_bd was r (crash1 was T s (hd0 ps)) ps.tail
    obtain ⟨b1, b2, b3⟩ := crash1_bd was T s (hd0 ps)
    show (crashL was (crash1 was T s (hd0 ps)) r ps.tail).now.length ≤ T.now.length + (r.length + 1) ∧ (crashL was (crash1 was T s (hd0 ps)) r ps.tail).clock ≤ T.clock + (r.length + 1) ∧ (crashL was (crash1 was T s (hd0 ps)) r ps.tail).notes = T.notes
    exact ⟨by omega, by omega, a3.trans b3⟩
structure Bm (n c : Nat) (T : TT) : Prop where
  now : T.now.length ≤ n
  sn : T.safe.length + T.notes.length ≤ n
  clock : T.clock ≤ c
section
variable {n c : Nat} {T : TT}
theorem Bm.mono (h : Bm n c T) {m d : Nat} (h1 : n ≤ m) (h2 : c ≤ d) : Bm m d T := ⟨Nat.le_trans h.now h1, Nat.le_trans h.sn h1, Nat.le_trans h.clock h2⟩
theorem Bm.op (h : Bm n c T) (b : Bool) : Bm n c (opT T b).2 := by
  obtain ⟨e1, e2, e3, e4, e5, e6⟩ := opT_eq T b
  exact ⟨by rw [e2]; exact h.now, by rw [e3, e4]; exact h.sn, by rw [e5]; exact h.clock⟩
theorem Bm.note (h : Bm n c T) (t : Nte) : Bm (n + 1) c (noteT T t) := by
  have h1 := doN_len t T.now
  have := h.now; have := h.sn
  exact ⟨by show (doN t T.now).length ≤ n + 1; omega, by show T.safe.length + (T.notes ++ [t]).length ≤ n + 1; simp; omega, h.clock⟩
theorem Bm.make (h : Bm n c T) (b : Bool) (p : Pth) : Bm (n + 1) (c + 1) (makeT T b p).2 := by
  unfold makeT
  dsimp only
  split
  · exact (h.op _).mono (Nat.le_succ _) (Nat.le_succ _)
  · split
    · exact (h.op _).mono (Nat.le_succ _) (Nat.le_succ _)
    · have h1 := h.op b
      refine Bm.note ?_ _
      exact ⟨h1.now, h1.sn, Nat.succ_le_succ h1.clock⟩
theorem Bm.put (h : Bm n c T) (b : Bool) (p : Pth) (g : List Nat → List Nat) : Bm n (c + 1) (putT T b p g).2 := by
  have h1 := h.op b
  have h2 := h1.mono (Nat.le_refl n) (Nat.le_succ c)
  unfold putT
  dsimp only
  split
  · exact h2
  · split
    · exact h2
    · split
      · exact h2
      · exact ⟨h1.now, h1.sn, Nat.succ_le_succ h1.clock⟩
theorem Bm.sync (h : Bm n c T) (b : Bool) (p : Pth) : Bm n c (syncT T b p).2 := by
  have h1 := h.op b
  unfold syncT
  dsimp only
  split
  · exact h1
  · split
    · exact h1
    · exact ⟨h1.now, h1.sn, h1.clock⟩
theorem keepT_len (h : Bm n c T) (k : Nat) : (keepT T k).safe.length ≤ n := by
  have h1 := doAll_len (T.notes.take k) T.safe
  have h2 := h.sn
  rw [List.length_take] at h1
  show (doAll (T.notes.take k) T.safe).length ≤ n
  omega
theorem Bm.syncP (h : Bm n c T) : Bm n c (syncPT T).2 := by
  have h1 := h.op true
  unfold syncPT
  dsimp only
  split
  · exact h1
  · have h2 := keepT_len h1 (opT T true).2.notes.length
    exact ⟨h1.now, by show (keepT (opT T true).2 (opT T true).2.notes.length).safe.length + 0 ≤ n; omega, h1.clock⟩
theorem Bm.ren (h : Bm n c T) (b : Bool) (p q : Pth) : Bm (n + 1) (c + 1) (renT T b p q).2 := by
  have h1 := h.op b
  have h2 := h1.mono (Nat.le_succ n) (Nat.le_succ c)
  unfold renT
  dsimp only
  split
  · exact h2
  · split
    · exact h2
    · split
      · exact h2
      · refine Bm.note ?_ _
        exact ⟨h1.now, h1.sn, Nat.succ_le_succ h1.clock⟩
theorem Bm.rm (h : Bm n c T) (b : Bool) (p : Pth) : Bm (n + 1) (c + 1) (rmT T b p).2 := by
  have h1 := h.op b
  have h2 := h1.mono (Nat.le_succ n) (Nat.le_succ c)
  unfold rmT
  dsimp only
  split
  · exact h2
  · split
    · exact h2
    · refine Bm.note ?_ _
      exact ⟨h1.now, h1.sn, Nat.succ_le_succ h1.clock⟩
theorem Bm.read (h : Bm n c T) (b : Bool) (p : Pth) : Bm n c (readT T b p).2.2 := by
  have h1 := h.op b
  unfold readT
  dsimp only
  split
  · exact h1
  · split <;> exact h1
theorem Bm.fuse (h : Bm n c T) (x : Int) : Bm n c { T with fuse := x } := ⟨h.now, h.sn, h.clock⟩
theorem Bm.crash (h : Bm n c T) (keep : Int) (ps : List Int) : Bm n (c + n + 1) (crashT T keep ps) := by
  unfold crashT
  dsimp only
  have hs := keepT_len h ((max 0 keep).toNat % (T.notes.length + 1))
  generalize (max 0 keep).toNat % (T.notes.length + 1) = k at hs
  have hl : (sortS ((keepT T k).safe.map (·.1))).length ≤ n := by rw [sortS_len, List.length_map]; exact hs
  obtain ⟨h1, h2, h3⟩ := crashL_bd T.now (sortS ((keepT T k).safe.map (·.1))) { keepT T k with clock := (keepT T k).clock + 1, now := [] } ps
  have hc := h.clock
  have e0 : (keepT T k).clock = T.clock := rfl
  generalize crashL T.now { keepT T k with clock := (keepT T k).clock + 1, now := [] } (sortS ((keepT T k).safe.map (·.1))) ps = T2 at h1 h2 h3
  simp only [List.length_nil, e0] at h1 h2
  have h3' : T2.notes = [] := h3
  refine ⟨?_, ?_, ?_⟩
  · show T2.now.length ≤ n; omega
  · show T2.now.length + T2.notes.length ≤ n
    rw [h3']; simp; omega
  · show T2.clock ≤ c + n + 1; omega
theorem Bm.new (R : Int) : Bm 0 0 (newT R) := ⟨Nat.le_refl _, Nat.le_refl _, Nat.le_refl _⟩
theorem steps_bm : ∀ (l : List (TT → Nat × TT)) {n c : Nat} {T : TT}, (∀ f ∈ l, ∀ n c T, Bm n c T → Bm (n + 1) (c + 1) (f T).2) → Bm n c T → Bm (n + l.length) (c + l.length) (stepsT l T).2
  | [], _, _, _, _, h => h
  | f :: r, n, c, T, hl, h => by
    have h1 := hl f (List.mem_cons_self ..) n c T h
    show Bm (n + (r.length + 1)) (c + (r.length + 1)) (if (f T).1 ≠ 0 then f T else stepsT r (f T).2).2
    split
    · exact h1.mono (by omega) (by omega)
    · have := steps_bm r (fun g hg => hl g (List.mem_cons_of_mem _ hg)) h1
      exact this.mono (by omega) (by omega)
theorem Bm.rem (h : Bm n c T) (q : Pth) : Bm (n + 1) (c + 1) (remT q T).2 := by
  unfold remT
  split
  · exact h.rm _ _
  · exact h.mono (Nat.le_succ _) (Nat.le_succ _)
theorem tail_bm (p q : Pth) (b : List Nat) : ∀ f ∈ remT q :: tailT p q b, ∀ n c T, Bm n c T → Bm (n + 1) (c + 1) (f T).2 := by
  intro f hf n c T h
  simp only [tailT, List.mem_cons, List.not_mem_nil, or_false] at hf
  rcases hf with rfl | rfl | rfl | rfl | rfl | rfl
  · exact h.rem q
  · exact h.make _ _
  · exact (h.put _ _ _).mono (Nat.le_succ _) (Nat.le_refl _)
  · exact (h.sync _ _).mono (Nat.le_succ _) (Nat.le_succ _)
  · exact h.ren _ _ _
  · exact h.syncP.mono (Nat.le_succ _) (Nat.le_succ _)
theorem Bm.aside (h : Bm n c T) (p q : Pth) (b : List Nat) : Bm (n + 6) (c + 6) (asideT p q b T).2 := steps_bm _ (tail_bm p q b) h
theorem Bm.open (h : Bm n c T) (p q : Pth) : Bm (n + 7) (c + 7) (openT p q T).2.2 := by
  have ha := fun b => (h.aside p q b).mono (Nat.le_succ _) (Nat.le_succ _)
  have hr := h.read true p
  unfold openT
  split
  · split
    · exact ha []
    · exact ha []
  · dsimp only
    split
    · exact hr.mono (by omega) (by omega)
    · split
      · exact hr.mono (by omega) (by omega)
      · have h2 : Bm (n + 6) (c + 6) (if (scn ((readT T true p).1.length + 1) (readT T true p).1).2.1 < (readT T true p).1.length then asideT p q ((readT T true p).1.take (scn ((readT T true p).1.length + 1) (readT T true p).1).2.1) (readT T true p).2.2 else (0, (readT T true p).2.2)).2 := by
          split
          · exact hr.aside _ _ _
          · exact hr.mono (by omega) (by omega)
        revert h2
        generalize (if (scn ((readT T true p).1.length + 1) (readT T true p).1).2.1 < (readT T true p).1.length then asideT p q ((readT T true p).1.take (scn ((readT T true p).1.length + 1) (readT T true p).1).2.1) (readT T true p).2.2 else (0, (readT T true p).2.2)) = r2
        intro h2
        split
        · exact h2.mono (by omega) (by omega)
        · split
          · exact h2.rem q
          · exact h2.rem q
theorem Bm.append (h : Bm n c T) (p : Pth) (L : Lg) (s : List Nat) : Bm n (c + 1) (appendL p L T s).2.2 := by
  unfold appendL
  split
  · exact h.mono (Nat.le_refl _) (Nat.le_succ _)
  · dsimp only
    split <;> exact h.put _ _ _
theorem Bm.syncL (h : Bm n c T) (p : Pth) (L : Lg) : Bm n c (syncL p L T).2.2 := by
  unfold Wal.syncL
  split
  · exact h
  · exact h.sync _ _
theorem Bm.asideL (h : Bm n c T) (p q : Pth) (L : Lg) (s : List (List Nat)) : Bm (n + 6) (c + 6) (asideL p q L T s).2.2 := by
  unfold Wal.asideL
  split
  · exact h.mono (by omega) (by omega)
  · dsimp only
    split <;> exact h.aside _ _ _
end
end Wal
end Go.Abs
end

section
namespace Go.Abs
open Go
set_option linter.unusedVariables false
set_option linter.unusedSimpArgs false

namespace Wal
section
variable {p q : Pth} {R : Int} {T : TT}
theorem steps_one {f : TT → Nat × TT} {r : List (TT → Nat × TT)} {T T' : TT} (h : f T = (0, T')) : stepsT (f :: r) T = stepsT r T' := steps_ok h
theorem open_same {i : Nat} {f : Fil} {s : List (List Nat)} (hoff : T.off = false) (hfu : T.fuse = -1) (hp : valS T.now p = some i) (hf : T.files[i]? = some f) (hq : valS T.now q = none) (hb : f.b = frs s) (hs : ∀ x ∈ s, x.length ≤ 1048576) :
    openT p q T = (some (⟨0, (frs s).length, s.length⟩, s), 0, T) := by
  obtain ⟨room, now, safe, notes, clock, off, fuse, files⟩ := T
  dsimp only at hoff hfu hp hf hq
  subst hoff hfu
  have h1 : (statT ⟨room, now, safe, notes, clock, false, -1, files⟩ p).2.2 = true := by simp [statT, hp]
  have h2 : scn (f.b.length + 1) f.b = (s, (frs s).length, 0) := by
    rw [hb]
    exact scn_frs s _ hs (by have := frs_ge s; omega)
  have h3 : ¬ (frs s).length < f.b.length := by rw [hb]; omega
  have h4 : remT q ⟨room, now, safe, notes, clock, false, -1, files⟩ = (0, ⟨room, now, safe, notes, clock, false, -1, files⟩) := rem_no hq
  unfold openT
  rw [if_neg (by rw [h1]; decide), readS (by decide) hp hf, nf0]
  dsimp only
  rw [if_neg (by decide), h2]
  dsimp only
  rw [if_neg (by decide), if_neg h3]
  dsimp only
  rw [if_neg (by decide), h4]
  rfl
theorem wt_open {c st : Nat} {x : List Nat} {s : List (List Nat)} (hpq : ¬ p = q) (hs : ∀ x ∈ s, x.length ≤ 1048576) : openT p q (Wt R p c false (-1) (frs s) x st) = (some (⟨0, (frs s).length, s.length⟩, s), 0, Wt R p c false (-1) (frs s) x st) :=
  open_same (i := 0) (f := ⟨frs s, x, st⟩) rfl rfl (by simp [Wt, valS]) rfl (by simp [Wt, valS, hpq]) rfl hs
theorem wt_new (hpq : ¬ p = q) (hR : 0 ≤ R) : openT p q (newT R) = (some (⟨0, 0, 0⟩, []), 0, Wt R p 3 false (-1) [] [] 2) := open_new hpq hR
theorem wt_bm {c st : Nat} {off : Bool} {φ : Int} {z x : List Nat} : Bm 1 c (Wt R p c off φ z x st) := ⟨Nat.le_refl _, Nat.le_refl _, Nat.le_refl _⟩
def Wu (R : Int) (p : Pth) (c : Nat) (f : Fil) (y : List Nat) (st : Nat) : TT := ⟨R, [(p, 1)], [(p, 1)], [], c, false, -1, [f, ⟨y, y, st⟩]⟩
theorem wu_bm {c st : Nat} {f : Fil} {y : List Nat} : Bm 1 c (Wu R p c f y st) := ⟨Nat.le_refl _, Nat.le_refl _, Nat.le_refl _⟩
theorem wu_open {c st : Nat} {f : Fil} {s : List (List Nat)} (hpq : ¬ p = q) (hs : ∀ x ∈ s, x.length ≤ 1048576) : openT p q (Wu R p c f (frs s) st) = (some (⟨0, (frs s).length, s.length⟩, s), 0, Wu R p c f (frs s) st) :=
  open_same (i := 1) (f := ⟨frs s, frs s, st⟩) rfl rfl (by simp [Wu, valS]) rfl (by simp [Wu, valS, hpq]) rfl hs
theorem wt_aside {c st : Nat} {z x : List Nat} (L : Lg) (hL : L.e = 0) (hpq : ¬ p = q) {s : List (List Nat)} (hR : ((z.length + (frs s).length : Nat) : Int) ≤ R) :
    asideL p q L (Wt R p c false (-1) z x st) s = (0, ⟨0, (frs s).length, s.length⟩, Wu R p (c + 1 + 1 + 1) ⟨z, x, st⟩ (frs s) (c + 1 + 1)) := by
  have hqp : ¬ q = p := fun hh => hpq hh.symm
  have e : asideT p q (frs s) (Wt R p c false (-1) z x st) = (0, Wu R p (c + 1 + 1 + 1) ⟨z, x, st⟩ (frs s) (c + 1 + 1)) := by
    refine (steps_ok (rem_no (by simp [Wt, valS, hpq]))).trans ?_
    refine (tail_ok (n := z.length) (.inr ⟨0, ⟨z, x, st⟩, rfl, rfl, rfl⟩) hpq hR).trans ?_
    simp [doAll, doN, updS, valS, delS, hpq, hqp, Wu]
  unfold asideL
  rw [if_neg (by rw [hL]; decide), e]
  rfl
theorem frs_snoc {l : List (List Nat)} {i : Nat} {s : List Nat} (hi : l[i]? = some s) : frs (l.take (i + 1)) = frs (l.take i) ++ frm s := by
  have : l.take (i + 1) = l.take i ++ [s] := by rw [List.take_add_one, hi]; rfl
  rw [this, frs_app]
  simp [frs]
theorem frs_take_le' {l : List (List Nat)} (i : Nat) : (frs (l.take i)).length ≤ (frs l).length := by
  have : frs l = frs (l.take i) ++ frs (l.drop i) := by rw [← frs_app, List.take_append_drop]
  rw [this, List.length_append]
  omega
theorem wt_app {c st z0 n0 i : Nat} {pre x : List Nat} {a : List (List Nat)} {s : List Nat} (hi : a[i]? = some s) (hR : ((pre.length + (frs a).length : Nat) : Int) ≤ R) :
    appendL p ⟨0, z0 + (frs (a.take i)).length, n0 + i⟩ (Wt R p c false (-1) (pre ++ frs (a.take i)) x st) s = (0, ⟨0, z0 + (frs (a.take (i + 1))).length, n0 + (i + 1)⟩, Wt R p (c + 1) false (-1) (pre ++ frs (a.take (i + 1))) x (c + 1)) := by
  have h1 := frs_snoc hi
  have h2 := frs_take_le' (l := a) (i + 1)
  rw [h1, List.length_append, frm_len] at h2
  rw [wt_append _ rfl (by decide) (by rw [List.length_append]; omega), h1, List.length_append, List.append_assoc, Nat.add_assoc, Nat.add_assoc]
  rfl
/-! ### A fuse -/
theorem nf_ge {φ : Int} (h : -1 ≤ φ) : -1 ≤ nf φ := by unfold nf; split <;> omega
def AppS (R : Int) (p : Pth) (a b : List (List Nat)) (c0 i : Nat) (L : Lg) (T : TT) : Prop :=
  ∃ c st, c ≤ c0 + i ∧ ((L.e = 0 ∧ ∃ φ : Int, -1 ≤ φ ∧ T = Wt R p c false φ (frs a ++ frs (b.take i)) (frs a) st) ∨ (L.e ≠ 0 ∧ ∃ k, T = Wt R p c true (-1) (frs a ++ frs (b.take k)) (frs a) st))
theorem AppS.step {a b : List (List Nat)} {c0 i : Nat} {L : Lg} (h : AppS R p a b c0 i L T) {s : List Nat} (hi : b[i]? = some s) (hR : (((frs a).length + (frs b).length : Nat) : Int) ≤ R) : AppS R p a b c0 (i + 1) (appendL p L T s).2.1 (appendL p L T s).2.2 := by
  obtain ⟨c, st, hc, ⟨hL, φ, hφ, rfl⟩ | ⟨hL, k, rfl⟩⟩ := h
  · have hsn := frs_snoc hi
    have hle := frs_take_le' (l := b) (i + 1)
    rw [hsn, List.length_append, frm_len] at hle
    by_cases h0 : φ = 0
    · subst h0
      rw [wt_appendX L hL]
      exact ⟨c, st, by omega, .inr ⟨by show (11 : Nat) ≠ 0; decide, i, rfl⟩⟩
    · rw [wt_append L hL h0 (by rw [List.length_append]; omega)]
      exact ⟨c + 1, c + 1, by omega, .inl ⟨rfl, nf φ, nf_ge hφ, by rw [hsn, List.append_assoc]⟩⟩
  · rw [append_bad L hL]
    exact ⟨c, st, by omega, .inr ⟨hL, k, rfl⟩⟩
theorem putX {N Sf : Ixs} {nt : List Nte} {c : Nat} {fs : List Fil} (g : List Nat → List Nat) : putT ⟨R, N, Sf, nt, c, false, 0, fs⟩ true q g = (11, ⟨R, N, Sf, nt, c, true, -1, fs⟩) := by
  unfold putT; rw [opX]; rfl
theorem makeX {N Sf : Ixs} {nt : List Nte} {c : Nat} {fs : List Fil} : makeT ⟨R, N, Sf, nt, c, false, 0, fs⟩ true q = (11, ⟨R, N, Sf, nt, c, true, -1, fs⟩) := by
  unfold makeT; rw [opX]; rfl
theorem syncX {N Sf : Ixs} {nt : List Nte} {c : Nat} {fs : List Fil} : syncT ⟨R, N, Sf, nt, c, false, 0, fs⟩ true q = (11, ⟨R, N, Sf, nt, c, true, -1, fs⟩) := by
  unfold syncT; rw [opX]; rfl
theorem renX {N Sf : Ixs} {nt : List Nte} {c : Nat} {fs : List Fil} : renT ⟨R, N, Sf, nt, c, false, 0, fs⟩ true q p = (11, ⟨R, N, Sf, nt, c, true, -1, fs⟩) := by
  unfold renT; rw [opX]; rfl
theorem syncPX {N Sf : Ixs} {nt : List Nte} {c : Nat} {fs : List Fil} : syncPT ⟨R, N, Sf, nt, c, false, 0, fs⟩ = (11, ⟨R, N, Sf, nt, c, true, -1, fs⟩) := by
  unfold syncPT; rw [opX]; rfl
theorem nf_dec {φ : Int} : φ = 0 ∨ φ ≠ 0 := by omega
theorem asideW {c st : Nat} {φ : Int} {z x : List Nat} (L : Lg) (hL : L.e = 0) (hpq : ¬ p = q) {s : List (List Nat)} (hR : ((z.length + (frs s).length : Nat) : Int) ≤ R) :
    ∃ e L' T', asideL p q L (Wt R p c false φ z x st) s = (e, L', T') ∧ T'.clock ≤ c + 3 ∧ ((e = 0 ∧ Pst p R (frs s) T') ∨ (e ≠ 0 ∧ Pre p q R z x (frs s) T')) := by
  have hqp : ¬ q = p := fun hh => hpq hh.symm
  have fin : ∀ {e T'}, asideT p q (frs s) (Wt R p c false φ z x st) = (e, T') → T'.clock ≤ c + 3 → ((e = 0 ∧ Pst p R (frs s) T') ∨ (e ≠ 0 ∧ Pre p q R z x (frs s) T')) →
      ∃ e L' T', asideL p q L (Wt R p c false φ z x st) s = (e, L', T') ∧ T'.clock ≤ c + 3 ∧ ((e = 0 ∧ Pst p R (frs s) T') ∨ (e ≠ 0 ∧ Pre p q R z x (frs s) T')) := fun {e T'} he hc h => by
    unfold asideL
    rw [if_neg (by rw [hL]; decide), he]
    dsimp only
    by_cases h0 : e = 0
    · rw [if_neg (by omega)]
      subst h0
      exact ⟨_, _, _, rfl, hc, h⟩
    · rw [if_pos h0]
      exact ⟨_, _, _, rfl, hc, h⟩
  have h11 : (11 : Nat) ≠ 0 := by decide
  have hN : At [(p, 0)] [⟨z, x, st⟩] p z.length := .inr ⟨0, ⟨z, x, st⟩, rfl, rfl, rfl⟩
  have hm : (remT q (Wt R p c false φ z x st)) = (0, Wt R p c false φ z x st) := rem_no (by simp [Wt, valS, hpq])
  have e0 : asideT p q (frs s) (Wt R p c false φ z x st) = stepsT (tailT p q (frs s)) (Wt R p c false φ z x st) := steps_ok hm
  obtain ⟨u1, u2, u3⟩ := hN.upd hpq (x := ⟨[], [], c + 1⟩) rfl
  have hl : ∀ x' : Fil, ([(⟨z, x, st⟩ : Fil)] ++ [x'])[([⟨z, x, st⟩] : List Fil).length]? = some x' := fun x' => by simp
  have hs : ∀ x' y : Fil, ([(⟨z, x, st⟩ : Fil)] ++ [x']).set ([⟨z, x, st⟩] : List Fil).length y = [(⟨z, x, st⟩ : Fil)] ++ [y] := fun x' y => by simp
  unfold tailT Wt at e0
  have f0 : ∀ x' : Fil, ([(⟨z, x, st⟩ : Fil)] ++ [x'])[0]? = some ⟨z, x, st⟩ := fun x' => rfl
  have pa : ∀ (N : Ixs) (cc : Nat) (o : Bool) (φ' : Int) (x' : Fil), Pre p q R z x (frs s) ⟨R, N, [(p, 0)], [] ++ [.mk q ([(⟨z, x, st⟩ : Fil)] : List Fil).length], cc, o, φ', [(⟨z, x, st⟩ : Fil)] ++ [x']⟩ := fun N cc o φ' x' => ⟨rfl, .inr (.inl ⟨rfl, rfl, st, rfl⟩)⟩
  rcases nf_dec (φ := φ) with h | h
  · subst h
    rw [steps_bad (f := fun T => makeT T true q) makeX h11] at e0
    exact fin e0 (by show c ≤ c + 3; omega) (.inr ⟨h11, rfl, .inl ⟨rfl, rfl, st, rfl⟩⟩)
  rw [steps_ok (makeS h (hN.none hpq))] at e0
  rcases nf_dec (φ := nf φ) with h2 | h2
  · rw [h2, steps_bad (f := fun T => putT T true q fun _ => frs s) (putX _) h11] at e0
    exact fin e0 (by show c + 1 ≤ c + 3; omega) (.inr ⟨h11, pa _ _ _ _ _⟩)
  rw [steps_ok (putS h2 u1 (hl _) (by rw [u2]; simp; omega)), hs] at e0
  rcases nf_dec (φ := nf (nf φ)) with h3 | h3
  · rw [h3, steps_bad (f := fun T => syncT T true q) syncX h11] at e0
    exact fin e0 (by show c + 1 + 1 ≤ c + 3; omega) (.inr ⟨h11, pa _ _ _ _ _⟩)
  rw [steps_ok (syncS h3 u1 (hl _)), hs] at e0
  rcases nf_dec (φ := nf (nf (nf φ))) with h4 | h4
  · rw [h4, steps_bad (f := fun T => renT T true q p) renX h11] at e0
    exact fin e0 (by show c + 1 + 1 ≤ c + 3; omega) (.inr ⟨h11, pa _ _ _ _ _⟩)
  rw [steps_ok (renS h4 u1 hqp)] at e0
  rcases nf_dec (φ := nf (nf (nf (nf φ)))) with h5 | h5
  · rw [h5, steps_bad (f := syncPT) syncPX h11] at e0
    exact fin e0 (by show c + 1 + 1 + 1 ≤ c + 3; omega) (.inr ⟨h11, rfl, .inr (.inr (.inl ⟨rfl, rfl, ⟨st, rfl⟩, _, rfl⟩))⟩)
  rw [steps_ok (syncPS h5)] at e0
  refine fin (e := 0) e0 (by show c + 1 + 1 + 1 ≤ c + 3; omega) (.inl ⟨rfl, rfl, rfl, ?_, _, rfl⟩)
  show doAll ([] ++ [.mk q 1] ++ [.ren q p]) [(p, 0)] = [(p, 1)]
  simp [doAll, doN, updS, valS, delS, hpq, hqp]
def Has (p q : Pth) (R : Int) (a b d : List (List Nat)) (e : Nat) (T : TT) : Prop :=
  ∃ w, Two T p q R w ∧ (w = frs d ∨ e ≠ 0 ∧ ∃ m, w = frs a ++ (frs b).take m)
theorem asideHas {a b d : List (List Nat)} {c0 : Nat} {L : Lg} (h : AppS R p a b c0 b.length L T) (hpq : ¬ p = q) (hlt : lessA q p = true ∧ lessA p q = false) (hR : (((frs a).length + (frs b).length + (frs d).length : Nat) : Int) ≤ R) (keep : Int) (ps : List Int) :
    Has p q R a b d (asideL p q L T d).1 (crashT (asideL p q L T d).2.2 keep ps) ∧ (asideL p q L T d).2.2.clock ≤ c0 + b.length + 3 := by
  obtain ⟨c, st, hc, ⟨hL, φ, hφ, rfl⟩ | ⟨hL, k, rfl⟩⟩ := h
  · rw [List.take_length]
    obtain ⟨e, L', T', he, hcl, h⟩ := asideW (R := R) (c := c) (st := st) (φ := φ) (z := frs a ++ frs b) (x := frs a) L hL hpq (s := d) (by rw [List.length_append]; omega)
    rw [he]
    refine ⟨?_, by dsimp only; omega⟩
    rcases h with ⟨rfl, h⟩ | ⟨h0, h⟩
    · exact ⟨frs d, h.crash keep ps, .inl rfl⟩
    · obtain ⟨w, h1, h2⟩ := Pre.crash (z := []) (r := frs b) h hpq hlt keep ps
      exact ⟨w, h1, h2.elim .inl fun hm => .inr ⟨h0, hm⟩⟩
  · have e1 : asideL p q L (Wt R p c true (-1) (frs a ++ frs (b.take k)) (frs a) st) d = (L.e, L, Wt R p c true (-1) (frs a ++ frs (b.take k)) (frs a) st) := by
      unfold asideL; rw [if_pos hL]
    rw [e1]
    refine ⟨?_, by show c ≤ _; omega⟩
    have hp : Pre p q R (frs a ++ frs (b.take k)) (frs a) (frs d) (Wt R p c true (-1) (frs a ++ frs (b.take k)) (frs a) st) := ⟨rfl, .inl ⟨rfl, rfl, st, rfl⟩⟩
    obtain ⟨w, h1, h2⟩ := Pre.crash (z := []) (r := frs (b.take k)) hp hpq hlt keep ps
    refine ⟨w, h1, h2.elim .inl fun ⟨m, hm⟩ => .inr ⟨hL, min m (frs (b.take k)).length, ?_⟩⟩
    have hb : frs b = frs (b.take k) ++ frs (b.drop k) := by rw [← frs_app, List.take_append_drop]
    rw [hm, hb, List.take_append_of_le_length (Nat.min_le_right _ _)]
    congr 1
    by_cases hml : m ≤ (frs (b.take k)).length
    · rw [Nat.min_eq_left hml]
    · rw [Nat.min_eq_right (by omega), List.take_length, List.take_of_length_le (by omega)]
theorem Two.len {w : List Nat} (h : Two T p q R w) (hpq : ¬ p = q) : ∀ i, valS T.now p = some i → (T.fil i).b = w := by
  have hqp : ¬ q = p := fun hh => hpq hh.symm
  obtain ⟨_, _, _, i, f, h1, h2, h3⟩ := h
  intro j hj
  have hv : valS T.now p = some i := by
    rcases h1 with h1 | ⟨k, h1⟩
    · rw [h1]; simp [valS]
    · rw [h1]; simp [valS, hqp]
  rw [hv] at hj
  cases hj
  unfold TT.fil
  rw [h2]
  exact h3
theorem Has.opens {a b d : List (List Nat)} {e : Nat} (h : Has p q R a b d e T) (hpq : ¬ p = q) (ha : ∀ s ∈ a, s.length ≤ 1048576) (hb : ∀ s ∈ b, s.length ≤ 1048576) (hd : ∀ s ∈ d, s.length ≤ 1048576) (hR : ((2 * ((frs a).length + (frs b).length + (frs d).length) : Nat) : Int) ≤ R) :
    ∃ s l T1 T2 l2, openT p q T = (some (l, s), 0, T1) ∧ openT p q T1 = (some (l2, s), 0, T2) ∧ (∀ i, valS T.now p = some i → (T.fil i).b.length ≤ (frs a).length + (frs b).length + (frs d).length) ∧ (∀ i, valS T1.now p = some i → (T1.fil i).b.length ≤ (frs a).length + (frs b).length + (frs d).length) ∧
      (s = d ∨ e ≠ 0 ∧ ∃ k, k ≤ b.length ∧ s = a ++ b.take k) := by
  obtain ⟨w, h1, h2⟩ := h
  have key : ∀ s : List (List Nat), scn (w.length + 1) w = (s, (frs s).length, 0) → w.take (frs s).length = frs s → (∀ x ∈ s, x.length ≤ 1048576) → w.length ≤ (frs a).length + (frs b).length + (frs d).length → (frs s).length ≤ (frs a).length + (frs b).length + (frs d).length → (s = d ∨ e ≠ 0 ∧ ∃ k, k ≤ b.length ∧ s = a ++ b.take k) →
      ∃ s l T1 T2 l2, openT p q T = (some (l, s), 0, T1) ∧ openT p q T1 = (some (l2, s), 0, T2) ∧ (∀ i, valS T.now p = some i → (T.fil i).b.length ≤ (frs a).length + (frs b).length + (frs d).length) ∧ (∀ i, valS T1.now p = some i → (T1.fil i).b.length ≤ (frs a).length + (frs b).length + (frs d).length) ∧ (s = d ∨ e ≠ 0 ∧ ∃ k, k ≤ b.length ∧ s = a ++ b.take k) := fun s q1 q2 q3 q4 q5 q6 => by
    obtain ⟨T1, o1, g1⟩ := h1.open hpq q1 q2 (by omega)
    obtain ⟨T2, o2, g2⟩ := g1.open (q := q) hpq q3 (by omega)
    exact ⟨s, _, T1, T2, _, o1, o2, fun i hi => (by rw [h1.len hpq i hi]; exact q4), fun i hi => (by rw [(g1.two (q := q)).len hpq i hi]; exact q5), q6⟩
  rcases h2 with rfl | ⟨h0, m, rfl⟩
  · exact key d (scn_frs d _ hd (by have := frs_ge d; omega)) List.take_length hd (by omega) (by omega) (.inl rfl)
  · obtain ⟨k, hk, q1, q2⟩ := tot_cut m ha hb
    have hl := frs_take_le' (l := b) k
    refine key _ q1 q2 (fun x hx => ?_) (by rw [List.length_append, List.length_take]; omega) (by rw [frs_app, List.length_append]; omega) (.inr ⟨h0, k, hk, rfl⟩)
    rcases List.mem_append.1 hx with hx | hx
    · exact ha x hx
    · exact hb x (List.mem_of_mem_take hx)
end
/-! ### Few texts of few bytes -/
def sumL : List (List Nat) → Nat
  | [] => 0
  | s :: r => s.length + sumL r
theorem frs_sum : ∀ l : List (List Nat), (frs l).length = sumL l + 8 * l.length
  | [] => rfl
  | s :: r => by
    have := frs_sum r
    show (frm s ++ frs r).length = s.length + sumL r + 8 * (r.length + 1)
    rw [List.length_append, frm_len]
    omega
theorem sumL_mem {s : List Nat} : ∀ {l : List (List Nat)}, s ∈ l → s.length ≤ sumL l
  | a :: r, h => by
    rcases List.mem_cons.1 h with rfl | h
    · show s.length ≤ s.length + sumL r; omega
    · have := sumL_mem h
      show s.length ≤ a.length + sumL r; omega
theorem sumL_take : ∀ (l : List (List Nat)) (i : Nat), sumL (l.take i) ≤ sumL l
  | [], i => by simp [sumL]
  | s :: r, 0 => Nat.zero_le _
  | s :: r, i + 1 => by
    have := sumL_take r i
    show s.length + sumL (r.take i) ≤ s.length + sumL r
    omega
end Wal
end Go.Abs
end
