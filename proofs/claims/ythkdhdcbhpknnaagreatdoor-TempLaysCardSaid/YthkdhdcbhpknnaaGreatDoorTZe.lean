/- The document's tree: its state; how an operation begins. Conditions: those of its summaries. -/
import Derived.Test.YthkdhdcbhpknnaaGreatDoorTZd
namespace Go.Proofs.YthkdhdcbhpknnaaGreatDoor.tre
open Go Go.Abs Go.Abs.Wal Go.Proofs
set_option maxRecDepth 100000
set_option linter.unusedVariables false
set_option linter.unusedSimpArgs false

/-- A rising list at a place that nobody changes. -/
def En (K : Nat → Nat) (h : AH) (v : AV) (l : List AV) : Prop :=
 (v = .nilsl ∧ l = []) ∨ ∃ id n c tx, v = .sl id 0 n 2 c ∧ h.get id = some (.cells l true tx) ∧ id < h.nx ∧ K id = 5 ∧ l.length = n * 2 ∧ (c = none ∨ c = some n) ∧ (tx = false ∨ (l = [] ∧ c = some 0))
theorem En.ez {K : Nat → Nat} {h : AH} {v : AV} {l : List AV} (hb : En K h v l) : Ez 2 0 h v l := by
 rcases hb with h1 | ⟨id, n, c, tx, h1, h2, h3, h4, h5⟩
 ·exact .inl h1
 ·exact .inr ⟨id, n, c, tx, h1, h2, h3, Nat.zero_le _, h5⟩
theorem En.mono {K K' : Nat → Nat} {h h' : AH} {v : AV} {l : List AV} (hb : En K h v l) (hk : ∀ j, K j = 5 → K' j = 5 ∧ h'.get j = h.get j) (hn : h.nx ≤ h'.nx) : En K' h' v l := by
 rcases hb with h1 | ⟨id, n, c, tx, h1, h2, h3, h4, h5⟩
 ·exact .inl h1
 ·exact .inr ⟨id, n, c, tx, h1, (hk id h4).2.trans h2, Nat.lt_of_lt_of_le h3 hn, (hk id h4).1, h5⟩
theorem Ez.en {n0 : Nat} {K : Nat → Nat} {h : AH} {v : AV} {l : List AV} (hb : Ez 2 n0 h v l) (hk : ∀ j, n0 ≤ j → j < h.nx → K j = 5) : En K h v l := by
 rcases hb with h1 | ⟨id, n, c, tx, h1, h2, h3, h4, h5⟩
 ·exact .inl h1
 ·exact .inr ⟨id, n, c, tx, h1, h2, h3, hk id h4 h3, h5⟩
/-- Changes of paths, one behind the other. -/
def NtC (ρ : Nat → Nat) : List AV → List Nte → Prop
 | cs, [] => cs = []
 | cs, n :: l => ∃ d r, cs = d ++ r ∧ NtA ρ d n ∧ NtC ρ r l
theorem NtA.len {ρ : Nat → Nat} : ∀ {d : List AV} {n : Nte}, NtA ρ d n → d.length = 4
 | _, .mk p i, h => by cases h; rfl
 | _, .rm p, h => by obtain ⟨a, rfl⟩ := h; rfl
 | _, .ren a b, h => h.elim
theorem NtA.one {ρ : Nat → Nat} : ∀ {d : List AV} {n : Nte}, NtA ρ d n → d.all oneA = true
 | _, .mk p i, h => by cases h; rfl
 | _, .rm p, h => by obtain ⟨a, rfl⟩ := h; rfl
 | _, .ren a b, h => h.elim
theorem NtC.len {ρ : Nat → Nat} : ∀ {cs : List AV} {l : List Nte}, NtC ρ cs l → cs.length = l.length * 4
 | cs, [], h => by cases h; rfl
 | cs, n :: l, h => by
  obtain ⟨d, r, rfl, h1, h2⟩ := h
  rw [List.length_append, h1.len, NtC.len h2, List.length_cons]; omega
theorem NtC.app {ρ : Nat → Nat} {d : List AV} {n : Nte} (hd : NtA ρ d n) : ∀ {cs : List AV} {l : List Nte}, NtC ρ cs l → NtC ρ (cs ++ d) (l ++ [n])
 | cs, [], h => by
  cases h
  exact ⟨d, [], by simp, hd, rfl⟩
 | cs, m :: l, h => by
  obtain ⟨d', r, rfl, h1, h2⟩ := h
  exact ⟨d', r ++ d, by simp, h1, NtC.app hd h2⟩
theorem NtC.get {ρ : Nat → Nat} : ∀ {cs : List AV} {l : List Nte} {i : Nat} {n : Nte}, NtC ρ cs l → l[i]? = some n → ∃ d, NtA ρ d n ∧ (cs.drop (i * 4)).take 4 = d
 | cs, [], i, n, _, hi => by simp at hi
 | cs, m :: l, 0, n, h, hi => by
  obtain ⟨d, r, rfl, h1, h2⟩ := h
  cases hi
  exact ⟨d, h1, by rw [Nat.zero_mul, List.drop_zero]; exact List.take_left' h1.len⟩
 | cs, m :: l, i + 1, n, h, hi => by
  obtain ⟨d, r, rfl, h1, h2⟩ := h
  obtain ⟨d', h3, h4⟩ := NtC.get h2 (i := i) (by simpa using hi)
  refine ⟨d', h3, ?_⟩
  have : (i + 1) * 4 = d.length + i * 4 := by rw [h1.len]; omega
  rw [this, ← List.drop_drop, List.drop_left]
  exact h4
theorem NtA.ext {ρ ρ' : Nat → Nat} {k : Nat} (hr : ∀ i, i < k → ρ' i = ρ i) : ∀ {d : List AV} {n : Nte}, NteOK k n → NtA ρ d n → NtA ρ' d n
 | _, .mk p i, ho, h => by
  cases h
  show _ = _
  rw [hr i ho.1]
 | _, .rm p, _, h => h
 | _, .ren a b, _, h => h.elim
theorem NtC.ext {ρ ρ' : Nat → Nat} {k : Nat} (hr : ∀ i, i < k → ρ' i = ρ i) : ∀ {cs : List AV} {l : List Nte}, (∀ n ∈ l, NteOK k n) → NtC ρ cs l → NtC ρ' cs l
 | _, [], _, h => h
 | _, n :: l, ho, h => by
  obtain ⟨d, r, e, h1, h2⟩ := h
  exact ⟨d, r, e, h1.ext hr (ho n (by simp)), NtC.ext hr (fun m hm => ho m (by simp [hm])) h2⟩
def Nts (K : Nat → Nat) (h : AH) (ρ : Nat → Nat) (v : AV) (l : List Nte) : Prop :=
 (v = .nilsl ∧ l = []) ∨ ∃ id c cs, v = .sl id 0 l.length 4 c ∧ h.get id = some (.cells cs true false) ∧ id < h.nx ∧ K id = 6 ∧ NtC ρ cs l ∧ (c = none ∨ c = some l.length)
theorem Nts.mono {K K' : Nat → Nat} {h h' : AH} {ρ : Nat → Nat} {v : AV} {l : List Nte} (hb : Nts K h ρ v l) (hk : ∀ j, K j = 6 → K' j = 6 ∧ h'.get j = h.get j) (hn : h.nx ≤ h'.nx) : Nts K' h' ρ v l := by
 rcases hb with h1 | ⟨id, c, cs, h1, h2, h3, h4, h5⟩
 ·exact .inl h1
 ·exact .inr ⟨id, c, cs, h1, (hk id h4).2.trans h2, Nat.lt_of_lt_of_le h3 hn, (hk id h4).1, h5⟩
/-- The document's tree at p. Kinds of objects: 0 not the tree's, 1 itself, 4 files, 5 what nobody changes, 6 the changes' slice. -/
structure Rt (K : Nat → Nat) (p : Nat) (lv sv nv : AV) (ρ : Nat → Nat) (h : AH) (R : TT) : Prop where
 pp : h.get p = some (.cells [.int .i64 R.room, lv, sv, nv, .int .u64 (R.clock : Nat), .bool R.off, .int .i64 R.fuse] true false)
 now : En K h lv (entC ρ R.now)
 safe : En K h sv (entC ρ R.safe)
 nts : Nts K h ρ nv R.notes
 fl : ∀ i, i < R.files.length → FilA K h (ρ i) (R.fil i)
 inj : ∀ i j, i < R.files.length → j < R.files.length → ρ i = ρ j → i = j
 kp : K p = 1
 top : ∀ j, h.nx ≤ j → K j = 0
theorem Rt.lt {K p lv sv nv ρ h R} (hT : Rt K p lv sv nv ρ h R) {j : Nat} (hj : K j ≠ 0) : j < h.nx := by
 rcases Nat.lt_or_ge j h.nx with h1 | h1
 ·exact h1
 ·exact absurd (hT.top j h1) hj
/-- The tree's own object is written. -/
theorem Rt.setp {K p lv sv nv ρ h R} (hT : Rt K p lv sv nv ρ h R) {h' : AH} (hk : ∀ j, K j ≠ 0 → j ≠ p → h'.get j = h.get j) (hn : h.nx ≤ h'.nx) {R' : TT} (e1 : R'.now = R.now) (e2 : R'.safe = R.safe) (e3 : R'.notes = R.notes) (e4 : R'.files = R.files)
  (top : ∀ j, h'.nx ≤ j → K j = 0) (hp : h'.get p = some (.cells [.int .i64 R'.room, lv, sv, nv, .int .u64 (R'.clock : Nat), .bool R'.off, .int .i64 R'.fuse] true false)) : Rt K p lv sv nv ρ h' R' := by
 obtain ⟨h1, h2, h3, h4, h5, h6, h7, h8⟩ := hT
 have ne : ∀ {j n}, K j = n → n ≠ 0 → n ≠ 1 → h'.get j = h.get j := fun {j n} hj h0 h1 => hk j (by omega) (fun hh => by rw [hh] at hj; omega)
 have k5 : ∀ j, K j = 5 → K j = 5 ∧ h'.get j = h.get j := fun j hj => ⟨hj, ne hj (by omega) (by omega)⟩
 have k6 : ∀ j, K j = 6 → K j = 6 ∧ h'.get j = h.get j := fun j hj => ⟨hj, ne hj (by omega) (by omega)⟩
 refine ⟨hp, by rw [e1]; exact h2.mono k5 hn, by rw [e2]; exact h3.mono k5 hn, by rw [e3]; exact h4.mono k6 hn, fun i hi => ?_, by rw [e4]; exact h6, h7, top⟩
 rw [e4] at hi
 obtain ⟨bv, sv, q1, q2, q3, q4⟩ := h5 i hi
 have ef : R'.fil i = R.fil i := by unfold TT.fil; rw [e4]
 rw [ef]
 exact ⟨bv, sv, (ne q4 (by omega) (by omega)).trans q1, q2.mono k5 hn, q3.mono k5 hn, q4⟩
theorem Rt.mono {K p lv sv nv ρ h R} (hT : Rt K p lv sv nv ρ h R) {h' : AH} (hk : ∀ j, K j ≠ 0 → h'.get j = h.get j) (hn : h.nx ≤ h'.nx) : Rt K p lv sv nv ρ h' R :=
 hT.setp (fun j hj _ => hk j hj) hn rfl rfl rfl rfl (fun j hj => hT.top j (Nat.le_trans hn hj)) ((hk p (by rw [hT.kp]; decide)).trans hT.pp)
theorem Rt.fr {K p lv sv nv ρ h R} (hT : Rt K p lv sv nv ρ h R) {h' : AH} (hf : Fr h h') : Rt K p lv sv nv ρ h' R := hT.mono (fun j hj => hf.get j (hT.lt hj)) hf.nx
section
variable {S : Sums}
set_option maxHeartbeats 8000000 in
theorem opD (hS : Dt S) {K p lv sv nv ρ h R} (hT : Rt K p lv sv nv ρ h R) (hw : Wf R) {v : AV} {l : List Pth} (hl : Av h v l) (hn : l.length ≤ 1024) :
  RnC Tryz.prog S 82 [.ptr p 0, v] h fun r h' => r = .int .i64 ((opT R (l.all okP)).1 : Nat) ∧ Rt K p lv sv nv ρ h' (opT R (l.all okP)).2 ∧ h.nx ≤ h'.nx ∧ ∀ j, j < h.nx → j ≠ p → h'.get j = h.get j := by
 refine RnC.enter' Tryz.f82 _ 42 [.tmp 4] (hS.nd _ _ _ (by simp)) bd82 Tryz.func82 rfl rfl rfl ?_
 have hpl : p < h.nx := hT.lt (by rw [hT.kp]; decide)
 have ln := hl.ln
 have ov := hl.sh.2
 simp (maxSteps := 1000000) -dsimp (disch := (repeat first | rw [nxn] | rw [nxp]); try omega) only [go_sem, ov]
 refine loopK_of (RnL.rounds (Q := fun ex u => u.d = [] ∧ Fr h u.h ∧ u.t.get 0 = some (.ptr p 0) ∧ (ex = .exit 0 ∧ l.all okP = true ∨ ex = .ret ∧ l.all okP = false ∧ u.t.get 4 = some (.int .i64 2)))
  (fun m u => u.d = [] ∧ Fr h u.h ∧ u.t.get 0 = some (.ptr p 0) ∧ u.t.get 1 = some v ∧ ∃ i : Nat, u.t.get 5 = some (.int .i64 (i : Nat)) ∧ i ≤ l.length ∧ (l.take i).all okP = true ∧ m = l.length - i) ?_ l.length ?_) ?_
 ·rintro m ⟨t, h1, d⟩ ⟨e2, e1, g0, g1, i, g5, hi, hall, rfl⟩
  dsimp only at e1 e2 g0 g1 g5
  subst e2
  by_cases c4 : (i : Int) < (l.length : Nat)
  ·have hil : i < l.length := by omega
   obtain ⟨a, ha⟩ : ∃ a, l[i]? = some a := ⟨_, List.getElem?_eq_getElem hil⟩
   rcases hl with ⟨_, rfl⟩ | ⟨id, c, o, tx, rfl, hg, hid⟩
   ·simp at hil
   have hcs : (l.map AV.str)[i]? = some (.str a) := by simp [ha]
   have hg1 : h1.get id = some (.cells (l.map .str) o tx) := (e1.get id hid).trans hg
   have htk : l.take (i + 1) = l.take i ++ [a] := by rw [List.take_add_one, ha]; rfl
   simp (maxSteps := 1000000) -dsimp (disch := (repeat first | rw [nxn] | rw [nxp]); try omega) only [go_sem, ln, c4, hg1, hcs, hil, Nat.mul_one, g0, g1, g5]
   refine callK_of (rMayC hS.toRp) ?_
   rintro r h3 ⟨rfl, hf3⟩
   cases hok : okP a
   ·simp (maxSteps := 1000000) -dsimp (disch := (repeat first | rw [nxn] | rw [nxp]); try omega) only [go_sem, c4, hil, Nat.mul_one, g0, g1, g5]
    exact ⟨trivial, e1.trans hf3, trivial, .inr ⟨trivial, by rw [List.all_eq_false]; exact ⟨a, List.mem_iff_getElem?.2 ⟨i, ha⟩, by simp [hok]⟩, trivial⟩⟩
   ·simp (maxSteps := 1000000) -dsimp (disch := (repeat first | rw [nxn] | rw [nxp]); try omega) only [go_sem, c4, hil, Nat.mul_one, g0, g1, g5]
    exact ⟨l.length - (i + 1), by omega, trivial, e1.trans hf3, trivial, trivial, i + 1, rfl, by omega, by rw [htk, List.all_append, hall]; simp [hok], rfl⟩
  ·have : i = l.length := by omega
   subst this
   rw [List.take_length] at hall
   simp (maxSteps := 1000000) -dsimp (disch := (repeat first | rw [nxn] | rw [nxp]); try omega) only [go_sem, ln, c4, g0, g1, g5]
   exact ⟨trivial, e1, trivial, .inl ⟨trivial, hall⟩⟩
 ·simp (maxSteps := 1000000) -dsimp (disch := (repeat first | rw [nxn] | rw [nxp]); try omega) only [go_sem, ln]
  exact ⟨trivial, Fr.refl _, trivial, trivial, 0, rfl, Nat.zero_le _, by simp, rfl⟩
 ·rintro ex ⟨t, h1, d⟩ ⟨e2, e1, g0, ⟨rfl, hh⟩ | ⟨rfl, hh, g4⟩⟩
  ·dsimp only at e1 e2 g0
   subst e2
   have hT1 := hT.fr e1
   have hp1 := hT1.pp
   have hfu := hw.fuse
   have hpx : p < h1.nx := Nat.lt_of_lt_of_le hpl e1.nx
   unfold opT
   rw [hh, if_neg (by decide)]
   by_cases c1 : R.off = true
   ·rw [if_pos c1]
    rw [c1] at hp1
    simp (maxSteps := 1000000) -dsimp (disch := (repeat first | rw [nxn] | rw [nxp]); try omega) only [go_sem, g0, hp1]
    exact ⟨by first | trivial | rfl, hT1, e1.nx, fun j hj _ => e1.get j hj⟩
   ·have c1' : R.off = false := by simpa using c1
    rw [if_neg c1]
    rw [c1'] at hp1
    by_cases c2 : R.fuse = 0
    ·rw [if_pos c2]
     simp (maxSteps := 1000000) -dsimp (disch := (repeat first | rw [nxn] | rw [nxp]); try omega) only [go_sem, g0, hp1, c2]
     exact ⟨trivial, hT1.setp (fun j hj hjp => (AH.get_put_ne hjp).trans (AH.get_put_ne hjp)) (Nat.le_refl _) rfl rfl rfl rfl (fun j hj => hT1.top j hj) (AH.get_put_eq rfl), e1.nx, fun j hj hjp => ((AH.get_put_ne hjp).trans (AH.get_put_ne hjp)).trans (e1.get j hj)⟩
    ·rw [if_neg c2]
     simp (maxSteps := 1000000) -dsimp (disch := (repeat first | rw [nxn] | rw [nxp]); try omega) only [go_sem, g0, hp1, c2]
     have fr : ∀ o, ∀ j, j < h.nx → ¬ j = p → (h1.put p o).get j = h.get j := fun o j hj hjp => (AH.get_put_ne hjp).trans (e1.get j hj)
     by_cases c3 : 0 < R.fuse
     ·have em : max (-1) (R.fuse - 1) = R.fuse - 1 := by omega
      rw [if_pos c3, em]
      exact ⟨rfl, hT1.setp (fun j hj hjp => AH.get_put_ne hjp) (Nat.le_refl _) rfl rfl rfl rfl (fun j hj => hT1.top j hj) (by rw [AH.get_put_eq rfl]; dsimp only; rw [c1']), e1.nx, fr _⟩
     ·have em : max (-1) (R.fuse - 1) = R.fuse := by omega
      rw [if_neg c3, em]
      exact ⟨rfl, hT1.setp (fun j hj hjp => AH.get_put_ne hjp) (Nat.le_refl _) rfl rfl rfl rfl (fun j hj => hT1.top j hj) (by rw [AH.get_put_eq rfl]; dsimp only; rw [c1']), e1.nx, fr _⟩
  ·dsimp only at e1 e2 g4
   subst e2
   unfold opT
   rw [hh, if_pos rfl]
   simp (maxSteps := 1000000) -dsimp (disch := (repeat first | rw [nxn] | rw [nxp]); try omega) only [go_sem, g4]
   exact ⟨by first | trivial | rfl, hT.fr e1, e1.nx, fun j hj _ => e1.get j hj⟩
theorem tickD (hS : Dt S) {K p lv sv nv ρ h R} (hT : Rt K p lv sv nv ρ h R) (hm : R.clock < 1152921504606846976) : RnC Tryz.prog S 84 [.ptr p 0] h fun r h' => r = .int .u64 ((R.clock + 1 : Nat) : Int) ∧ Rt K p lv sv nv ρ h' (tickT R) ∧ h'.nx = h.nx ∧ ∀ j, j ≠ p → h'.get j = h.get j := by
 refine RnC.enter' Tryz.f84 _ 14 [.tmp 2] (hS.nd _ _ _ (by simp)) bd84 Tryz.func84 rfl rfl rfl ?_
 have hp := hT.pp
 have hpl : p < h.nx := hT.lt (by rw [hT.kp]; decide)
 have w1 : IntKind.u64.wrap (((R.clock : Nat) : Int) + 1) = ((R.clock + 1 : Nat) : Int) := by rw [u64_id (by omega) (by omega)]; rfl
 simp (maxSteps := 1000000) -dsimp (disch := (repeat first | rw [nxn] | rw [nxp]); try omega) only [go_sem, hp, w1]
 exact ⟨trivial, hT.setp (fun j hj hjp => AH.get_put_ne hjp) (Nat.le_refl _) rfl rfl rfl rfl (fun j hj => hT.top j hj) (AH.get_put_eq rfl), trivial, fun j hjp => AH.get_put_ne hjp⟩
theorem fuseD (hS : Dt S) {K p lv sv nv ρ h R} (hT : Rt K p lv sv nv ρ h R) (n : Int) (hn : n ≤ 9223372036854775807) : RnC Tryz.prog S 29 [.ptr p 0, .int .i64 n] h fun r h' => Rt K p lv sv nv ρ h' { R with fuse := max (-1) n } ∧ h'.nx = h.nx ∧ ∀ j, j ≠ p → h'.get j = h.get j := by
 refine RnC.enter' Tryz.f29 _ 9 [] (hS.nd _ _ _ (by simp)) bd29 Tryz.func29 rfl rfl rfl ?_
 have hp := hT.pp
 have hpl : p < h.nx := hT.lt (by rw [hT.kp]; decide)
 simp (maxSteps := 1000000) -dsimp (disch := (repeat first | rw [nxn] | rw [nxp]); try omega) only [go_sem, hp]
 exact ⟨hT.setp (fun j hj hjp => AH.get_put_ne hjp) (Nat.le_refl _) rfl rfl rfl rfl (fun j hj => hT.top j hj) (AH.get_put_eq rfl), trivial, fun j hjp => AH.get_put_ne hjp⟩
theorem lenE_take {fs : List Fil} : ∀ (E : Ixs) (i : Nat), lenE fs (E.take i) ≤ lenE fs E
 | [], i => by simp
 | e :: r, 0 => Nat.zero_le _
 | e :: r, i + 1 => Nat.add_le_add_left (lenE_take r i) _
theorem lenE_snoc {fs : List Fil} {e : Pth × Nat} : ∀ (E : Ixs), lenE fs (E ++ [e]) = lenE fs E + ((fs[e.2]?).getD ⟨[], [], 0⟩).b.length
 | [] => by simp [lenE]
 | x :: r => by
  show ((fs[x.2]?).getD ⟨[], [], 0⟩).b.length + lenE fs (r ++ [e]) = ((fs[x.2]?).getD ⟨[], [], 0⟩).b.length + lenE fs r + _
  rw [lenE_snoc r]; omega
set_option maxHeartbeats 8000000 in
theorem usedD (hS : Dt S) {K p lv sv nv ρ h R} (hT : Rt K p lv sv nv ρ h R) (hw : Wf R) (hr : riseE R.now) (hm : R.now.length ≤ 16384) : RnC Tryz.prog S 112 [.ptr p 0] h fun r h' => r = .int .i64 (R.used : Nat) ∧ h' = h := by
 refine RnC.enter' Tryz.f112 _ 29 [.tmp 2] (hS.nd _ _ _ (by simp)) bd112 Tryz.func112 rfl rfl rfl ?_
 have hp := hT.pp
 have hz := hT.now.ez
 have ov := hz.one.2
 have lv := hz.len (n := R.now.length) Tryz.underlying121 (by decide) (entC_len ρ _)
 have hu := used_le hw hm
 simp (maxSteps := 1000000) -dsimp (disch := (repeat first | rw [nxn] | rw [nxp]); try omega) only [go_sem]
 refine loopK_of (RnL.rounds (Q := fun ex u => ex = .exit 0 ∧ u.d = [] ∧ u.h = h ∧ u.t.get 3 = some (.int .i64 (R.used : Nat)))
  (fun m u => u.d = [] ∧ u.h = h ∧ u.t.get 0 = some (.ptr p 0) ∧ ∃ i : Nat, u.t.get 4 = some (.int .i64 (i : Nat)) ∧ u.t.get 3 = some (.int .i64 (lenE R.files (R.now.take i) : Nat)) ∧ i ≤ R.now.length ∧ m = R.now.length - i) ?_ R.now.length ?_) ?_
 ·rintro m ⟨t, g, d⟩ ⟨e2, e1, g0, i, g4, g3, hi, rfl⟩
  dsimp only at e1 e2 g0 g4 g3
  subst e1 e2
  by_cases c4 : (i : Int) < (R.now.length : Nat)
  ·have hil : i < R.now.length := by omega
   obtain ⟨e, he⟩ : ∃ e, R.now[i]? = some e := ⟨_, List.getElem?_eq_getElem hil⟩
   have hei : e.2 < R.files.length := (hw.now.2 e.1 e.2 (val_of_mem (riseE_once hr) (List.mem_iff_getElem?.2 ⟨i, he⟩))).1
   obtain ⟨id, c, rfl, hg, hid, _⟩ := hz.at (n := R.now.length) (i := i) (entC_len ρ _) hil (by decide)
   obtain ⟨x1, x2, _⟩ := flat2_get (fun e : Pth × Nat => AV.str e.1) (fun e => AV.ptr (ρ e.2) 0) he
   change (entC ρ R.now)[i * 2 + 1]? = _ at x2
   obtain ⟨bv, sv', q1, q2, q3, q4⟩ := hT.fl e.2 hei
   have lb := (bsLn q2.bs).1
   have ob := (bsLn q2.bs).2.2
   have hsn : lenE R.files (R.now.take (i + 1)) = lenE R.files (R.now.take i) + (R.fil e.2).b.length := by
    rw [List.take_add_one, he]
    exact lenE_snoc _
   have hle := lenE_take (fs := R.files) R.now (i + 1)
   have hlu : lenE R.files R.now ≤ 1099511627776 := hu
   have w1 : IntKind.i64.wrap (((lenE R.files (R.now.take i) : Nat) : Int) + (((R.fil e.2).b.length : Nat) : Int)) = ((lenE R.files (R.now.take (i + 1)) : Nat) : Int) := by
    rw [wrap64_id (by omega) (by omega), hsn]; omega
   simp (maxSteps := 1000000) -dsimp (disch := (repeat first | rw [nxn] | rw [nxp]); try omega) only [go_sem, lv, c4, hil, hp, hg, x2, q1, lb, ob, g0, g3, g4, w1]
   exact ⟨R.now.length - (i + 1), by omega, trivial, trivial, trivial, i + 1, rfl, rfl, by omega, rfl⟩
  ·have : i = R.now.length := by omega
   subst this
   rw [List.take_length] at g3
   simp (maxSteps := 1000000) -dsimp (disch := (repeat first | rw [nxn] | rw [nxp]); try omega) only [go_sem, lv, c4, hp, ov, g0, g3, g4]
   exact ⟨trivial, trivial, trivial, rfl⟩
 ·simp (maxSteps := 1000000) -dsimp (disch := (repeat first | rw [nxn] | rw [nxp]); try omega) only [go_sem]
  exact ⟨trivial, trivial, trivial, 0, rfl, rfl, Nat.zero_le _, rfl⟩
 ·rintro ex ⟨t, g, d⟩ ⟨rfl, rfl, e1, g3⟩
  dsimp only at e1 g3
  subst e1
  simp (maxSteps := 1000000) -dsimp (disch := (repeat first | rw [nxn] | rw [nxp]); try omega) only [go_sem, g3]
  exact ⟨by first | trivial | rfl, by first | trivial | rfl⟩
end
end Go.Proofs.YthkdhdcbhpknnaaGreatDoor.tre
