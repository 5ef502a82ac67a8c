/- The document's tree: a crash. Conditions: those of its summaries. -/
import Derived.Test.YthkdhdcbhpknnaaGreatDoorTZl
namespace Go.Proofs.YthkdhdcbhpknnaaGreatDoor.tre
open Go Go.Abs Go.Abs.Wal Go.Proofs
set_option maxRecDepth 100000
set_option linter.unusedVariables false
set_option linter.unusedSimpArgs false

/-- Other kinds for what is not the tree's; the tree's own things stay. -/
theorem Rt.col {K K' : Nat → Nat} {p : Nat} {lv sv nv : AV} {ρ : Nat → Nat} {h h' : AH} {R : TT} (hT : Rt K p lv sv nv ρ h R) (hk : ∀ j, K j = 1 ∨ K j = 4 ∨ K j = 5 ∨ K j = 6 → K' j = K j ∧ h'.get j = h.get j) (hn : h.nx ≤ h'.nx) (top : ∀ j, h'.nx ≤ j → K' j = 0) : Rt K' p lv sv nv ρ h' R := by
 have k5 : ∀ j, K j = 5 → K' j = 5 ∧ h'.get j = h.get j := fun j hj => ⟨(hk j (by omega)).1.trans hj, (hk j (by omega)).2⟩
 have kp : K p = 1 := hT.kp
 refine ⟨(hk p (by omega)).2.trans hT.pp, hT.now.mono k5 hn, hT.safe.mono k5 hn, hT.nts.mono (fun j hj => ⟨(hk j (by omega)).1.trans hj, (hk j (by omega)).2⟩) hn, fun i hi => ?_, hT.inj, (hk p (by omega)).1.trans kp, top⟩
 have k4 : K (ρ i) = 4 := by obtain ⟨_, _, _, _, _, q⟩ := hT.fl i hi; exact q
 exact (hT.fl i hi).mono k5 ⟨(hk _ (by omega)).1.trans k4, (hk _ (by omega)).2⟩ hn
theorem doAllL_snoc (n : Nte) : ∀ (l : List Nte) (E : Ixs), doAllL (l ++ [n]) E = doL n (doAllL l E)
 | [], E => rfl
 | m :: l, E => doAllL_snoc n l (doL m E)
theorem riseE_doAllL : ∀ (l : List Nte) {E : Ixs}, riseE E → riseE (doAllL l E)
 | [], _, h => h
 | n :: l, E, h => riseE_doAllL l (by
  cases n with
  | mk p i => exact riseE_put h
  | ren a b => exact h
  | rm p => exact riseE_del h)
theorem crashLL_snoc (was : Ixs) (e : Pth × Nat) : ∀ (l : Ixs) (T : TT) (ps : List Int), crashLL was T (l ++ [e]) ps = crash1L was (crashLL was T l ps) e (hd0 (ps.drop l.length))
 | [], T, ps => rfl
 | a :: l, T, ps => by
  show crashLL was (crash1L was T a (hd0 ps)) (l ++ [e]) ps.tail = crash1L was (crashLL was (crash1L was T a (hd0 ps)) l ps.tail) e (hd0 (ps.drop (l.length + 1)))
  rw [crashLL_snoc was e l]
  cases ps <;> simp
theorem crashLL_take {was : Ixs} {T : TT} {ps : List Int} {l : Ixs} {i : Nat} {e : Pth × Nat} (hi : l[i]? = some e) : crashLL was T (l.take (i + 1)) ps = crash1L was (crashLL was T (l.take i) ps) e (hd0 (ps.drop i)) := by
 have hil : i < l.length := (List.getElem?_eq_some_iff.1 hi).1
 have : l.take (i + 1) = l.take i ++ [e] := by rw [List.take_add_one, hi]; rfl
 rw [this, crashLL_snoc, List.length_take, Nat.min_eq_left (by omega)]
/-- What a crash leaves as it is. -/
theorem crashLL_same (was : Ixs) : ∀ (l : Ixs) (T : TT) (ps : List Int), (∀ e ∈ T.now, e.2 < T.files.length) →
  crashLL was T l ps = { T with clock := (crashLL was T l ps).clock, now := (crashLL was T l ps).now, files := (crashLL was T l ps).files } ∧ T.files.length ≤ (crashLL was T l ps).files.length ∧ ∀ e ∈ (crashLL was T l ps).now, e.2 < (crashLL was T l ps).files.length
 | [], T, ps, h => ⟨rfl, Nat.le_refl _, h⟩
 | a :: l, T, ps, h => by
  have h1 : crash1L was T a (hd0 ps) = { T with clock := (crash1L was T a (hd0 ps)).clock, now := T.now ++ [(a.1, T.files.length)], files := (crash1L was T a (hd0 ps)).files } ∧ (crash1L was T a (hd0 ps)).files.length = T.files.length + 1 := by
   unfold crash1L
   dsimp only
   split <;> exact ⟨rfl, by simp⟩
  have hn : (crash1L was T a (hd0 ps)).now = T.now ++ [(a.1, T.files.length)] := by rw [h1.1]
  obtain ⟨k1, k2, k3⟩ := crashLL_same was l (crash1L was T a (hd0 ps)) ps.tail (fun e he => by
   rw [hn] at he
   rw [h1.2]
   rcases List.mem_append.1 he with he | he
   ·have := h e he; omega
   ·rw [List.mem_singleton.1 he]; exact Nat.lt_succ_self _)
  refine ⟨?_, ?_, k3⟩
  ·show crashLL was (crash1L was T a (hd0 ps)) l ps.tail = _
   rw [k1]
   have e1 := congrArg TT.room h1.1
   have e2 := congrArg TT.safe h1.1
   have e3 := congrArg TT.notes h1.1
   have e4 := congrArg TT.off h1.1
   have e5 := congrArg TT.fuse h1.1
   dsimp only at e1 e2 e3 e4 e5
   rw [e1, e2, e3, e4, e5]
   rfl
  ·show T.files.length ≤ (crashLL was (crash1L was T a (hd0 ps)) l ps.tail).files.length
   omega
theorem nePd {h : AH} {a b : Nat} (ha : plainBlock h a = true) (hb : plainBlock h b = true) : binA Tryz.prog h .neq 127 (.ptr a 0) (.ptr b 0) = some (.bool (!decide (a = b))) := by
 have hi : ((Tryz.prog.info? 130).isNone || tsize Tryz.prog 130 == some 0) = false := by kernel_rfl
 show (if eqOk Tryz.prog 127 (.ptr a 0) (.ptr b 0) = true then (eqA Tryz.prog h (11 + 1) 127 (.ptr a 0) (.ptr b 0)).map fun e => AV.bool !e else none) = _
 unfold eqA
 simp only [Tryz.underlying127, hi, ha, hb]
 by_cases c : a = b
 ·simp [c, eqOk]
 ·simp [c, eqOk]
theorem neNd (h : AH) (b : Nat) : binA Tryz.prog h .neq 127 .nilptr (.ptr b 0) = some (.bool true) := by kernel_rfl
theorem bldFd {v : AV} {i : Nat} {n : Nat} {c : Option Nat} (st : Nat) (hv : v = .sl i 0 n 1 c) : evBuild Tryz.prog 130 [(0, v), (1, v), (2, .int .u64 (st : Int))] = some (.agg [v, v, .int .u64 (st : Int)]) := by
 subst hv; kernel_rfl
theorem Nts.len {K : Nat → Nat} {h : AH} {ρ : Nat → Nat} {v : AV} {l : List Nte} (hb : Nts K h ρ v l) : (∀ g, evLen Tryz.prog g #[122] v = some (.int .i64 (l.length : Nat))) ∧ oneA v = true := by
 rcases hb with ⟨rfl, rfl⟩ | ⟨id, c, cs, rfl, _⟩
 ·exact ⟨fun g => by simp [evLen, Tryz.underlying122], rfl⟩
 ·exact ⟨fun g => by simp [evLen, Tryz.underlying122], rfl⟩
/-- One entry more, wherever the slice lies. -/
theorem entApp2 {b0 : Nat} {g : AH} {v : AV} {ρ : Nat → Nat} {acc : Ixs} (hb : Ez 2 b0 g v (entC ρ acc)) (h0 : b0 ≤ g.nx) (hl : acc.length ≤ 100000) (k : Pth) (a : Nat) :
  ∃ v' h', evAppend Tryz.prog (g.new (.cells [.str k, .ptr a 0] true false)) #[121, 121] v (.sl g.nx 0 1 2 (some 1)) = some (.val v' h') ∧ Ez 2 b0 h' v' (entC ρ acc ++ [.str k, .ptr a 0]) ∧ oneA v' = true ∧ g.nx + 1 ≤ h'.nx ∧ (∀ j, j < g.nx → (∀ id o n c, v = .sl id o n 2 c → j ≠ id) → h'.get j = g.get j) ∧ ∀ id o n z c, v' = .sl id o n z c → g.nx + 1 ≤ id := by
 have f6 : Fr g (g.new (.cells [.str k, .ptr a 0] true false)) := Fr.new _ _
 obtain ⟨v', h', happ, _, hez', ov', hn', hk', hv'⟩ := Ez.app (P := Tryz.prog) (z := 2) (h0 := { tr := (g.new (.cells [.str k, .ptr a 0] true false)).tr, nx := b0 }) (h := g.new (.cells [.str k, .ptr a 0] true false)) (x := .sl g.nx 0 1 2 (some 1)) (k := 1) (m := [.str k, .ptr a 0]) Tryz.underlying121 Tryz.underlying121 rfl aiE (by decide) (by decide) (hb.fr f6) rfl (by rw [firstA_sl (AH.get_new_eq rfl) (Nat.le_refl _) (by simp)]; rfl) rfl rfl ⟨Nat.le_succ_of_le h0, fun j _ => rfl⟩ (by rw [entC_len]; simp; omega)
 refine ⟨v', h', happ, hez', ov', hn', fun j hj hh => (hk' j (Nat.lt_succ_of_lt hj) hh).trans (AH.get_new_ne (Nat.ne_of_lt hj)), fun id o n z c hv => ?_⟩
 rcases hv' with ⟨h1, _⟩ | ⟨id2, n2, rfl, hv'⟩
 ·exact absurd h1 (by decide)
 ·cases hv; exact hv'
theorem ezKeep {z n0 : Nat} {h h' : AH} {v : AV} {l : List AV} (hb : Ez z n0 h v l) (hn : h.nx ≤ h'.nx) (hk : ∀ id o n c, v = .sl id o n z c → id < h.nx → h'.get id = h.get id) : Ez z n0 h' v l := by
 rcases hb with h1 | ⟨id, n, c, tx, h1, h2, h3, h4, h5⟩
 ·exact .inl h1
 ·exact .inr ⟨id, n, c, tx, h1, (hk _ _ _ _ h1 h3).trans h2, Nat.lt_of_lt_of_le h3 hn, h4, h5⟩
/-- What holds in the rounds of a crash. -/
structure Cw (K0 : Nat → Nat) (h0 : AH) (p b0 : Nat) (lv sv nv : AV) (ρ0 : Nat → Nat) (lw : AV) (l : Ixs) (pv : AV) (ps : List Int) (R Ti : TT) (ov : AV) (g : AH) : Prop where
 t : ∃ K ρ, Rt K p lv sv nv ρ g { R with clock := Ti.clock, files := Ti.files } ∧ (∀ i, i < R.files.length → ρ i = ρ0 i) ∧ Gr K0 h0 K g ∧ Iv K g pv ps ∧ En K g lw (entC ρ0 l) ∧ Ez 2 b0 g ov (entC ρ Ti.now) ∧ ∀ id o n z c, ov = .sl id o n z c → K id = 7
 w : Wf { R with clock := Ti.clock, files := Ti.files }
 b : b0 ≤ g.nx
section
variable {S : Sums}
set_option maxHeartbeats 32000000 in
theorem crashD (hS : Dt S) {K p lv sv nv ρ h R} (hT : Rt K p lv sv nv ρ h R) (hw : Wf R) (hr : riseE R.now ∧ riseE R.safe) (hm : Sm R) (hc : R.clock < 1152921504606000000) (keep : Int) {v : AV} {ps : List Int} (hv : Iv K h v ps) (hpl : ps.length ≤ 1000) (hks : ∀ i, (doAllL (R.notes.take i) R.safe).length ≤ 16384) (hli : ∀ i, ∀ e ∈ doAllL (R.notes.take i) R.safe, e.2 < R.files.length) :
  RnC Tryz.prog S 30 [.ptr p 0, .int .i64 keep, v] h fun r h' => ResD K p h h' (crashR R keep ps) := by
 refine RnC.enter' Tryz.f30 _ 142 [] (hS.nd _ _ _ (by simp)) bd30 Tryz.func30 rfl rfl rfl ?_
 have hpx : p < h.nx := hT.lt (by rw [hT.kp]; decide)
 have hp := hT.pp
 obtain ⟨lpv, spv, opv⟩ := hv.ln
 obtain ⟨lnn, onn⟩ := hT.nts.len
 have osv := hT.safe.ez.one.2
 have e0 : 0 ≤ max 0 keep := by omega
 have em : (max 0 keep).tmod (((R.notes.length : Nat) : Int) + 1) = (((max 0 keep).toNat % (R.notes.length + 1) : Nat) : Int) := tmodN (n := R.notes.length + 1) e0 (by omega)
 have hmod : (max 0 keep).toNat % (R.notes.length + 1) < R.notes.length + 1 := Nat.mod_lt _ (by omega)
 have cz : ¬ ((R.notes.length : Nat) : Int) + 1 = 0 := by omega
 have hno := hm.notes
 unfold crashR
 dsimp only
 generalize (max 0 keep).toNat % (R.notes.length + 1) = kk at em hmod ⊢
 simp (maxSteps := 1000000) -dsimp (disch := (repeat first | rw [nxn] | rw [nxp]); try omega) only [go_sem, hp, lnn, onn, em, cz, osv, opv]
 refine loopK_of (RnL.rounds (Q := fun ex u => ex = .exit 0 ∧ u.d = [] ∧ Fr h u.h ∧ u.t.get 0 = some (.ptr p 0) ∧ u.t.get 2 = some v ∧ ∃ lw, u.t.get 7 = some lw ∧ En (fun j => if h.nx ≤ j ∧ j < u.h.nx then 5 else K j) u.h lw (entC ρ (doAllL (R.notes.take kk) R.safe)))
  (fun m u => u.d = [] ∧ Fr h u.h ∧ u.t.get 0 = some (.ptr p 0) ∧ u.t.get 2 = some v ∧ u.t.get 6 = some (.int .i64 (kk : Nat)) ∧ ∃ (i : Nat) (lw : AV), u.t.get 8 = some (.int .i64 (i : Nat)) ∧ u.t.get 7 = some lw ∧ En (fun j => if h.nx ≤ j ∧ j < u.h.nx then 5 else K j) u.h lw (entC ρ (doAllL (R.notes.take i) R.safe)) ∧ i ≤ kk ∧ m = kk - i) ?_ kk ?_) ?_
 ·rintro m ⟨t, g, d⟩ ⟨e2, e1, g0, g2, g6, i, lw, g8, g7, hen, hi, rfl⟩
  dsimp only at e1 e2 g0 g2 g6 g8 g7 hen
  subst e2
  by_cases c4 : (i : Int) < (kk : Nat)
  ·have hil : i < R.notes.length := by omega
   obtain ⟨n, hn⟩ : ∃ n, R.notes[i]? = some n := ⟨_, List.getElem?_eq_getElem hil⟩
   have hpg := (e1.get p hpx).trans hp
   rcases hT.nts with ⟨_, h0⟩ | ⟨nid, nc, ncs, rfl, ng, nlt, nk, nn, ncap⟩
   ·rw [h0] at hil; simp at hil
   obtain ⟨dd, hd1, hd2⟩ := NtC.get nn hn
   have hle : i * 4 + 4 ≤ ncs.length := by rw [nn.len]; omega
   have ngg := (e1.get nid nlt).trans ng
   have olw := hen.ez.one.2
   simp (maxSteps := 1000000) -dsimp (disch := (repeat first | rw [nxn] | rw [nxp]); try omega) only [go_sem, c4, g0, g2, g6, g7, g8, hpg, ngg, hd2, hle, hil, olw]
   refine callK_of (doC hS hen.ez (riseE_doAllL _ hr.2) (hks i) hd1) ?_
   rintro r h2 ⟨hz2, f2⟩
   have or2 := hz2.one.2
   have hst : doAllL (R.notes.take (i + 1)) R.safe = doL n (doAllL (R.notes.take i) R.safe) := by
    rw [List.take_add_one, hn]
    exact doAllL_snoc _ _ _
   try simp (maxSteps := 1000000) -dsimp (disch := (repeat first | rw [nxn] | rw [nxp]); try omega) only [go_sem, or2, c4, g0, g2, g6, g7, g8]
   refine ⟨kk - (i + 1), by omega, trivial, e1.trans f2, trivial, trivial, trivial, i + 1, r, rfl, rfl, ?_, by omega, rfl⟩
   rw [hst]
   have := e1.nx
   exact Ez.en (K := fun j => if h.nx ≤ j ∧ j < h2.nx then 5 else K j) hz2 fun j hj hjl => if_pos ⟨by omega, hjl⟩
  ·have : i = kk := by omega
   subst this
   simp (maxSteps := 1000000) -dsimp (disch := (repeat first | rw [nxn] | rw [nxp]); try omega) only [go_sem, c4, g0, g2, g6, g7, g8]
   exact ⟨trivial, trivial, e1, trivial, trivial, lw, rfl, hen⟩
 ·simp (maxSteps := 1000000) -dsimp (disch := (repeat first | rw [nxn] | rw [nxp]); try omega) only [go_sem]
  refine ⟨trivial, Fr.refl _, trivial, trivial, trivial, 0, sv, rfl, rfl, ?_, Nat.zero_le _, rfl⟩
  exact hT.safe.mono (fun j hj => ⟨by rw [if_neg (by omega)]; exact hj, rfl⟩) (Nat.le_refl _)
 rintro ex ⟨t, g, d⟩ ⟨rfl, rfl, e1, g0, g2, lw, g7, hen⟩
 dsimp only at e1 g0 g2 g7 hen
 have hl1 := hks kk
 have hl2 := hli kk
 have hl3 := riseE_doAllL (R.notes.take kk) hr.2
 generalize doAllL (R.notes.take kk) R.safe = l at hen hl1 hl2 hl3 ⊢
 have hgx := e1.nx
 have hTg := (hT.fr e1).col (K' := fun j => if h.nx ≤ j ∧ j < g.nx then 5 else K j) (fun j hj => by
  have := hT.lt (j := j) (by omega)
  exact ⟨if_neg (by omega), rfl⟩) (Nat.le_refl _) (fun j hj => by
  show (if h.nx ≤ j ∧ j < g.nx then 5 else K j) = 0
  rw [if_neg (by omega)]; exact hT.top j (by omega))
 simp (maxSteps := 1000000) -dsimp (disch := (repeat first | rw [nxn] | rw [nxp]); try omega) only [go_sem, g0, g2, g7]
 refine callK_of (tickD hS hTg (by omega)) ?_
 rintro r h4 ⟨rfl, hT4, n4, o4⟩
 have kp : K p = 1 := hT.kp
 have kk0 : ∀ j, j < h.nx → (if h.nx ≤ j ∧ j < g.nx then 5 else K j) = K j := fun j hj => by rw [if_neg (by omega)]
 have cw0 : Cw K h p h4.nx lv sv nv ρ lw l v ps R { R with clock := R.clock + 1, now := [], safe := l, notes := [] } .nilsl h4 := by
  have gr4 : Gr K h (fun j => if h.nx ≤ j ∧ j < g.nx then 5 else K j) h4 := ⟨by omega, fun j hj hk => ⟨(o4 j (fun hh => by rw [hh, kp] at hk; cases hk)).trans (e1.get j hj), (kk0 j hj).trans hk⟩⟩
  exact ⟨⟨_, ρ, hT4, fun i _ => rfl, gr4, hv.gr gr4, hen.mono (fun j hj => ⟨hj, o4 j (fun hh => by
   rw [hh] at hj
   have hj' : (if h.nx ≤ p ∧ p < g.nx then 5 else K p) = 5 := hj
   rw [kk0 p hpx, kp] at hj'; cases hj')⟩) (by omega), .inl ⟨rfl, rfl⟩, fun id o n z c hh => (by cases hh)⟩, hw.tick, Nat.le_refl _⟩
 have lln : ∀ gg, evLen Tryz.prog gg #[121] lw = some (.int .i64 (l.length : Nat)) := fun gg => hen.ez.len (n := l.length) Tryz.underlying121 (by decide) (entC_len ρ l) gg
 have olw := hen.ez.one.2
 clear hTg hT4 hen
 have hsame := fun (i : Nat) => crashLL_same R.now (l.take i) { R with clock := R.clock + 1, now := [], safe := l, notes := [] } ps (fun e he => by cases he)
 have hclk := fun (i : Nat) => (crashLL_in R.now (l.take i) { R with clock := R.clock + 1, now := [], safe := l, notes := [] } ps)
 generalize hT1 : ({ R with clock := R.clock + 1, now := [], safe := l, notes := [] } : TT) = T1 at cw0 hsame hclk ⊢
 have hT1c : T1.clock = R.clock + 1 := by rw [← hT1]
 have hT1n : T1.now = [] := by rw [← hT1]
 have hT1f : T1.files = R.files := by rw [← hT1]
 try simp (maxSteps := 1000000) -dsimp (disch := (repeat first | rw [nxn] | rw [nxp]); try omega) only [go_sem, g0, g2, g7, lln]
 refine loopK_of (RnL.rounds (Q := fun ex u => ex = .exit 2 ∧ u.d = [] ∧ u.t.get 0 = some (.ptr p 0) ∧ ∃ ov, u.t.get 9 = some ov ∧ Cw K h p h4.nx lv sv nv ρ lw l v ps R (crashLL R.now T1 l ps) ov u.h)
  (fun m u => u.d = [] ∧ u.t.get 0 = some (.ptr p 0) ∧ u.t.get 2 = some v ∧ u.t.get 7 = some lw ∧ ∃ (i : Nat) (ov : AV), u.t.get 10 = some (.int .i64 (i : Nat)) ∧ u.t.get 9 = some ov ∧ Cw K h p h4.nx lv sv nv ρ lw l v ps R (crashLL R.now T1 (l.take i) ps) ov u.h ∧ i ≤ l.length ∧ m = l.length - i) ?_ l.length ?_) ?_
 ·rintro m ⟨t, gx, d⟩ ⟨e2, g0, g2, g7, i, ov, g10, g9, hcw, hi, rfl⟩
  dsimp only at e2 g0 g2 g7 g10 g9 hcw
  subst e2
  by_cases c4 : (i : Int) < (l.length : Nat)
  ·have hil : i < l.length := by omega
   obtain ⟨e, he⟩ : ∃ e, l[i]? = some e := ⟨_, List.getElem?_eq_getElem hil⟩
   obtain ⟨⟨K', ρ', hT', hρ, hgr, hiv, henw, hez, hko⟩, hwk, hb0⟩ := hcw
   obtain ⟨s1, s2, s3⟩ := hsame i
   obtain ⟨s4, s5⟩ := hclk i
   have hnext := crashLL_take (was := R.now) (T := T1) (ps := ps) he
   generalize hTi : crashLL R.now T1 (l.take i) ps = Ti at hT' hez hwk s1 s2 s3 s4 s5 hnext
   rw [hT1f] at s2
   rw [hT1c, List.length_take] at s5
   have hel : e.2 < R.files.length := hl2 e (List.mem_iff_getElem?.2 ⟨i, he⟩)
   have hef : e.2 < Ti.files.length := by omega
   have hck : Ti.clock < 1152921504606846976 := by omega
   have hnl : R.now.length ≤ 16384 := hm.now
   have hinl : Ti.now.length ≤ l.length := by
    have := congrArg List.length s4
    rw [hT1n] at this
    simp only [List.length_map, List.map_nil, List.nil_append, List.length_take] at this
    omega
   obtain ⟨id, c, rfl, hgl, hidl, _⟩ := henw.ez.at (n := l.length) (i := i) (entC_len ρ l) hil (by decide)
   have kid : K' id = 5 := by
    rcases henw with ⟨h9, _⟩ | ⟨id', n', c', tx', h9, _, _, h10, _⟩
    ·cases h9
    ·cases h9; exact h10
   have ρe : ρ' e.2 = ρ e.2 := hρ _ hel
   obtain ⟨x1, x2, x3⟩ := flat2_get (fun e : Pth × Nat => AV.str e.1) (fun e => AV.ptr (ρ e.2) 0) he
   change (entC ρ l)[i * 2]? = _ at x1
   change (entC ρ l)[i * 2 + 1]? = _ at x2
   rw [← ρe] at x2
   have hpg := hT'.pp
   have hpgx : p < gx.nx := hT'.lt (by rw [hT'.kp]; decide)
   have kp' : K' p = 1 := hT'.kp
   have hfx : FilA K' gx (ρ' e.2) (Ti.fil e.2) := hT'.fl e.2 hef
   have hfx0 := hfx
   obtain ⟨bv, sv', q1, q2, q3, q4⟩ := hfx0
   have fo : FilOK (Ti.fil e.2) := fil_ok hwk e.2
   have hri : ρ' e.2 < gx.nx := hT'.lt (by rw [q4]; decide)
   have f1 : Fr gx (gx.new (.cells [] true true)) := Fr.new _ _
   have hfx1 : FilA K' (gx.new (.cells [] true true)) (ρ' e.2) (Ti.fil e.2) := hfx.mono (fun j hj => ⟨hj, f1.get j (hT'.lt (by omega))⟩) ⟨q4, f1.get _ hri⟩ f1.nx
   have gl1 : (gx.new (.cells [] true true)).get id = _ := (f1.get id hidl).trans hgl
   obtain ⟨liv, _, oiv⟩ := hiv.ln
   have hez0 := hez.one.2
   unfold crash1L at hnext
   dsimp only at hnext
   obtain ⟨part, hpart⟩ : ∃ part, hd0 (ps.drop i) = part := ⟨_, rfl⟩
   rw [hpart] at hnext
   obtain ⟨b, hbe⟩ : ∃ b, leftF (Ti.fil e.2) part = b := ⟨_, rfl⟩
   rw [hbe] at hnext
   have hbok : FilOK ⟨b, b, 0⟩ := by rw [← hbe]; exact leftF_ok fo part 0
   have hbl := hbok.2.2.1
   obtain ⟨pv, hpv⟩ : ∃ pv, pv = v := ⟨v, rfl⟩
   have hcase : (¬ (i : Int) < (ps.length : Nat) ∧ part = 0) ∨ ((i : Int) < (ps.length : Nat) ∧ ∃ ia io ic ics iow itx, v = .sl ia io ps.length 1 ic ∧ gx.get ia = some (.cells ics iow itx) ∧ ics[io + i]? = some (.int .i64 part)) := by
    by_cases c5 : (i : Int) < (ps.length : Nat)
    ·refine .inr ⟨c5, ?_⟩
     rcases hiv with ⟨_, h0⟩ | ⟨ia, io, ic, ics, iow, itx, h1, h2, h3, h4, h5, h6, h7⟩
     ·have : ps.length = 0 := by rw [h0]; rfl
      omega
     ·refine ⟨ia, io, ic, ics, iow, itx, h1, h2, ?_⟩
      have hip : i < ps.length := by omega
      have h8 : ((ics.drop io).take ps.length)[i]? = some (.int .i64 part) := by
       rw [h7, List.getElem?_map]
       have : ps[i]? = some part := by
        rw [← hpart, List.drop_eq_getElem_cons hip, List.getElem?_eq_getElem hip]; rfl
       rw [this]; rfl
      rw [List.getElem?_take_of_lt hip, List.getElem?_drop] at h8
      exact h8
    ·refine .inl ⟨c5, ?_⟩
     rw [← hpart, List.drop_eq_nil_of_le (by omega)]; rfl
   rcases hcase with ⟨c5, rfl⟩ | ⟨c5, ia, io, ic, ics, iow, itx, rfl, ig, x0⟩
   case' inl => simp (maxSteps := 1000000) -dsimp (disch := (repeat first | rw [nxn] | rw [nxp]); try omega) only [go_sem, lln, liv, c4, c5, hil, hgl, gl1, x2, oiv, olw, hez0, g0, g2, g7, g9, g10]
   case' inr => simp (maxSteps := 1000000) -dsimp (disch := (repeat first | rw [nxn] | rw [nxp]); try omega) only [go_sem, lln, liv, c4, c5, hil, hgl, gl1, x2, ig, x0, oiv, olw, hez0, Nat.mul_one, g0, g2, g7, g9, g10]
   all_goals
    refine callK_of (keptD hS hfx1 (by show ρ' e.2 < gx.nx + 1; omega) fo _) ?_
    rintro rb h2 ⟨hb2, f2⟩
    rw [hbe] at hb2
    have f2' : Fr gx h2 := f1.trans f2
    have hn2 : gx.nx + 1 ≤ h2.nx := f2.nx
    have orb := (bsLn hb2).2.2
    have own2 : h2.get gx.nx = some (.cells [] true true) := (f2.get _ (Nat.lt_succ_self _)).trans (AH.get_new_eq rfl)
    obtain ⟨v2, h3, ha3, f3, o2, i2, c2, cs2, tx2, hv2, hg2, hi2, hp2, y1, y2, y3⟩ := own3 (id := gx.nx) hb2 (by have := hbl; simp only at this; omega) own2 (by omega)
    have f03 : Fr gx h3 := f2'.trans f3
    have hn3 : h2.nx ≤ h3.nx := f3.nx
    have q13 : h3.get (ρ' e.2) = _ := (f03.get _ hri).trans q1
    have gl3 : h3.get id = _ := (f03.get _ hidl).trans hgl
    have bF := bldFd (i := i2) (n := b.length) (c := c2) (Ti.fil e.2).st hv2
    simp (maxSteps := 1000000) -dsimp (disch := (repeat first | rw [nxn] | rw [nxp]); try omega) only [go_sem, lln, hil, gl3, x2, q13, bF, orb, ha3, o2, olw, g0, g2, g7, g9, g10]
    generalize hg5 : h3.new (.cells [v2, v2, .int .u64 ((Ti.fil e.2).st : Nat)] true false) = g5
    have n5 : g5.nx = h3.nx + 1 := by rw [← hg5]; rfl
    have f35 : Fr h3 g5 := by rw [← hg5]; exact Fr.new _ _
    have gf5 : g5.get h3.nx = some (.cells [v2, v2, .int .u64 ((Ti.fil e.2).st : Nat)] true false) := by rw [← hg5]; exact AH.get_new_eq rfl
    have f05 := f03.trans f35
    have f5x : Fr g5 { tr := g5.tr, nx := g5.nx + 30 } := (Fr.refl g5).more _ (by omega)
    have f0x := f05.trans f5x
    have hTx := hT'.fr f0x
    have hp5 : g5.get p = _ := (f05.get _ hpgx).trans hpg
    have gl5 : g5.get id = _ := (f05.get _ hidl).trans hgl
    have q15 : g5.get (ρ' e.2) = _ := (f05.get _ hri).trans q1
    have slv := hT'.now.ez.one.1
    have sst : sameAV 20 (.str e.1) (.str e.1) = true := by simp [sameAV, eqL_eq]
    have spt : sameAV 20 (.ptr (ρ' e.2) 0) (.ptr (ρ' e.2) 0) = true := by simp [sameAV]
    have ssl : sameAV 20 (.sl id 0 l.length 2 c) (.sl id 0 l.length 2 c) = true := by simp [sameAV]
    refine syDraw.keepN 15 (fun j => j < gx.nx) (by kernel_rfl) (by kernel_rfl) rfl ?_
    simp (maxSteps := 1000000) -dsimp (disch := (repeat first | rw [nxn] | rw [nxp]); try omega) only [go_sem, lln, hil, hp5, gl5, x1, x2, hpgx, hidl, slv, sst, spt, ssl, olw, g0, g2, g7, g9, g10, true_and, implies_true, sv_int, sv_bool]
    refine callK_of (findC hS hTx.now.ez hnl e.1) ?_
    obtain ⟨fpv, hfp⟩ : ∃ w, (match valS R.now e.1 with | some i => AV.ptr (ρ' i) 0 | none => AV.nilptr) = w := ⟨_, rfl⟩
    rintro rf g6 ⟨hrf, rfl⟩
    change rf = (match valS R.now e.1 with | some i => AV.ptr (ρ' i) 0 | none => AV.nilptr) at hrf
    rw [hfp] at hrf
    subst hrf
    refine ⟨fun _ _ => rfl, ?_⟩
    have plx : ∀ y, y < Ti.files.length → plainBlock ({ tr := g5.tr, nx := g5.nx + 30 } : AH) (ρ' y) = true := fun y hy => plain_fil (hTx.fl y hy)
    have hne : binA Tryz.prog ({ tr := g5.tr, nx := g5.nx + 30 } : AH) .neq 127 rf (.ptr (ρ' e.2) 0) = some (.bool (!decide (valS R.now e.1 = some e.2))) := by
     rw [← hfp]
     cases hvn : valS R.now e.1 with
     | none => dsimp only; rw [neNd]; simp
     | some y =>
      have hy := (hw.now.2 e.1 y hvn).1
      dsimp only
      rw [nePd (plx y (by omega)) (plx e.2 hef)]
      by_cases hyx : y = e.2
      ·subst hyx; simp
      ·have : ρ' y ≠ ρ' e.2 := fun hh => hyx (hT'.inj y e.2 (by show y < Ti.files.length; omega) hef hh)
       simp [hyx, this]
    have f3x := f35.trans f5x
    have hbX : Bs ({ tr := g5.tr, nx := g5.nx + 30 } : AH) v2 b := own3s hv2 ((f3x.get _ hi2).trans hg2) (by show i2 < g5.nx + 30; omega) y1 y2 y3
    have txa : evConvert Tryz.prog ({ tr := g5.tr, nx := g5.nx + 30 } : AH) 22 9 v2 = some (.val (.str b) ({ tr := g5.tr, nx := g5.nx + 30 } : AH)) := bsTextG hbX (fun _ _ => rfl) Tryz.underlying22 Tryz.underlying5 Tryz.underlying9 hbok.1
    have txb : evConvert Tryz.prog ({ tr := g5.tr, nx := g5.nx + 30 } : AH) 22 9 bv = some (.val (.str (Ti.fil e.2).b) ({ tr := g5.tr, nx := g5.nx + 30 } : AH)) := bsTextG (q2.bs.fr f0x) (fun _ _ => rfl) Tryz.underlying22 Tryz.underlying5 Tryz.underlying9 fo.1
    have obv := (bsLn q2.bs).2.2
    obtain ⟨K2, hk23, hK2, hK3, hK0⟩ : ∃ K2 : Nat → Nat, K2 h3.nx = 4 ∧ (∀ j, j < gx.nx → K2 j = K' j) ∧ (∀ j, gx.nx ≤ j → j < h3.nx → K2 j = 5) ∧ ∀ j, h3.nx < j → K2 j = 0 :=
     ⟨fun j => if j = h3.nx then 4 else if gx.nx ≤ j ∧ j < h3.nx then 5 else K' j, if_pos rfl, fun j hj => (if_neg (by omega)).trans (if_neg (by omega)), fun j h1 h2 => (if_neg (by omega)).trans (if_pos ⟨h1, h2⟩), fun j hj => (if_neg (by omega)).trans ((if_neg (by omega)).trans (hT'.top j (by omega)))⟩
    have hi2x : gx.nx ≤ i2 := by omega
    have hbyX : By K2 ({ tr := g5.tr, nx := g5.nx + 30 } : AH) v2 b := .inr ⟨i2, c2, cs2, tx2, hv2, (f3x.get _ hi2).trans hg2, by show i2 < g5.nx + 30; omega, hK3 i2 hi2x hi2, y1, y2, y3⟩
    obtain ⟨ρ2, hr2, hr2', hTA⟩ : ∃ ρ2 : Nat → Nat, ρ2 Ti.files.length = h3.nx ∧ (∀ j, j < Ti.files.length → ρ2 j = ρ' j) ∧ Rt K2 p lv sv nv ρ2 ({ tr := g5.tr, nx := g5.nx + 30 } : AH) { R with clock := Ti.clock, files := Ti.files ++ [⟨b, b, (Ti.fil e.2).st⟩] } :=
     ⟨fun j => if j = Ti.files.length then h3.nx else ρ' j, if_pos rfl, fun j hj => if_neg (by omega), hT'.addF (K' := K2) (id := h3.nx) (f := ⟨b, b, (Ti.fil e.2).st⟩) (fun j hj => ⟨hK2 j (hT'.lt hj), f0x.get j (hT'.lt hj)⟩) (hT'.top _ (by omega)) ⟨v2, v2, gf5, hbyX, hbyX, hk23⟩ f0x.nx (fun j hj => hK0 j (by have hj' : g5.nx + 30 ≤ j := hj; omega)) hwk hr⟩
    have hent : entC ρ2 (Ti.now ++ [(e.1, Ti.files.length)]) = entC ρ' Ti.now ++ [.str e.1, .ptr h3.nx 0] := by
     have h9 : entC ρ2 (Ti.now ++ [(e.1, Ti.files.length)]) = entC ρ2 Ti.now ++ [.str e.1, .ptr (ρ2 Ti.files.length) 0] := flat2_app _ _ _ _
     rw [h9, hr2, entC_ext hr2' s3]
    have fin : ∀ (gz : AH) (c' st' : Nat), gz.nx = g5.nx + 30 → (∀ j, j < gx.nx → j ≠ p → gz.get j = gx.get j) → Rt K2 p lv sv nv ρ2 gz { R with clock := c', files := Ti.files ++ [⟨b, b, st'⟩] } → ∀ (ov' : AV) (h8 : AH), Ez 2 h4.nx h8 ov' (entC ρ' Ti.now ++ [.str e.1, .ptr h3.nx 0]) → gz.nx + 1 ≤ h8.nx → (∀ j, j < gz.nx → (∀ id o n c, ov = .sl id o n 2 c → j ≠ id) → h8.get j = gz.get j) → (∀ id o n z c, ov' = .sl id o n z c → gz.nx + 1 ≤ id) → Cw K h p h4.nx lv sv nv ρ (.sl id 0 l.length 2 c) l pv ps R { Ti with clock := c', now := Ti.now ++ [(e.1, Ti.files.length)], files := Ti.files ++ [⟨b, b, st'⟩] } ov' h8 := by
     intro gz c' st' nz hz hR ov' h8 he8 hn8 ho8 hi8
     rw [hpv]
     have hv9 : ∀ j o n c, ov = .sl j o n 2 c → K2 j = 7 := fun j o n c hv => (hK2 j (ezLt hez hv).1).trans (hko _ _ _ _ _ hv)
     have ho9 : ∀ j, j < gz.nx → K2 j ≠ 7 → h8.get j = gz.get j := fun j hj hk => ho8 j hj fun id o n c hv hh => hk (by rw [hh]; exact hv9 id o n c hv)
     have k3l : ∀ j, j < gz.nx → (if gz.nx + 1 ≤ j ∧ j < h8.nx then 7 else K2 j) = K2 j := fun j hj => if_neg (by omega)
     have hR3 := hR.col (K' := fun j => if gz.nx + 1 ≤ j ∧ j < h8.nx then 7 else K2 j) (h' := h8) (fun j hj => by
      have hl := hR.lt (j := j) (by omega)
      exact ⟨k3l j hl, ho9 j hl (by omega)⟩) (by omega) (fun j hj => (if_neg (by omega)).trans (hR.top j (by omega)))
     have hg3 : Gr K' gx (fun j => if gz.nx + 1 ≤ j ∧ j < h8.nx then 7 else K2 j) h8 := ⟨by omega, fun j hj hk => by
      have hjp : j ≠ p := fun hh => by rw [hh, kp'] at hk; cases hk
      have h2 := hK2 j hj
      exact ⟨(ho9 j (by omega) (by omega)).trans (hz j hj hjp), (k3l j (by omega)).trans (h2.trans hk)⟩⟩
     refine ⟨⟨_, ρ2, hR3, fun y hy => (hr2' y (by omega)).trans (hρ y hy), hgr.trans hg3, hiv.gr hg3, henw.mono (fun j hj => ?_) (by omega), ?_, fun id o n z c hh => ?_⟩, ?_, by omega⟩
     ·have hl := hT'.lt (j := j) (by omega)
      have hjp : j ≠ p := fun hh => by rw [hh, kp'] at hj; cases hj
      have h2 := hK2 j hl
      exact ⟨(k3l j (by omega)).trans (h2.trans hj), (ho9 j (by omega) (by omega)).trans (hz j hl hjp)⟩
     ·rw [hent]; exact he8
     ·exact if_pos ⟨hi8 _ _ _ _ _ hh, (ezLt he8 hh).1⟩
     ·exact hwk.grow ⟨b, b, st'⟩ ⟨hbok.1, hbok.2.1, hbok.2.2.1, hbok.2.2.2⟩ c'
    subst hpv
    have bE := bldEn e.1 h3.nx
    by_cases hsm : valS R.now e.1 = some e.2 ∧ b = (Ti.fil e.2).b
    ·obtain ⟨hq, hbb⟩ := hsm
     have dbb : decide (b = (Ti.fil e.2).b) = true := by simpa using hbb
     rw [decide_eq_true hq] at hne
     rw [if_pos ⟨hq, hbb⟩] at hnext
     obtain ⟨ov', h8, ha8, he8, oo8, hn8, ho8, hi8⟩ := entApp2 (g := ({ tr := g5.tr, nx := g5.nx + 30 } : AH)) (hez.fr f0x) (by show h4.nx ≤ g5.nx + 30; omega) (by omega) e.1 h3.nx
     have cw := fin _ Ti.clock (Ti.fil e.2).st rfl (fun j hj _ => f0x.get j hj) hTA ov' h8 he8 hn8 ho8 hi8
     simp (maxSteps := 1000000) -dsimp (disch := (repeat first | rw [nxn] | rw [nxp]); try omega) only [go_sem, hidl, spt, true_and, lln, hil, hp5, gl5, x1, x2, q15, hne, txa, txb, neStF, dbb, o2, obv, bE, ha8, oo8, hez0, olw, g0, g2, g7, g9, g10]
     try simp only [true_and]
     refine ⟨l.length - (i + 1), by omega, i + 1, ov', rfl, rfl, ?_, by omega, rfl⟩
     rw [hnext]; exact cw
    ·rw [if_neg hsm] at hnext
     have hch : valS R.now e.1 ≠ some e.2 ∨ (valS R.now e.1 = some e.2 ∧ b ≠ (Ti.fil e.2).b) := by
      by_cases hq : valS R.now e.1 = some e.2
      ·exact .inr ⟨hq, fun hh => hsm ⟨hq, hh⟩⟩
      ·exact .inl hq
     rcases hch with hq | ⟨hq, hbb⟩
     case' inl =>
      rw [decide_eq_false hq] at hne
      simp (maxSteps := 1000000) -dsimp (disch := (repeat first | rw [nxn] | rw [nxp]); try omega) only [go_sem, hidl, spt, true_and, lln, hil, hp5, gl5, x1, x2, q15, hne, o2, obv, hez0, olw, g0, g2, g7, g9, g10]
     case' inr =>
      rw [decide_eq_true hq] at hne
      have dbb : decide (b = (Ti.fil e.2).b) = false := by simpa using hbb
      simp (maxSteps := 1000000) -dsimp (disch := (repeat first | rw [nxn] | rw [nxp]); try omega) only [go_sem, hidl, spt, true_and, lln, hil, hp5, gl5, x1, x2, q15, hne, txa, txb, neStF, dbb, o2, obv, hez0, olw, g0, g2, g7, g9, g10]
     all_goals
      refine callK_of (tickD hS hTA hck) ?_
      rintro r6 h6 ⟨hr6, hT6, n6, o6⟩
      change r6 = .int .u64 ((Ti.clock + 1 : Nat) : Int) at hr6
      subst hr6
      have n6' : h6.nx = g5.nx + 30 := n6
      have gf6 : h6.get h3.nx = _ := (o6 _ (by omega)).trans gf5
      have gl6 : h6.get id = _ := (o6 _ (fun hh => by rw [hh, kp'] at kid; cases kid)).trans gl5
      have hby7 : By K2 (h6.put h3.nx (.cells [v2, v2, .int .u64 ((Ti.clock + 1 : Nat) : Int)] true false)) v2 b := .inr ⟨i2, c2, cs2, tx2, hv2, (AH.get_put_ne (by omega)).trans ((o6 _ (by omega)).trans ((f3x.get _ hi2).trans hg2)), by show i2 < h6.nx; omega, hK3 i2 hi2x hi2, y1, y2, y3⟩
      have hT7 := hT6.file (i := Ti.files.length) (K' := K2) (f := ⟨b, b, Ti.clock + 1⟩) (h' := h6.put h3.nx (.cells [v2, v2, .int .u64 ((Ti.clock + 1 : Nat) : Int)] true false)) (by show Ti.files.length < (Ti.files ++ [_]).length; simp) (fun j hj => ⟨rfl, fun hji => AH.get_put_ne (fun hh => hji (hh.trans hr2.symm))⟩) (by rw [hr2]; exact ⟨v2, v2, AH.get_put_eq rfl, hby7, hby7, hk23⟩) (Nat.le_refl _) (fun j hj => hT6.top j hj)
      have efs : (Ti.files ++ [(⟨b, b, (Ti.fil e.2).st⟩ : Fil)]).set Ti.files.length ⟨b, b, Ti.clock + 1⟩ = Ti.files ++ [⟨b, b, Ti.clock + 1⟩] := by simp
      have hT8 : Rt K2 p lv sv nv ρ2 (h6.put h3.nx (.cells [v2, v2, .int .u64 ((Ti.clock + 1 : Nat) : Int)] true false)) { R with clock := Ti.clock + 1, files := Ti.files ++ [⟨b, b, Ti.clock + 1⟩] } := by
       rw [← efs]; exact hT7
      have hez7 : Ez 2 h4.nx (h6.put h3.nx (.cells [v2, v2, .int .u64 ((Ti.clock + 1 : Nat) : Int)] true false)) ov (entC ρ' Ti.now) := ezKeep hez (by show gx.nx ≤ h6.nx; omega) fun id o n c hv hl => by
       have h9 := hko _ _ _ _ _ hv
       exact (AH.get_put_ne (by omega)).trans ((o6 _ (fun hh => by rw [hh, kp'] at h9; cases h9)).trans (f0x.get _ hl))
      obtain ⟨ov', h8, ha8, he8, oo8, hn8, ho8, hi8⟩ := entApp2 (g := h6.put h3.nx (.cells [v2, v2, .int .u64 ((Ti.clock + 1 : Nat) : Int)] true false)) hez7 (by show h4.nx ≤ h6.nx; omega) (by omega) e.1 h3.nx
      have cw := fin (h6.put h3.nx (.cells [v2, v2, .int .u64 ((Ti.clock + 1 : Nat) : Int)] true false)) (Ti.clock + 1) (Ti.clock + 1) n6' (fun j hj hjp => (AH.get_put_ne (by omega)).trans ((o6 j hjp).trans (f0x.get j hj))) hT8 ov' h8 he8 hn8 ho8 hi8
      rw [AH.nx_put] at ha8
      simp (maxSteps := 1000000) -dsimp (disch := (repeat first | rw [nxn] | rw [nxp]); try omega) only [go_sem, lln, hil, gf6, gl6, x1, x2, bE, ha8, oo8, hez0, olw, o2, g0, g2, g7, g9, g10]
      try simp only [true_and]
      refine ⟨l.length - (i + 1), by omega, i + 1, ov', rfl, rfl, ?_, by omega, rfl⟩
      rw [hnext]; exact cw
  ·have : i = l.length := by omega
   subst this
   rw [List.take_length] at hcw
   simp (maxSteps := 1000000) -dsimp (disch := (repeat first | rw [nxn] | rw [nxp]); try omega) only [go_sem, lln, c4, g0, g2, g7, g9, g10]
   exact ⟨trivial, trivial, trivial, ov, rfl, hcw⟩
 ·simp (maxSteps := 1000000) -dsimp (disch := (repeat first | rw [nxn] | rw [nxp]); try omega) only [go_sem, g0, g2, g7]
  exact ⟨trivial, trivial, trivial, trivial, 0, .nilsl, rfl, rfl, cw0, Nat.zero_le _, rfl⟩
 ·rintro ex ⟨t, gx, d⟩ ⟨rfl, rfl, g0, ov, g9, hcw⟩
  dsimp only at g0 g9 hcw
  obtain ⟨⟨K', ρ', hT', hρ, hgr, hiv, henw, hez, hko⟩, hwk, hb0⟩ := hcw
  obtain ⟨s1, s2, s3⟩ := hsame l.length
  obtain ⟨s4, s5⟩ := hclk l.length
  rw [List.take_length] at s1 s2 s3 s4 s5
  generalize crashLL R.now T1 l ps = T2 at hT' hez hwk s1 s2 s3 s4 s5 ⊢
  have hinl : T2.now.length = l.length := by
   have := congrArg List.length s4
   rw [hT1n] at this
   simpa using this
  have hpg := hT'.pp
  have hpgx : p < gx.nx := hT'.lt (by rw [hT'.kp]; decide)
  have kp' : K' p = 1 := hT'.kp
  obtain ⟨q1, q2⟩ := ezFirst (hez.fr (Fr.new gx (.cells [] true true))) (entC_len ρ' T2.now) (by decide)
  have all1 : (entC ρ' T2.now).all oneA = true := flat2_one (fun _ => rfl) (fun _ => rfl) _
  obtain ⟨v', h', ha, hf', hz', ov', hn', hk', _⟩ := Ez.app (P := Tryz.prog) (z := 2) (h0 := gx) (h := gx.new (.cells [] true true)) (v := .sl gx.nx 0 0 2 (some 0)) (l := []) (x := ov) (k := T2.now.length) (m := entC ρ' T2.now) Tryz.underlying121 Tryz.underlying121 rfl aiE (by decide) (by decide) (.inr ⟨gx.nx, 0, some 0, true, rfl, AH.get_new_eq rfl, Nat.lt_succ_self _, Nat.le_refl _, rfl, .inr rfl, .inr ⟨rfl, rfl⟩⟩) q1 q2 (entC_len ρ' T2.now) all1 (Fr.new _ _) (by rw [entC_len]; simp; omega)
  rw [List.nil_append] at hz'
  have hp' : h'.get p = _ := (hf'.get p hpgx).trans hpg
  have hn2' : gx.nx + 1 ≤ h'.nx := hn'
  have oov := hez.one.2
  have eR : ({ T2 with safe := T2.now, off := false, fuse := -1 } : TT) = ⟨R.room, T2.now, T2.now, [], T2.clock, false, -1, T2.files⟩ := by
   rw [s1, ← hT1]
  have fin : ∀ hh : AH, hh.nx = h'.nx → (∀ j, j ≠ p → hh.get j = h'.get j) → hh.get p = some (.cells [.int .i64 R.room, ov, v', .nilsl, .int .u64 (T2.clock : Nat), .bool false, .int .i64 (-1)] true false) → ResD K p h hh { T2 with safe := T2.now, off := false, fuse := -1 } := fun hh hhn hho hhp => by
   rw [eR]
   have kl : ∀ j, j < gx.nx → K' j ≠ 7 → (if K' j = 7 then 5 else if gx.nx ≤ j ∧ j < h'.nx then 5 else K' j) = K' j := fun j hj h7 => by rw [if_neg h7, if_neg (by omega)]
   have ge : ∀ j, j < gx.nx → j ≠ p → hh.get j = gx.get j := fun j hj hjp => (hho j hjp).trans (hf'.get j hj)
   have np : ∀ j n, K' j = n → n ≠ 1 → j ≠ p := fun j n h1 h2 h3 => by rw [h3, kp'] at h1; exact h2 h1.symm
   refine ⟨fun j => if K' j = 7 then 5 else if gx.nx ≤ j ∧ j < h'.nx then 5 else K' j, ov, v', .nilsl, ρ', hT'.setL (fun j hj => ?_) (by omega) rfl ((kl p hpgx (by omega)).trans kp') (fun j hj => ?_) hhp ?_ ?_ (.inl ⟨rfl, rfl⟩), hgr.trans ⟨by omega, fun j hj hk => ⟨ge j hj (np j 0 hk (by decide)), (kl j hj (by omega)).trans hk⟩⟩⟩
   ·have hl := hT'.lt (j := j) (by omega)
    exact ⟨kl j hl (by omega), ge j hl (fun h9 => by rw [h9, kp'] at hj; omega)⟩
   ·have h9 := hT'.top j (by omega)
    show (if K' j = 7 then 5 else if gx.nx ≤ j ∧ j < h'.nx then 5 else K' j) = 0
    rw [if_neg (by omega), if_neg (by omega)]; exact h9
   ·rcases hez with h1 | ⟨id, n, c, tx, h1, h2, h3, h4', h5⟩
    ·exact .inl h1
    ·have h7 := hko _ _ _ _ _ h1
     exact .inr ⟨id, n, c, tx, h1, (ge id h3 (np id 7 h7 (by decide))).trans h2, by omega, if_pos h7, h5⟩
   ·have e7 := Ez.en (K := fun j => if K' j = 7 then 5 else if gx.nx ≤ j ∧ j < h'.nx then 5 else K' j) hz' (fun j hj hjl => by
     show (if K' j = 7 then 5 else if gx.nx ≤ j ∧ j < h'.nx then 5 else K' j) = 5
     by_cases h7 : K' j = 7
     ·rw [if_pos h7]
     ·rw [if_neg h7, if_pos ⟨hj, hjl⟩])
    refine e7.mono (fun j hj => ⟨hj, hho j (fun h9 => ?_)⟩) (by omega)
    have hj' : (if K' j = 7 then 5 else if gx.nx ≤ j ∧ j < h'.nx then 5 else K' j) = 5 := hj
    rw [h9, kl p hpgx (by omega), kp'] at hj'
    cases hj'
  rcases ezShape hez with rfl | ⟨oid, on, oc, rfl⟩ <;> rcases ezShape hz' with rfl | ⟨rid, rn, rc, rfl⟩
  all_goals
   simp (maxSteps := 1000000) -dsimp (disch := (repeat first | rw [nxn] | rw [nxp]); try omega) only [go_sem, g0, g9, hpg, oov, ha, ov', hp']
   exact fin _ rfl (fun j hj => (AH.get_put_ne hj).trans ((AH.get_put_ne hj).trans ((AH.get_put_ne hj).trans ((AH.get_put_ne hj).trans (AH.get_put_ne hj))))) (AH.get_put_eq rfl)
end
end Go.Proofs.YthkdhdcbhpknnaaGreatDoor.tre
