/- The program's log: appended to, synced, put aside, its size and count. Conditions: those of its summaries. -/
import Derived.Test.YtdpipffikgmgdaaGreatDoorWLf
import Derived.Test.YtdpipffikgmgdaaGreatDoorAb7
namespace Go.Proofs.YtdpipffikgmgdaaGreatDoor.tre
open Go Go.Abs Go.Abs.Wal Go.Proofs
set_option maxRecDepth 100000
set_option linter.unusedVariables false
set_option linter.unusedSimpArgs false

theorem nilL (h : AH) (a : Nat) : binA Tryz.prog h .eql 30 (.ptr a 0) .nilptr = some (.bool false) := by kernel_rfl
theorem nilTr (h : AH) (a : Nat) : binA Tryz.prog h .eql 26 (.ptr a 0) .nilptr = some (.bool false) := by kernel_rfl
section
variable {S : Sums}
set_option maxHeartbeats 8000000 in
theorem lappendC (hS : Wl S) {K p nm sm chv ρ h T} (hT : Tr K p nm sm chv ρ h T) {n c : Nat} (hb : Bm n c T) (hn : n ≤ 16000) (hc : c < 1152921504606000000) {L : Nat} {path : Pth} {l : Lg} (hL : Lo h L p path l) (kl : L < h.nx ∧ K L = 0) (hp : checkS path = 0)
    {s : List Nat} (hs : s.length ≤ 1048576) (hby : ∀ b ∈ s, b < 256) (hz : l.size ≤ 1099511627776) (hz2 : l.n ≤ 1099511627776) :
    RnC Tryz.prog S 9 [.ptr L 0, .str s] h fun r h' => r = .int .i64 ((appendL path l T s).1 : Nat) ∧ ResX L K p h h' (appendL path l T s).2.2 ∧ Lo h' L p path (appendL path l T s).2.1 := by
  refine RnC.enter' Tryz.f9 _ 69 [.tmp 4] (hS.nw _ _ _ (by simp)) bd9 Tryz.func9 rfl rfl rfl ?_
  have hL0 := hL
  unfold Lo at hL0
  have op := okP_chk hp
  simp (maxSteps := 1000000) -dsimp (disch := (repeat first | rw [AH.nx_new] | rw [AH.nx_put]); first | done | omega) only [go_sem, Int.reduceEq, Int.reduceNe, Int.reduceLT, Int.reduceLE, Int.reduceAdd, Int.reduceSub, Int.reduceMul, Int.reduceNeg, Int.reduceToNat, Nat.reducePow, reduceCtorEq, Nat.reduceEqDiff, Nat.reduceAdd, Nat.reduceLT, Nat.reduceLeDiff, Nat.reduceMul, Nat.reduceSub, Nat.reduceBEq, hL0, nilL, nilTr]
  refine callK_of (frameC hS hs hby) ?_
  rintro r g ⟨v, rfl, hbn, fg⟩
  have og := (bsLn hbn.bs).2.2
  have lng := (bsLn hbn.bs).1
  have lg : g.get L = _ := (fg.get _ kl.1).trans hL0
  have hTg := hT.fr fg
  have kg : L < g.nx := Nat.lt_of_lt_of_le kl.1 fg.nx
  by_cases ce : ((l.e : Nat) : Int) = 0
  · have e0 : l.e = 0 := by omega
    have ea : appendL path l T s = if (putT T true path fun o => o ++ frm s).1 ≠ 0 then ((putT T true path fun o => o ++ frm s).1, { l with e := (putT T true path fun o => o ++ frm s).1 }, (putT T true path fun o => o ++ frm s).2) else (0, ⟨0, l.size + (frm s).length, l.n + 1⟩, (putT T true path fun o => o ++ frm s).2) := by
      unfold appendL
      rw [if_neg (by omega)]
    rw [ea]
    clear ea
    have hpg : p < h.nx := hT.lt (by rw [hT.kp]; decide)
    simp (maxSteps := 1000000) -dsimp (disch := (repeat first | rw [AH.nx_new] | rw [AH.nx_put]); first | done | omega) only [go_sem, Int.reduceEq, Int.reduceNe, Int.reduceLT, Int.reduceLE, Int.reduceAdd, Int.reduceSub, Int.reduceMul, Int.reduceNeg, Int.reduceToNat, Nat.reducePow, reduceCtorEq, Nat.reduceEqDiff, Nat.reduceAdd, Nat.reduceLT, Nat.reduceLeDiff, Nat.reduceMul, Nat.reduceSub, Nat.reduceBEq, lg, og, ce]
    refine syDraw.go0 (by kernel_rfl) ?_
    simp (maxSteps := 1000000) -dsimp (disch := (repeat first | rw [AH.nx_new] | rw [AH.nx_put]); first | done | omega) only [go_sem, Int.reduceEq, Int.reduceNe, Int.reduceLT, Int.reduceLE, Int.reduceAdd, Int.reduceSub, Int.reduceMul, Int.reduceNeg, Int.reduceToNat, Nat.reducePow, reduceCtorEq, Nat.reduceEqDiff, Nat.reduceAdd, Nat.reduceLT, Nat.reduceLeDiff, Nat.reduceMul, Nat.reduceSub, Nat.reduceBEq, lg, og, ce]
    have f4 : Fr g { tr := g.tr, nx := g.nx + 15 } := (Fr.refl g).more _ (by omega)
    refine callK_of (appendC hS.toSt (hTg.fr f4) (Bm.sm hb (by omega) (by omega)) path (b := v) (l := frm s) ((hbn.bp hpg).step f4.nx (fun j hj _ => f4.get j hj)) (frm_byt hby) (by rw [frm_len]; omega)) ?_
    rw [op]
    rintro r g5 ⟨rfl, K5, nm5, sm5, ch5, ρ5, hT5, gr5⟩
    generalize (putT T true path fun o => o ++ frm s) = R at hT5 ⊢
    obtain ⟨re, rT⟩ := R
    dsimp only at hT5 ⊢
    have gx : Gr K h K5 g5 := (frGr (fg.trans f4) K).trans gr5
    have l5 : g5.get L = _ := (gx.get _ kl.1 kl.2).1.trans hL0
    have k5 := (gx.get _ kl.1 kl.2).2
    rw [e0] at l5
    refine callK_of (noteC hS (x := re) l5) ?_
    rintro r g6 ⟨rfl, rfl⟩
    have ln5 : ∀ (o : AO), (g5.put L o).get L = some o := fun o => AH.get_put_eq rfl
    by_cases cr : ((re : Nat) : Int) = 0
    · rw [if_neg (by omega)]
      simp (maxSteps := 1000000) -dsimp (disch := (repeat first | rw [AH.nx_new] | rw [AH.nx_put]); first | done | omega) only [go_sem, Int.reduceEq, Int.reduceNe, Int.reduceLT, Int.reduceLE, Int.reduceAdd, Int.reduceSub, Int.reduceMul, Int.reduceNeg, Int.reduceToNat, Nat.reducePow, reduceCtorEq, Nat.reduceEqDiff, Nat.reduceAdd, Nat.reduceLT, Nat.reduceLeDiff, Nat.reduceMul, Nat.reduceSub, Nat.reduceBEq, ln5, og, lng, cr, frm_len]
      refine ⟨trivial, ⟨K5, nm5, sm5, ch5, ρ5, ((hT5.putL k5 _).putL k5 _).putL k5 _, (((gx.x L).put _).put _).put _⟩, ?_⟩
      unfold Lo
      rw [AH.get_put_eq rfl]
      rfl
    · rw [if_pos (by omega)]
      simp (maxSteps := 1000000) -dsimp (disch := (repeat first | rw [AH.nx_new] | rw [AH.nx_put]); first | done | omega) only [go_sem, Int.reduceEq, Int.reduceNe, Int.reduceLT, Int.reduceLE, Int.reduceAdd, Int.reduceSub, Int.reduceMul, Int.reduceNeg, Int.reduceToNat, Nat.reducePow, reduceCtorEq, Nat.reduceEqDiff, Nat.reduceAdd, Nat.reduceLT, Nat.reduceLeDiff, Nat.reduceMul, Nat.reduceSub, Nat.reduceBEq, ln5, cr]
      refine ⟨trivial, ⟨K5, nm5, sm5, ch5, ρ5, hT5.putL k5 _, (gx.x L).put _⟩, ?_⟩
      unfold Lo
      rw [AH.get_put_eq rfl]
  · have ea : appendL path l T s = (l.e, l, T) := append_bad l (by omega) T s
    rw [ea]
    simp (maxSteps := 1000000) -dsimp (disch := (repeat first | rw [AH.nx_new] | rw [AH.nx_put]); first | done | omega) only [go_sem, Int.reduceEq, Int.reduceNe, Int.reduceLT, Int.reduceLE, Int.reduceAdd, Int.reduceSub, Int.reduceMul, Int.reduceNeg, Int.reduceToNat, Nat.reducePow, reduceCtorEq, Nat.reduceEqDiff, Nat.reduceAdd, Nat.reduceLT, Nat.reduceLeDiff, Nat.reduceMul, Nat.reduceSub, Nat.reduceBEq, lg, og, ce]
    exact ⟨trivial, ⟨K, nm, sm, chv, ρ, hTg, (frGr fg K).x L⟩, hL.gr (frGr fg K) kl.1 kl.2⟩
set_option maxHeartbeats 8000000 in
theorem lsyncC (hS : Wl S) {K p nm sm chv ρ h T} (hT : Tr K p nm sm chv ρ h T) {L : Nat} {path : Pth} {l : Lg} (hL : Lo h L p path l) (kl : L < h.nx ∧ K L = 0) (hp : checkS path = 0) :
    RnC Tryz.prog S 10 [.ptr L 0] h fun r h' => r = .int .i64 ((syncL path l T).1 : Nat) ∧ ResX L K p h h' (syncL path l T).2.2 ∧ Lo h' L p path (syncL path l T).2.1 := by
  refine RnC.enter' Tryz.f10 _ 36 [.tmp 2] (hS.nw _ _ _ (by simp)) bd10 Tryz.func10 rfl rfl rfl ?_
  have hL0 := hL
  unfold Lo at hL0
  have op := okP_chk hp
  by_cases ce : ((l.e : Nat) : Int) = 0
  · have e0 : l.e = 0 := by omega
    have ea : syncL path l T = ((syncT T true path).1, { l with e := (syncT T true path).1 }, (syncT T true path).2) := by
      unfold syncL
      rw [if_neg (by omega)]
    rw [ea]
    clear ea
    simp (maxSteps := 1000000) -dsimp (disch := (repeat first | rw [AH.nx_new] | rw [AH.nx_put]); first | done | omega) only [go_sem, Int.reduceEq, Int.reduceNe, Int.reduceLT, Int.reduceLE, Int.reduceAdd, Int.reduceSub, Int.reduceMul, Int.reduceNeg, Int.reduceToNat, Nat.reducePow, reduceCtorEq, Nat.reduceEqDiff, Nat.reduceAdd, Nat.reduceLT, Nat.reduceLeDiff, Nat.reduceMul, Nat.reduceSub, Nat.reduceBEq, hL0, nilL, nilTr, ce]
    refine syDraw.go0 (by kernel_rfl) ?_
    simp (maxSteps := 1000000) -dsimp (disch := (repeat first | rw [AH.nx_new] | rw [AH.nx_put]); first | done | omega) only [go_sem, Int.reduceEq, Int.reduceNe, Int.reduceLT, Int.reduceLE, Int.reduceAdd, Int.reduceSub, Int.reduceMul, Int.reduceNeg, Int.reduceToNat, Nat.reducePow, reduceCtorEq, Nat.reduceEqDiff, Nat.reduceAdd, Nat.reduceLT, Nat.reduceLeDiff, Nat.reduceMul, Nat.reduceSub, Nat.reduceBEq, hL0, ce]
    have f4 : Fr h { tr := h.tr, nx := h.nx + 14 } := (Fr.refl h).more _ (by omega)
    refine callK_of (syncC hS.toSt (hT.fr f4) path) ?_
    rw [op]
    rintro r g5 ⟨rfl, K5, nm5, sm5, ch5, ρ5, hT5, gr5⟩
    generalize syncT T true path = R at hT5 ⊢
    obtain ⟨re, rT⟩ := R
    dsimp only at hT5 ⊢
    have gx : Gr K h K5 g5 := (frGr f4 K).trans gr5
    have l5 : g5.get L = _ := (gx.get _ kl.1 kl.2).1.trans hL0
    have k5 := (gx.get _ kl.1 kl.2).2
    rw [e0] at l5
    refine callK_of (noteC hS (x := re) l5) ?_
    rintro r g6 ⟨rfl, rfl⟩
    simp (maxSteps := 1000000) -dsimp (disch := (repeat first | rw [AH.nx_new] | rw [AH.nx_put]); first | done | omega) only [go_sem, Int.reduceEq, Int.reduceNe, Int.reduceLT, Int.reduceLE, Int.reduceAdd, Int.reduceSub, Int.reduceMul, Int.reduceNeg, Int.reduceToNat, Nat.reducePow, reduceCtorEq, Nat.reduceEqDiff, Nat.reduceAdd, Nat.reduceLT, Nat.reduceLeDiff, Nat.reduceMul, Nat.reduceSub, Nat.reduceBEq]
    refine ⟨trivial, ⟨K5, nm5, sm5, ch5, ρ5, hT5.putL k5 _, (gx.x L).put _⟩, ?_⟩
    unfold Lo
    rw [AH.get_put_eq rfl]
  · have ea : syncL path l T = (l.e, l, T) := by
      unfold syncL
      rw [if_pos (by omega)]
    rw [ea]
    simp (maxSteps := 1000000) -dsimp (disch := (repeat first | rw [AH.nx_new] | rw [AH.nx_put]); first | done | omega) only [go_sem, Int.reduceEq, Int.reduceNe, Int.reduceLT, Int.reduceLE, Int.reduceAdd, Int.reduceSub, Int.reduceMul, Int.reduceNeg, Int.reduceToNat, Nat.reducePow, reduceCtorEq, Nat.reduceEqDiff, Nat.reduceAdd, Nat.reduceLT, Nat.reduceLeDiff, Nat.reduceMul, Nat.reduceSub, Nat.reduceBEq, hL0, nilL, nilTr, ce]
    exact ⟨trivial, ⟨K, nm, sm, chv, ρ, hT, GrX.refl _ _ _⟩, hL⟩
set_option maxHeartbeats 8000000 in
theorem lasidePC (hS : Wl S) {K p nm sm chv ρ h T} (hT : Tr K p nm sm chv ρ h T) {n c : Nat} (hb : Bm n c T) (hn : n ≤ 16000) (hc : c < 1152921504606000000) {L : Nat} {path : Pth} {l : Lg} (hL : Lo h L p path l) (kl : L < h.nx ∧ K L = 0) (hp : checkS path = 0)
    {v : AV} {s : List (List Nat)} (hv : Tx K h v s) (hs : ∀ x ∈ s, x.length ≤ 1048576 ∧ ∀ b ∈ x, b < 256) (hl : (frs s).length ≤ 67108864) :
    RnC Tryz.prog S 12 [.ptr L 0, v] h fun r h' => r = .int .i64 ((asideL path (tmpS ++ path) l T s).1 : Nat) ∧ ResX L K p h h' (asideL path (tmpS ++ path) l T s).2.2 ∧ Lo h' L p path (asideL path (tmpS ++ path) l T s).2.1 := by
  refine RnC.enter' Tryz.f12 _ 43 [.tmp 4] (hS.nw _ _ _ (by simp)) bd12 Tryz.func12 rfl rfl rfl ?_
  have hL0 := hL
  unfold Lo at hL0
  have op := okP_chk hp
  have ov := hv.1.one.1
  simp (maxSteps := 1000000) -dsimp (disch := (repeat first | rw [AH.nx_new] | rw [AH.nx_put]); first | done | omega) only [go_sem, Int.reduceEq, Int.reduceNe, Int.reduceLT, Int.reduceLE, Int.reduceAdd, Int.reduceSub, Int.reduceMul, Int.reduceNeg, Int.reduceToNat, Nat.reducePow, reduceCtorEq, Nat.reduceEqDiff, Nat.reduceAdd, Nat.reduceLT, Nat.reduceLeDiff, Nat.reduceMul, Nat.reduceSub, Nat.reduceBEq, hL0, nilL, nilTr, ov]
  refine callK_of (framesC hS hv hs (by omega)) ?_
  rintro r g ⟨w, rfl, hbn, fg⟩
  have og := (bsLn hbn.bs).2.2
  have lg : g.get L = _ := (fg.get _ kl.1).trans hL0
  have hTg := hT.fr fg
  have kg : L < g.nx := Nat.lt_of_lt_of_le kl.1 fg.nx
  by_cases ce : ((l.e : Nat) : Int) = 0
  · have e0 : l.e = 0 := by omega
    have ea : asideL path (tmpS ++ path) l T s = if (asideT path (tmpS ++ path) (frs s) T).1 ≠ 0 then ((asideT path (tmpS ++ path) (frs s) T).1, { l with e := (asideT path (tmpS ++ path) (frs s) T).1 }, (asideT path (tmpS ++ path) (frs s) T).2) else (0, ⟨0, (frs s).length, s.length⟩, (asideT path (tmpS ++ path) (frs s) T).2) := by
      unfold asideL
      rw [if_neg (by omega)]
    rw [ea]
    clear ea
    simp (maxSteps := 1000000) -dsimp (disch := (repeat first | rw [AH.nx_new] | rw [AH.nx_put]); first | done | omega) only [go_sem, Int.reduceEq, Int.reduceNe, Int.reduceLT, Int.reduceLE, Int.reduceAdd, Int.reduceSub, Int.reduceMul, Int.reduceNeg, Int.reduceToNat, Nat.reducePow, reduceCtorEq, Nat.reduceEqDiff, Nat.reduceAdd, Nat.reduceLT, Nat.reduceLeDiff, Nat.reduceMul, Nat.reduceSub, Nat.reduceBEq, lg, og, ov, ce]
    refine syDraw.go0 (by kernel_rfl) ?_
    simp (maxSteps := 1000000) -dsimp (disch := (repeat first | rw [AH.nx_new] | rw [AH.nx_put]); first | done | omega) only [go_sem, Int.reduceEq, Int.reduceNe, Int.reduceLT, Int.reduceLE, Int.reduceAdd, Int.reduceSub, Int.reduceMul, Int.reduceNeg, Int.reduceToNat, Nat.reducePow, reduceCtorEq, Nat.reduceEqDiff, Nat.reduceAdd, Nat.reduceLT, Nat.reduceLeDiff, Nat.reduceMul, Nat.reduceSub, Nat.reduceBEq, lg, og, ov, ce]
    have f4 : Fr g { tr := g.tr, nx := g.nx + 9 } := (Fr.refl g).more _ (by omega)
    have hv4 := (hv.fr (fg.trans f4))
    have bz : Bz K { tr := g.tr, nx := g.nx + 9 } w (frs s) := ⟨hbn.bs.fr f4, fun id off n z c hh => by
      rcases hbn with ⟨h1, _⟩ | ⟨id', c', cs, tx, h1, h2, h3, h4, h5⟩
      · rw [h1] at hh; cases hh
      · rw [h1] at hh; cases hh; exact hT.top _ h4⟩
    have hL4 : Lo { tr := g.tr, nx := g.nx + 9 } L p path l := lg
    refine callK_of (lasideC hS (hTg.fr f4) hb hn hc hL4 ⟨by show L < g.nx + 9; omega, kl.2⟩ hp (sv := v) (ns := s.length) (fun g => hv.len Tryz.underlying22 g) ov bz (frs_byt fun x hx => (hs x hx).2) hl) ?_
    rintro r g5 ⟨rfl, ⟨K5, nm5, sm5, ch5, ρ5, hT5, gr5⟩, l5⟩
    generalize asideT path (tmpS ++ path) (frs s) T = R at hT5 l5 ⊢
    obtain ⟨re, rT⟩ := R
    dsimp only at hT5 l5 ⊢
    have gx : GrX L K h K5 g5 := ((frGr (fg.trans f4) K).x L).trans gr5
    have k5 := (gx.get _ kl.1 kl.2).2
    by_cases cr : ((re : Nat) : Int) = 0
    · have cr' : re = 0 := by omega
      rw [if_pos cr'] at l5
      rw [if_neg (by omega)]
      unfold Lo at l5
      rw [e0] at l5
      refine callK_of (noteC hS (x := re) l5) ?_
      rintro r g6 ⟨rfl, rfl⟩
      simp (maxSteps := 1000000) -dsimp (disch := (repeat first | rw [AH.nx_new] | rw [AH.nx_put]); first | done | omega) only [go_sem, Int.reduceEq, Int.reduceNe, Int.reduceLT, Int.reduceLE, Int.reduceAdd, Int.reduceSub, Int.reduceMul, Int.reduceNeg, Int.reduceToNat, Nat.reducePow, reduceCtorEq, Nat.reduceEqDiff, Nat.reduceAdd, Nat.reduceLT, Nat.reduceLeDiff, Nat.reduceMul, Nat.reduceSub, Nat.reduceBEq]
      refine ⟨by rw [cr']; rfl, ⟨K5, nm5, sm5, ch5, ρ5, hT5.putL k5 _, gx.put _⟩, ?_⟩
      unfold Lo
      rw [AH.get_put_eq rfl, cr']
    · rw [if_neg (by omega)] at l5
      rw [if_pos (by omega)]
      unfold Lo at l5
      rw [e0] at l5
      refine callK_of (noteC hS (x := re) l5) ?_
      rintro r g6 ⟨rfl, rfl⟩
      simp (maxSteps := 1000000) -dsimp (disch := (repeat first | rw [AH.nx_new] | rw [AH.nx_put]); first | done | omega) only [go_sem, Int.reduceEq, Int.reduceNe, Int.reduceLT, Int.reduceLE, Int.reduceAdd, Int.reduceSub, Int.reduceMul, Int.reduceNeg, Int.reduceToNat, Nat.reducePow, reduceCtorEq, Nat.reduceEqDiff, Nat.reduceAdd, Nat.reduceLT, Nat.reduceLeDiff, Nat.reduceMul, Nat.reduceSub, Nat.reduceBEq]
      refine ⟨trivial, ⟨K5, nm5, sm5, ch5, ρ5, hT5.putL k5 _, gx.put _⟩, ?_⟩
      unfold Lo
      rw [AH.get_put_eq rfl]
  · have ea : asideL path (tmpS ++ path) l T s = (l.e, l, T) := by
      unfold asideL
      rw [if_pos (by omega)]
    rw [ea]
    simp (maxSteps := 1000000) -dsimp (disch := (repeat first | rw [AH.nx_new] | rw [AH.nx_put]); first | done | omega) only [go_sem, Int.reduceEq, Int.reduceNe, Int.reduceLT, Int.reduceLE, Int.reduceAdd, Int.reduceSub, Int.reduceMul, Int.reduceNeg, Int.reduceToNat, Nat.reducePow, reduceCtorEq, Nat.reduceEqDiff, Nat.reduceAdd, Nat.reduceLT, Nat.reduceLeDiff, Nat.reduceMul, Nat.reduceSub, Nat.reduceBEq, lg, og, ov, ce]
    exact ⟨trivial, ⟨K, nm, sm, chv, ρ, hTg, (frGr fg K).x L⟩, hL.gr (frGr fg K) kl.1 kl.2⟩
theorem lcountC (hS : Wl S) {h : AH} {L p : Nat} {path : Pth} {l : Lg} (hL : Lo h L p path l) : RnC Tryz.prog S 15 [.ptr L 0] h fun r h' => r = .int .i64 (l.n : Nat) ∧ h' = h := by
  refine RnC.enter' Tryz.f15 _ 9 [.tmp 2] (hS.nw _ _ _ (by simp)) bd15 Tryz.func15 rfl rfl rfl ?_
  unfold Lo at hL
  simp (maxSteps := 1000000) -dsimp (disch := (repeat first | rw [AH.nx_new] | rw [AH.nx_put]); first | done | omega) only [go_sem, evLen, Int.reduceEq, Int.reduceNe, Int.reduceLT, Int.reduceLE, Int.reduceAdd, Int.reduceSub, Int.reduceMul, Int.reduceNeg, Int.reduceToNat, Nat.reducePow, reduceCtorEq, Nat.reduceEqDiff, Nat.reduceAdd, Nat.reduceLT, Nat.reduceLeDiff, Nat.reduceMul, Nat.reduceSub, Nat.reduceBEq, hL, nilL]
  exact ⟨trivial, trivial⟩
theorem lsizeC (hS : Wl S) {h : AH} {L p : Nat} {path : Pth} {l : Lg} (hL : Lo h L p path l) : RnC Tryz.prog S 16 [.ptr L 0] h fun r h' => r = .int .i64 (l.size : Nat) ∧ h' = h := by
  refine RnC.enter' Tryz.f16 _ 9 [.tmp 2] (hS.nw _ _ _ (by simp)) bd16 Tryz.func16 rfl rfl rfl ?_
  unfold Lo at hL
  simp (maxSteps := 1000000) -dsimp (disch := (repeat first | rw [AH.nx_new] | rw [AH.nx_put]); first | done | omega) only [go_sem, evLen, Int.reduceEq, Int.reduceNe, Int.reduceLT, Int.reduceLE, Int.reduceAdd, Int.reduceSub, Int.reduceMul, Int.reduceNeg, Int.reduceToNat, Nat.reducePow, reduceCtorEq, Nat.reduceEqDiff, Nat.reduceAdd, Nat.reduceLT, Nat.reduceLeDiff, Nat.reduceMul, Nat.reduceSub, Nat.reduceBEq, hL, nilL]
  exact ⟨trivial, trivial⟩
/-! ### Texts -/
theorem neSt4 (h : AH) (a b : List Nat) : binA Tryz.prog h .neq 9 (.str a) (.str b) = some (.bool (!decide (a = b))) := by
  simp [binA, strA, eqL_eq]
set_option maxHeartbeats 8000000 in
theorem textsG (hS : Wl S) {h : AH} {x y : AV} {l m : List Pth} (hx : Go.Abs.Cs h x (l.map AV.str)) (hy : Go.Abs.Cs h y (m.map AV.str)) (hll : l.length ≤ 1000000) : RnC Tryz.prog S 14 [x, y] h fun r h' => r = .bool (decide (l = m)) ∧ Fr h h' := by
  refine RnC.enter' Tryz.f14 _ 26 [.tmp 4] (hS.nw _ _ _ (by simp)) bd14 Tryz.func14 rfl rfl rfl ?_
  have lx : ∀ g, evLen Tryz.prog g #[22] x = some (.int .i64 (l.length : Nat)) := fun g => by have := hx.len Tryz.underlying22 g; rwa [List.length_map] at this
  have ly : ∀ g, evLen Tryz.prog g #[22] y = some (.int .i64 (m.length : Nat)) := fun g => by have := hy.len Tryz.underlying22 g; rwa [List.length_map] at this
  have ox := hx.one.1
  have oy := hy.one.1
  by_cases c0 : ((l.length : Nat) : Int) = ((m.length : Nat) : Int)
  · simp (maxSteps := 1000000) -dsimp (disch := (repeat first | rw [AH.nx_new] | rw [AH.nx_put]); first | done | omega) only [go_sem, Int.reduceEq, Int.reduceNe, Int.reduceLT, Int.reduceLE, Int.reduceAdd, Int.reduceSub, Int.reduceMul, Int.reduceNeg, Int.reduceToNat, Nat.reducePow, reduceCtorEq, Nat.reduceEqDiff, Nat.reduceAdd, Nat.reduceLT, Nat.reduceLeDiff, Nat.reduceMul, Nat.reduceSub, Nat.reduceBEq, lx, ly, ox, oy, c0]
    have hlm : l.length = m.length := by omega
    refine loopK_of (RnL.rounds (Q := fun ex u => u.d = [] ∧ Fr h u.h ∧ (ex = .exit 0 ∧ l = m ∨ ex = .ret ∧ ¬ l = m ∧ u.t.get 4 = some (.bool false)))
      (fun k u => u.d = [] ∧ Fr h u.h ∧ u.t.get 0 = some x ∧ u.t.get 1 = some y ∧ ∃ i : Nat, u.t.get 5 = some (.int .i64 (i : Nat)) ∧ i ≤ l.length ∧ l.take i = m.take i ∧ k = l.length - i) ?_ l.length ?_) ?_
    · rintro k ⟨t, g, d⟩ ⟨e2, e1, g0, g1, i, g5, hi, htk, rfl⟩
      dsimp only at e1 e2 g0 g1 g5
      subst e2
      by_cases c4 : (i : Int) < (l.length : Nat)
      · have hil : i < l.length := by omega
        have him : i < m.length := by omega
        obtain ⟨a, ha⟩ : ∃ a, l[i]? = some a := ⟨_, List.getElem?_eq_getElem hil⟩
        obtain ⟨b, hb⟩ : ∃ b, m[i]? = some b := ⟨_, List.getElem?_eq_getElem him⟩
        obtain ⟨idx, ofx, cx, csx, ox', tx, rfl, hgx, hix, hcx⟩ := Tx.get (K := fun _ => 0) ⟨hx.fr e1, fun _ _ _ _ _ _ => rfl⟩ ha
        obtain ⟨idy, ofy, cy, csy, oy', ty, rfl, hgy, hiy, hcy⟩ := Tx.get (K := fun _ => 0) ⟨hy.fr e1, fun _ _ _ _ _ _ => rfl⟩ hb
        have s1 : l.take (i + 1) = l.take i ++ [a] := by rw [List.take_add_one, ha]; rfl
        have s2 : m.take (i + 1) = m.take i ++ [b] := by rw [List.take_add_one, hb]; rfl
        simp (maxSteps := 1000000) -dsimp (disch := (repeat first | rw [AH.nx_new] | rw [AH.nx_put]); first | done | omega) only [go_sem, Int.reduceEq, Int.reduceNe, Int.reduceLT, Int.reduceLE, Int.reduceAdd, Int.reduceSub, Int.reduceMul, Int.reduceNeg, Int.reduceToNat, Nat.reducePow, reduceCtorEq, Nat.reduceEqDiff, Nat.reduceAdd, Nat.reduceLT, Nat.reduceLeDiff, Nat.reduceMul, Nat.reduceSub, Nat.reduceBEq, c4, lx, ly, g0, g1, g5]
        refine syDraw.go0 (by kernel_rfl) ?_
        by_cases cab : a = b
        · subst cab
          simp (maxSteps := 1000000) -dsimp (disch := (repeat first | rw [AH.nx_new] | rw [AH.nx_put]); first | done | omega) only [go_sem, Int.reduceEq, Int.reduceNe, Int.reduceLT, Int.reduceLE, Int.reduceAdd, Int.reduceSub, Int.reduceMul, Int.reduceNeg, Int.reduceToNat, Nat.reducePow, reduceCtorEq, Nat.reduceEqDiff, Nat.reduceAdd, Nat.reduceLT, Nat.reduceLeDiff, Nat.reduceMul, Nat.reduceSub, Nat.reduceBEq, c4, hil, him, hgx, hgy, hcx, hcy, neSt4, Nat.mul_one, g0, g1, g5]
          exact ⟨l.length - (i + 1), by omega, trivial, e1.more _ (by omega), trivial, trivial, i + 1, rfl, by omega, by rw [s1, s2, htk], rfl⟩
        · simp (maxSteps := 1000000) -dsimp (disch := (repeat first | rw [AH.nx_new] | rw [AH.nx_put]); first | done | omega) only [go_sem, Int.reduceEq, Int.reduceNe, Int.reduceLT, Int.reduceLE, Int.reduceAdd, Int.reduceSub, Int.reduceMul, Int.reduceNeg, Int.reduceToNat, Nat.reducePow, reduceCtorEq, Nat.reduceEqDiff, Nat.reduceAdd, Nat.reduceLT, Nat.reduceLeDiff, Nat.reduceMul, Nat.reduceSub, Nat.reduceBEq, c4, hil, him, hgx, hgy, hcx, hcy, neSt4, cab, Nat.mul_one, g0, g1, g5]
          refine ⟨trivial, e1.more _ (by omega), .inr ⟨trivial, fun hh => cab ?_, trivial⟩⟩
          rw [hh, hb] at ha
          cases ha; rfl
      · have : i = l.length := by omega
        subst this
        rw [List.take_length, hlm, List.take_length] at htk
        simp (maxSteps := 1000000) -dsimp (disch := (repeat first | rw [AH.nx_new] | rw [AH.nx_put]); first | done | omega) only [go_sem, Int.reduceEq, Int.reduceNe, Int.reduceLT, Int.reduceLE, Int.reduceAdd, Int.reduceSub, Int.reduceMul, Int.reduceNeg, Int.reduceToNat, Nat.reducePow, reduceCtorEq, Nat.reduceEqDiff, Nat.reduceAdd, Nat.reduceLT, Nat.reduceLeDiff, Nat.reduceMul, Nat.reduceSub, Nat.reduceBEq, c4, lx, ly, g0, g1, g5]
        exact ⟨trivial, e1, .inl ⟨trivial, htk⟩⟩
    · simp (maxSteps := 1000000) -dsimp (disch := (repeat first | rw [AH.nx_new] | rw [AH.nx_put]); first | done | omega) only [go_sem, Int.reduceEq, Int.reduceNe, Int.reduceLT, Int.reduceLE, Int.reduceAdd, Int.reduceSub, Int.reduceMul, Int.reduceNeg, Int.reduceToNat, Nat.reducePow, reduceCtorEq, Nat.reduceEqDiff, Nat.reduceAdd, Nat.reduceLT, Nat.reduceLeDiff, Nat.reduceMul, Nat.reduceSub, Nat.reduceBEq]
      exact ⟨trivial, Fr.refl _, trivial, trivial, 0, rfl, Nat.zero_le _, rfl, rfl⟩
    · rintro ex ⟨t, g, d⟩ ⟨rfl, e1, ⟨rfl, hq⟩ | ⟨rfl, hq, g4⟩⟩
      · dsimp only at e1
        simp (maxSteps := 1000000) -dsimp (disch := (repeat first | rw [AH.nx_new] | rw [AH.nx_put]); first | done | omega) only [go_sem, Int.reduceEq, Int.reduceNe, Int.reduceLT, Int.reduceLE, Int.reduceAdd, Int.reduceSub, Int.reduceMul, Int.reduceNeg, Int.reduceToNat, Nat.reducePow, reduceCtorEq, Nat.reduceEqDiff, Nat.reduceAdd, Nat.reduceLT, Nat.reduceLeDiff, Nat.reduceMul, Nat.reduceSub, Nat.reduceBEq]
        exact ⟨by rw [decide_eq_true hq], e1⟩
      · dsimp only at e1 g4
        simp (maxSteps := 1000000) -dsimp (disch := (repeat first | rw [AH.nx_new] | rw [AH.nx_put]); first | done | omega) only [go_sem, Int.reduceEq, Int.reduceNe, Int.reduceLT, Int.reduceLE, Int.reduceAdd, Int.reduceSub, Int.reduceMul, Int.reduceNeg, Int.reduceToNat, Nat.reducePow, reduceCtorEq, Nat.reduceEqDiff, Nat.reduceAdd, Nat.reduceLT, Nat.reduceLeDiff, Nat.reduceMul, Nat.reduceSub, Nat.reduceBEq, g4]
        exact ⟨by rw [decide_eq_false hq], e1⟩
  · simp (maxSteps := 1000000) -dsimp (disch := (repeat first | rw [AH.nx_new] | rw [AH.nx_put]); first | done | omega) only [go_sem, Int.reduceEq, Int.reduceNe, Int.reduceLT, Int.reduceLE, Int.reduceAdd, Int.reduceSub, Int.reduceMul, Int.reduceNeg, Int.reduceToNat, Nat.reducePow, reduceCtorEq, Nat.reduceEqDiff, Nat.reduceAdd, Nat.reduceLT, Nat.reduceLeDiff, Nat.reduceMul, Nat.reduceSub, Nat.reduceBEq, lx, ly, ox, oy, c0]
    refine ⟨?_, Fr.refl _⟩
    rw [decide_eq_false (fun hh => c0 (by rw [hh]))]
def mS (m : Nat) : List (List Nat) → Nat
  | [] => 0
  | s :: r => min s.length (m + 1) + mS m r
theorem mS_snoc (m : Nat) (a : List Nat) : ∀ l : List (List Nat), mS m (l ++ [a]) = mS m l + min a.length (m + 1)
  | [] => by simp [mS]
  | s :: r => by
    have := mS_snoc m a r
    show min s.length (m + 1) + mS m (r ++ [a]) = min s.length (m + 1) + mS m r + _
    omega
theorem mS_sum {m : Nat} : ∀ {l : List (List Nat)}, mS m l ≤ m → sumL l = mS m l
  | [], _ => rfl
  | s :: r, h => by
    unfold mS at h
    have := mS_sum (l := r) (m := m) (by omega)
    show s.length + sumL r = min s.length (m + 1) + mS m r
    omega
set_option maxHeartbeats 8000000 in
theorem lightC (hS : Wl S) {h : AH} {x : AV} {l : List Pth} (hx : Go.Abs.Cs h x (l.map AV.str)) {n m : Nat} (hn : n ≤ 1000000) (hm : m ≤ 1000000) : RnC Tryz.prog S 6 [x, .int .i64 (n : Nat), .int .i64 (m : Nat)] h fun r h' => (∃ b : Bool, r = .bool b ∧ (b = true → l.length ≤ n ∧ sumL l ≤ m)) ∧ Fr h h' := by
  refine RnC.enter' Tryz.f6 _ 44 [.tmp 6] (hS.nw _ _ _ (by simp)) bd6 Tryz.func6 rfl rfl rfl ?_
  have lx : ∀ g, evLen Tryz.prog g #[22] x = some (.int .i64 (l.length : Nat)) := fun g => by have := hx.len Tryz.underlying22 g; rwa [List.length_map] at this
  have ls : ∀ g s, evLen Tryz.prog g #[9] (.str s) = some (.int .i64 ((s.length : Nat) : Int)) := fun g s => by simp [evLen, Tryz.underlying9]
  have ox := hx.one.1
  simp (maxSteps := 1000000) -dsimp (disch := (repeat first | rw [AH.nx_new] | rw [AH.nx_put]); first | done | omega) only [go_sem, Int.reduceEq, Int.reduceNe, Int.reduceLT, Int.reduceLE, Int.reduceAdd, Int.reduceSub, Int.reduceMul, Int.reduceNeg, Int.reduceToNat, Nat.reducePow, reduceCtorEq, Nat.reduceEqDiff, Nat.reduceAdd, Nat.reduceLT, Nat.reduceLeDiff, Nat.reduceMul, Nat.reduceSub, Nat.reduceBEq, ox]
  refine loopK_of (RnL.rounds (Q := fun ex u => ex = .exit 0 ∧ u.d = [] ∧ u.h = h ∧ u.t.get 0 = some x ∧ u.t.get 1 = some (.int .i64 (n : Nat)) ∧ u.t.get 2 = some (.int .i64 (m : Nat)) ∧ ∃ i : Nat, u.t.get 7 = some (.int .i64 (mS m (l.take i) : Nat)) ∧ i ≤ l.length ∧ (l.length ≤ n → mS m (l.take i) ≤ m → i = l.length))
    (fun k u => u.d = [] ∧ u.h = h ∧ u.t.get 0 = some x ∧ u.t.get 1 = some (.int .i64 (n : Nat)) ∧ u.t.get 2 = some (.int .i64 (m : Nat)) ∧ ∃ i : Nat, u.t.get 8 = some (.int .i64 (i : Nat)) ∧ u.t.get 7 = some (.int .i64 (mS m (l.take i) : Nat)) ∧ i ≤ l.length ∧ k = l.length - i) ?_ l.length ?_) ?_
  · rintro k ⟨t, g, d⟩ ⟨e2, e1, g0, g1, g2, i, g8, g7, hi, rfl⟩
    dsimp only at e1 e2 g0 g1 g2 g7 g8
    subst e1 e2
    by_cases c1 : (i : Int) < (l.length : Nat)
    · by_cases c2 : (i : Int) ≤ (n : Nat)
      · by_cases c3 : ((mS m (l.take i) : Nat) : Int) ≤ (m : Nat)
        · have hil : i < l.length := by omega
          obtain ⟨a, ha⟩ : ∃ a, l[i]? = some a := ⟨_, List.getElem?_eq_getElem hil⟩
          obtain ⟨idx, ofx, cx, csx, ox', tx, rfl, hgx, hix, hcx⟩ := Tx.get (K := fun _ => 0) ⟨hx, fun _ _ _ _ _ _ => rfl⟩ ha
          simp (maxSteps := 1000000) -dsimp (disch := (repeat first | rw [AH.nx_new] | rw [AH.nx_put]); first | done | omega) only [go_sem, Int.reduceEq, Int.reduceNe, Int.reduceLT, Int.reduceLE, Int.reduceAdd, Int.reduceSub, Int.reduceMul, Int.reduceNeg, Int.reduceToNat, Nat.reducePow, reduceCtorEq, Nat.reduceEqDiff, Nat.reduceAdd, Nat.reduceLT, Nat.reduceLeDiff, Nat.reduceMul, Nat.reduceSub, Nat.reduceBEq, c1, c2, c3, g0, g1, g2, g7, g8, lx, ls, hil, hgx, hcx, Nat.mul_one]
          have s1 : l.take (i + 1) = l.take i ++ [a] := by rw [List.take_add_one, ha]; rfl
          refine ⟨l.length - (i + 1), by omega, trivial, trivial, trivial, trivial, trivial, i + 1, rfl, ?_, by omega, rfl⟩
          congr 1
          rw [s1, mS_snoc]
          omega
        · simp (maxSteps := 1000000) -dsimp (disch := (repeat first | rw [AH.nx_new] | rw [AH.nx_put]); first | done | omega) only [go_sem, Int.reduceEq, Int.reduceNe, Int.reduceLT, Int.reduceLE, Int.reduceAdd, Int.reduceSub, Int.reduceMul, Int.reduceNeg, Int.reduceToNat, Nat.reducePow, reduceCtorEq, Nat.reduceEqDiff, Nat.reduceAdd, Nat.reduceLT, Nat.reduceLeDiff, Nat.reduceMul, Nat.reduceSub, Nat.reduceBEq, c1, c2, c3, g0, g1, g2, g7, g8, lx]
          exact ⟨trivial, trivial, trivial, trivial, trivial, trivial, i, rfl, hi, fun _ hh => absurd hh (by omega)⟩
      · simp (maxSteps := 1000000) -dsimp (disch := (repeat first | rw [AH.nx_new] | rw [AH.nx_put]); first | done | omega) only [go_sem, Int.reduceEq, Int.reduceNe, Int.reduceLT, Int.reduceLE, Int.reduceAdd, Int.reduceSub, Int.reduceMul, Int.reduceNeg, Int.reduceToNat, Nat.reducePow, reduceCtorEq, Nat.reduceEqDiff, Nat.reduceAdd, Nat.reduceLT, Nat.reduceLeDiff, Nat.reduceMul, Nat.reduceSub, Nat.reduceBEq, c1, c2, g0, g1, g2, g7, g8, lx]
        exact ⟨trivial, trivial, trivial, trivial, trivial, trivial, i, rfl, hi, fun hh _ => absurd hh (by omega)⟩
    · simp (maxSteps := 1000000) -dsimp (disch := (repeat first | rw [AH.nx_new] | rw [AH.nx_put]); first | done | omega) only [go_sem, Int.reduceEq, Int.reduceNe, Int.reduceLT, Int.reduceLE, Int.reduceAdd, Int.reduceSub, Int.reduceMul, Int.reduceNeg, Int.reduceToNat, Nat.reducePow, reduceCtorEq, Nat.reduceEqDiff, Nat.reduceAdd, Nat.reduceLT, Nat.reduceLeDiff, Nat.reduceMul, Nat.reduceSub, Nat.reduceBEq, c1, g0, g1, g2, g7, g8, lx]
      exact ⟨trivial, trivial, trivial, trivial, trivial, trivial, i, rfl, hi, fun _ _ => by omega⟩
  · simp (maxSteps := 1000000) -dsimp (disch := (repeat first | rw [AH.nx_new] | rw [AH.nx_put]); first | done | omega) only [go_sem, Int.reduceEq, Int.reduceNe, Int.reduceLT, Int.reduceLE, Int.reduceAdd, Int.reduceSub, Int.reduceMul, Int.reduceNeg, Int.reduceToNat, Nat.reducePow, reduceCtorEq, Nat.reduceEqDiff, Nat.reduceAdd, Nat.reduceLT, Nat.reduceLeDiff, Nat.reduceMul, Nat.reduceSub, Nat.reduceBEq]
    exact ⟨trivial, trivial, trivial, trivial, trivial, 0, rfl, rfl, Nat.zero_le _, rfl⟩
  · rintro ex ⟨t, g, d⟩ ⟨rfl, rfl, rfl, g0, g1, g2, i, g7, hi, hh⟩
    dsimp only at g0 g1 g2 g7
    by_cases c1 : ((l.length : Nat) : Int) ≤ (n : Nat)
    · by_cases c2 : ((mS m (l.take i) : Nat) : Int) ≤ (m : Nat)
      · simp (maxSteps := 1000000) -dsimp (disch := (repeat first | rw [AH.nx_new] | rw [AH.nx_put]); first | done | omega) only [go_sem, Int.reduceEq, Int.reduceNe, Int.reduceLT, Int.reduceLE, Int.reduceAdd, Int.reduceSub, Int.reduceMul, Int.reduceNeg, Int.reduceToNat, Nat.reducePow, reduceCtorEq, Nat.reduceEqDiff, Nat.reduceAdd, Nat.reduceLT, Nat.reduceLeDiff, Nat.reduceMul, Nat.reduceSub, Nat.reduceBEq, c1, c2, g0, g1, g2, g7, lx]
        refine ⟨⟨true, rfl, fun _ => ⟨by omega, ?_⟩⟩, Fr.refl _⟩
        have := hh (by omega) (by omega)
        rw [this, List.take_length] at c2
        have hm2 := mS_sum (m := m) (l := l) (by omega)
        omega
      · simp (maxSteps := 1000000) -dsimp (disch := (repeat first | rw [AH.nx_new] | rw [AH.nx_put]); first | done | omega) only [go_sem, Int.reduceEq, Int.reduceNe, Int.reduceLT, Int.reduceLE, Int.reduceAdd, Int.reduceSub, Int.reduceMul, Int.reduceNeg, Int.reduceToNat, Nat.reducePow, reduceCtorEq, Nat.reduceEqDiff, Nat.reduceAdd, Nat.reduceLT, Nat.reduceLeDiff, Nat.reduceMul, Nat.reduceSub, Nat.reduceBEq, c1, c2, g0, g1, g2, g7, lx]
        exact ⟨⟨false, rfl, fun hx => by cases hx⟩, Fr.refl _⟩
    · simp (maxSteps := 1000000) -dsimp (disch := (repeat first | rw [AH.nx_new] | rw [AH.nx_put]); first | done | omega) only [go_sem, Int.reduceEq, Int.reduceNe, Int.reduceLT, Int.reduceLE, Int.reduceAdd, Int.reduceSub, Int.reduceMul, Int.reduceNeg, Int.reduceToNat, Nat.reducePow, reduceCtorEq, Nat.reduceEqDiff, Nat.reduceAdd, Nat.reduceLT, Nat.reduceLeDiff, Nat.reduceMul, Nat.reduceSub, Nat.reduceBEq, c1, g0, g1, g2, g7, lx]
      exact ⟨⟨false, rfl, fun hx => by cases hx⟩, Fr.refl _⟩
end
end Go.Proofs.YtdpipffikgmgdaaGreatDoor.tre
