/- The program's log: put aside, opened. Conditions: those of its summaries. -/
import Derived.Test.YtdpipffikgmgdaaGreatDoorWLe
namespace Go.Proofs.YtdpipffikgmgdaaGreatDoor.tre
open Go Go.Abs Go.Abs.Wal Go.Proofs
set_option maxRecDepth 100000
set_option linter.unusedVariables false
set_option linter.unusedSimpArgs false

theorem bldLg (p : Nat) (s : List Nat) : evBuild Tryz.prog 51 [(1, .ptr p 0), (2, .str s)] = some (.agg [.int .i64 0, .ptr p 0, .str s, .int .i64 0, .int .i64 0]) := by kernel_rfl
theorem lenNs (g : AH) : evLen Tryz.prog g #[22] .nilsl = some (.int .i64 ((0 : Nat) : Int)) := by simp [evLen, Tryz.underlying22]
theorem ssLn' {K : Nat → Nat} {h : AH} {v : AV} {l : List (List Nat)} (hb : Tx K h v l) : (∀ g, evLen Tryz.prog g #[22] v = some (.int .i64 (l.length : Nat))) ∧ sameAV 20 v v = true ∧ oneA v = true := ⟨fun g => hb.len Tryz.underlying22 g, hb.1.one.2, hb.1.one.1⟩
theorem sv_ptr (a o : Nat) : sameAV 20 (.ptr a o) (.ptr a o) = true := by simp [sameAV]
section
variable {S : Sums}
set_option maxHeartbeats 8000000 in
theorem lasideC (hS : Wl S) {K p nm sm chv ρ h T} (hT : Tr K p nm sm chv ρ h T) {n c : Nat} (hb : Bm n c T) (hn : n ≤ 16000) (hc : c < 1152921504606000000) {L : Nat} {path : Pth} {l : Lg} (hL : Lo h L p path l) (kl : L < h.nx ∧ K L = 0) (hp : checkS path = 0)
    {sv : AV} {ns : Nat} (hsl : ∀ g, evLen Tryz.prog g #[22] sv = some (.int .i64 (ns : Nat))) (osv : oneA sv = true) {bv : AV} {b : List Nat} (hbz : Bz K h bv b) (hby : ∀ x ∈ b, x < 256) (hbl : b.length ≤ 67108864) :
    RnC Tryz.prog S 21 [.ptr L 0, sv, bv] h fun r h' => r = .int .i64 ((asideT path (tmpS ++ path) b T).1 : Nat) ∧ ResX L K p h h' (asideT path (tmpS ++ path) b T).2 ∧ Lo h' L p path (if (asideT path (tmpS ++ path) b T).1 = 0 then ⟨l.e, b.length, ns⟩ else l) := by
  refine RnC.enter' Tryz.f21 _ 43 [.tmp 6] (hS.nw _ _ _ (by simp)) bd21 Tryz.func21 rfl rfl rfl ?_
  have ob := (bsLn hbz.1).2.2
  have cb := bsCells hbz.1
  have lb := (bsLn hbz.1).1
  have sb := (bsLn hbz.1).2.1
  have hpl : p < h.nx := hT.lt (by rw [hT.kp]; decide)
  have hL0 := hL
  unfold Lo at hL0
  have e1 : ∀ (j : Nat) (o1 o2 : AO), j < h.nx → ((h.new o1).new o2).get j = h.get j := fun j o1 o2 hj => (AH.get_new_ne (by simp; omega)).trans (AH.get_new_ne (by omega))
  have hL1 := fun o1 o2 => (e1 L o1 o2 kl.1).trans hL0
  have ha1 : ∀ (o1 o2 : AO), ((h.new o1).new o2).get h.nx = some o1 := fun o1 o2 => (AH.get_new_ne (by simp)).trans (AH.get_new_eq rfl)
  simp (maxSteps := 1000000) -dsimp (disch := (repeat first | rw [AH.nx_new] | rw [AH.nx_put]); first | done | omega) only [go_sem, Int.reduceEq, Int.reduceNe, Int.reduceLT, Int.reduceLE, Int.reduceAdd, Int.reduceSub, Int.reduceMul, Int.reduceNeg, Int.reduceToNat, Nat.reducePow, reduceCtorEq, Nat.reduceEqDiff, Nat.reduceAdd, Nat.reduceLT, Nat.reduceLeDiff, Nat.reduceMul, Nat.reduceSub, Nat.reduceBEq, ob, cb, osv, hL1, ha1]
  have f1 : Fr h ((h.new (.cells [.ptr L 0] true false)).new (.cells [bv] true false)) := (Fr.new _ _).news _
  refine callK_of (tempC hS hp) ?_
  rintro r g ⟨rfl, fg⟩
  have f2 := f1.trans fg
  have ag : g.get h.nx = some (.cells [.ptr L 0] true false) := (fg.get _ (by simp; omega)).trans (ha1 _ _)
  have eg : g.get (h.nx + 1) = some (.cells [bv] true false) := (fg.get _ (by simp)).trans (AH.get_new_eq rfl)
  have ng : h.nx + 2 ≤ g.nx := fg.nx
  have lg : g.get L = _ := (f2.get _ kl.1).trans hL0
  have agn : ∀ (o o' : AO), ((g.new o).put g.nx o').get h.nx = some (.cells [.ptr L 0] true false) := fun o o' => (AH.get_put_ne (by omega)).trans ((AH.get_new_ne (by omega)).trans ag)
  have lgn : ∀ (o o' : AO), ((g.new o).put g.nx o').get L = some (.cells [.int .i64 (l.e : Nat), .ptr p 0, .str path, .int .i64 (l.size : Nat), .int .i64 (l.n : Nat)] true false) := fun o o' => (AH.get_put_ne (by omega)).trans ((AH.get_new_ne (by omega)).trans lg)
  simp (maxSteps := 1000000) -dsimp (disch := (repeat first | rw [AH.nx_new] | rw [AH.nx_put]); first | done | omega) only [go_sem, Int.reduceEq, Int.reduceNe, Int.reduceLT, Int.reduceLE, Int.reduceAdd, Int.reduceSub, Int.reduceMul, Int.reduceNeg, Int.reduceToNat, Nat.reducePow, reduceCtorEq, Nat.reduceEqDiff, Nat.reduceAdd, Nat.reduceLT, Nat.reduceLeDiff, Nat.reduceMul, Nat.reduceSub, Nat.reduceBEq, agn, lgn]
  generalize hg3 : ((g.new (.cells [.str []] true false)).put g.nx (.cells [.str (tmpS ++ path)] true false)) = g3
  have n3 : g3.nx = g.nx + 1 := by rw [← hg3]; rfl
  rw [← n3]
  have f3 : Fr h g3 := by
    rw [← hg3]
    exact ⟨by show h.nx ≤ g.nx + 1; omega, fun j hj => (AH.get_put_ne (by omega)).trans ((AH.get_new_ne (by omega)).trans (f2.get j hj))⟩
  have agl : g3.get h.nx = some (.cells [.ptr L 0] true false) := by rw [← hg3]; exact agn _ _
  have dgl : g3.get g.nx = some (.cells [.str (tmpS ++ path)] true false) := by rw [← hg3]; exact AH.get_put_eq rfl
  have egl : g3.get (h.nx + 1) = some (.cells [bv] true false) := by rw [← hg3]; exact (AH.get_put_ne (by omega)).trans ((AH.get_new_ne (by omega)).trans eg)
  have lgl : Lo g3 L p path l := by rw [← hg3]; exact lgn _ _
  have H3 : As K p g3 h.nx g.nx (h.nx + 1) L path (tmpS ++ path) l bv b :=
    ⟨agl, dgl, egl, lgl, ⟨by omega, hT.top _ (Nat.le_refl _)⟩, ⟨by omega, hT.top _ (by omega)⟩, ⟨by omega, hT.top _ (by omega)⟩, ⟨by have := f3.nx; omega, kl.2⟩, hbz.gr (frGr f3 K), ⟨by omega, hT.kp⟩⟩
  have H4 : ∀ o, As K p (g3.new o) h.nx g.nx (h.nx + 1) L path (tmpS ++ path) l bv b := fun o => H3.gr (frGr (Fr.new g3 o) K) hT.kp
  have oq := okP_tmp hp
  have op := okP_chk hp
  refine callK_of (stepsC hS (K := K) (p := p) (nb := n) (cb := c) (cl := [.func (.func 44) [] [.ptr h.nx 0, .ptr g.nx 0], .func (.func 45) [] [.ptr h.nx 0, .ptr g.nx 0], .func (.func 47) [] [.ptr h.nx 0, .ptr g.nx 0, .ptr (h.nx + 1) 0], .func (.func 49) [] [.ptr h.nx 0, .ptr g.nx 0], .func (.func 50) [] [.ptr h.nx 0, .ptr g.nx 0], .func (.func 52) [.ptr p 0] []]) (fs := remT (tmpS ++ path) :: tailT path (tmpS ++ path) b) (AH.get_new_eq rfl) (Nat.lt_succ_self _) (hT.top _ (by omega)) rfl (by simp [tailT]) (tail_bm path (tmpS ++ path) b) ?_ (T := T) ⟨K, nm, sm, chv, ρ, (hT.fr f3).fr (Fr.new _ _), Gr.refl _ _⟩ hb) ?_
  · intro i f v hf hv
    have sm : ∀ {T : TT}, Bm (n + 6) (c + 6) T → Sm T := fun hh => Bm.sm hh (by omega) (by omega)
    match i, hf, hv with
    | 0, hf, hv => cases hf; cases hv; exact ⟨_, _, _, rfl, bd44, fun h T hr hb => step1C hS (H4 _) oq hr (sm hb)⟩
    | 1, hf, hv => cases hf; cases hv; exact ⟨_, _, _, rfl, bd45, fun h T hr hb => step2C hS (H4 _) oq hr (sm hb)⟩
    | 2, hf, hv => cases hf; cases hv; exact ⟨_, _, _, rfl, bd47, fun h T hr hb => step3C hS (H4 _) oq hby hbl hr (sm hb)⟩
    | 3, hf, hv => cases hf; cases hv; exact ⟨_, _, _, rfl, bd49, fun h T hr hb => step4C hS (H4 _) oq hr⟩
    | 4, hf, hv => cases hf; cases hv; exact ⟨_, _, _, rfl, bd50, fun h T hr hb => step5C hS (H4 _) oq op hr (sm hb)⟩
    | 5, hf, hv => cases hf; cases hv; exact ⟨_, _, _, rfl, bd52, fun h T hr hb => step6C hS hr (sm hb)⟩
    | i + 6, hf, hv => simp [tailT] at hf
  rintro r h5 ⟨rfl, K5, nm5, sm5, ch5, ρ5, hT5, gr5⟩
  have H5 := (H4 _).gr gr5 hT5.kp
  have l5 := H5.ql
  unfold Lo at l5
  have a5 := H5.qa
  have e5 := H5.qe
  have gx : Gr K h K5 h5 := (frGr (f3.trans (Fr.new _ _)) K).trans gr5
  have eA : stepsT (remT (tmpS ++ path) :: tailT path (tmpS ++ path) b) T = asideT path (tmpS ++ path) b T := rfl
  rw [eA] at hT5 ⊢
  by_cases ce : (((asideT path (tmpS ++ path) b T).1 : Nat) : Int) = 0
  · have ce' : (asideT path (tmpS ++ path) b T).1 = 0 := by omega
    simp (maxSteps := 1000000) -dsimp (disch := (repeat first | rw [AH.nx_new] | rw [AH.nx_put]); first | done | omega) only [go_sem, Int.reduceEq, Int.reduceNe, Int.reduceLT, Int.reduceLE, Int.reduceAdd, Int.reduceSub, Int.reduceMul, Int.reduceNeg, Int.reduceToNat, Nat.reducePow, reduceCtorEq, Nat.reduceEqDiff, Nat.reduceAdd, Nat.reduceLT, Nat.reduceLeDiff, Nat.reduceMul, Nat.reduceSub, Nat.reduceBEq, ce]
    refine syDraw.keep (fun id => id = h.nx ∨ id = h.nx + 1) (by kernel_rfl) (by kernel_rfl) ?_
    have lp : ∀ (h9 : AH) o, (h9.put L o).get L = some o := fun h9 o => AH.get_put_eq rfl
    have hne : h.nx ≠ L := by omega
    simp (maxSteps := 1000000) -dsimp (disch := (repeat first | rw [AH.nx_new] | rw [AH.nx_put]); first | done | omega) only [go_sem, Int.reduceEq, Int.reduceNe, Int.reduceLT, Int.reduceLE, Int.reduceAdd, Int.reduceSub, Int.reduceMul, Int.reduceNeg, Int.reduceToNat, Nat.reducePow, reduceCtorEq, Nat.reduceEqDiff, Nat.reduceAdd, Nat.reduceLT, Nat.reduceLeDiff, Nat.reduceMul, Nat.reduceSub, Nat.reduceBEq, a5, e5, l5, lb, ob, hsl, osv, lp, hne, sv_ptr, sb, true_and, or_true, true_or, implies_true, sv_int]
    rw [if_pos ce']
    have kp2 : ∀ id, (id = h.nx ∨ id = h.nx + 1) → id ≠ L := fun id hid => by omega
    refine ⟨fun id hid => AH.get_put_ne (kp2 id hid), fun id hid => AH.get_put_ne (kp2 id hid), ⟨K5, nm5, sm5, ch5, ρ5, hT5.mono (fun j hj => ?_) ?_, ⟨?_, fun j hj hk => ⟨fun hne => ?_, ?_⟩⟩⟩, ?_⟩
    · have hjL : j ≠ L := fun hh => hj (hh ▸ H5.kl.2)
      exact (AH.get_put_ne hjL).trans (AH.get_put_ne hjL)
    · show h5.nx ≤ h5.nx + _
      omega
    · have := gx.nx
      show h.nx ≤ h5.nx + _
      omega
    · exact (AH.get_put_ne hne).trans ((AH.get_put_ne hne).trans (gx.get j hj hk).1)
    · exact (gx.get j hj hk).2
    · exact AH.get_put_eq rfl
  · simp (maxSteps := 1000000) -dsimp (disch := (repeat first | rw [AH.nx_new] | rw [AH.nx_put]); first | done | omega) only [go_sem, Int.reduceEq, Int.reduceNe, Int.reduceLT, Int.reduceLE, Int.reduceAdd, Int.reduceSub, Int.reduceMul, Int.reduceNeg, Int.reduceToNat, Nat.reducePow, reduceCtorEq, Nat.reduceEqDiff, Nat.reduceAdd, Nat.reduceLT, Nat.reduceLeDiff, Nat.reduceMul, Nat.reduceSub, Nat.reduceBEq, ce]
    rw [if_neg (by omega)]
    exact ⟨trivial, ⟨K5, nm5, sm5, ch5, ρ5, hT5, gx.x L⟩, H5.ql⟩
end
end Go.Proofs.YtdpipffikgmgdaaGreatDoor.tre
