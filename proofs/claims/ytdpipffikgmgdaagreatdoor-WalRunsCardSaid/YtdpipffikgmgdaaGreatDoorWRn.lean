/- The law WalRuns, walked. Conditions: those of its summaries. -/
import Derived.Test.YtdpipffikgmgdaaGreatDoorWLg
import Derived.Test.YtdpipffikgmgdaaGreatDoorWLo
import Derived.Test.YtdpipffikgmgdaaGreatDoorWPa
import Derived.Test.YtdpipffikgmgdaaGreatDoorWLx
namespace Go.Proofs.YtdpipffikgmgdaaGreatDoor.tre
open Go Go.Abs Go.Abs.Wal Go.Proofs
set_option maxRecDepth 100000
set_option linter.unusedVariables false
set_option linter.unusedSimpArgs false

def plog : Pth := [108, 111, 103]
theorem logB : bytesOf { data := #[108, 111, 103] } = plog := by decide +kernel
theorem logOk : checkS plog = 0 := by decide +kernel
theorem logNe : ¬ plog = tmpS ++ plog := by decide +kernel
/-- Where a law over a log stands. -/
def At5 (h0 : AH) (p L : Nat) (path : Pth) (l : Lg) (T : TT) (h : AH) : Prop :=
  ∃ K nm sm chv ρ, Tr K p nm sm chv ρ h T ∧ Lo h L p path l ∧ L < h.nx ∧ K L = 0 ∧ h0.nx ≤ L ∧ Fr h0 h ∧ ∀ j, j < h0.nx → K j = 0
theorem At5.next {h0 h h' : AH} {p L : Nat} {path : Pth} {l' : Lg} {K nm sm chv ρ} {T T' : TT} (hT : Tr K p nm sm chv ρ h T) (kl : L < h.nx ∧ K L = 0) (hl : h0.nx ≤ L) (hf : Fr h0 h) (hk : ∀ j, j < h0.nx → K j = 0) (hr : ResX L K p h h' T') (hL : Lo h' L p path l') : At5 h0 p L path l' T' h' := by
  obtain ⟨K2, nm2, sm2, ch2, ρ2, hT2, g⟩ := hr
  obtain ⟨f2, k2⟩ := g.fr hf hl hk
  exact ⟨K2, nm2, sm2, ch2, ρ2, hT2, hL, Nat.lt_of_lt_of_le kl.1 g.nx, (g.get L kl.1 kl.2).2, hl, f2, k2⟩
theorem At5.fr {h0 h h' : AH} {p L : Nat} {path : Pth} {l : Lg} {T : TT} (hA : At5 h0 p L path l T h) (f : Fr h h') : At5 h0 p L path l T h' := by
  obtain ⟨K, nm, sm, chv, ρ, hT, hL, kl, k0, hl, hf, hk⟩ := hA
  exact ⟨K, nm, sm, chv, ρ, hT.fr f, hL.gr (frGr f K) kl k0, Nat.lt_of_lt_of_le kl f.nx, k0, hl, hf.trans f, hk⟩
section
variable {S : Sums}
theorem At5.append (hS : Wl S) {h0 h : AH} {p L : Nat} {path : Pth} {l : Lg} {T : TT} (hA : At5 h0 p L path l T h) {n c : Nat} (hb : Bm n c T) (hn : n ≤ 16000) (hc : c < 1152921504606000000) (hp : checkS path = 0) {s : List Nat} (hs : s.length ≤ 1048576) (hby : ∀ b ∈ s, b < 256) (hz : l.size ≤ 1099511627776) (hz2 : l.n ≤ 1099511627776) {e : Nat} {l' : Lg} {T' : TT} (ee : appendL path l T s = (e, l', T')) :
    RnC Tryz.prog S 9 [.ptr L 0, .str s] h fun r h' => r = .int .i64 (e : Nat) ∧ At5 h0 p L path l' T' h' := by
  obtain ⟨K, nm, sm, chv, ρ, hT, hL, kl, k0, hl, hf, hk⟩ := hA
  refine (lappendC hS hT hb hn hc hL ⟨kl, k0⟩ hp hs hby hz hz2).mono ?_
  rw [ee]
  rintro r h' ⟨rfl, hr, hL'⟩
  exact ⟨rfl, At5.next hT ⟨kl, k0⟩ hl hf hk hr hL'⟩
theorem At5.sync (hS : Wl S) {h0 h : AH} {p L : Nat} {path : Pth} {l : Lg} {T : TT} (hA : At5 h0 p L path l T h) (hp : checkS path = 0) {e : Nat} {l' : Lg} {T' : TT} (ee : syncL path l T = (e, l', T')) :
    RnC Tryz.prog S 10 [.ptr L 0] h fun r h' => r = .int .i64 (e : Nat) ∧ At5 h0 p L path l' T' h' := by
  obtain ⟨K, nm, sm, chv, ρ, hT, hL, kl, k0, hl, hf, hk⟩ := hA
  refine (lsyncC hS hT hL ⟨kl, k0⟩ hp).mono ?_
  rw [ee]
  rintro r h' ⟨rfl, hr, hL'⟩
  exact ⟨rfl, At5.next hT ⟨kl, k0⟩ hl hf hk hr hL'⟩
theorem coZ {K : Nat → Nat} {n0 : Nat} {h : AH} {v : AV} {l : List AV} (hv : Co n0 h v l) (hk : ∀ j, n0 ≤ j → K j = 0) : ∀ id off n z c, v = .sl id off n z c → K id = 0 := fun id off n z c hh => by
  obtain ⟨id', c', cs, tx, h1, h2, h3, h4, h5⟩ := hv
  rw [h1] at hh
  cases hh
  exact hk _ h4
theorem At5.aside (hS : Wl S) {h0 h h1 : AH} {p L : Nat} {path : Pth} {l : Lg} {T : TT} (hA : At5 h0 p L path l T h) (f : Fr h h1) {n c : Nat} (hb : Bm n c T) (hn : n ≤ 16000) (hc : c < 1152921504606000000) (hp : checkS path = 0) {v : AV} {s : List (List Nat)} (hv : Co h.nx h1 v (s.map AV.str)) (hs : ∀ x ∈ s, x.length ≤ 1048576 ∧ ∀ b ∈ x, b < 256) (hl : (frs s).length ≤ 67108864) {e : Nat} {l' : Lg} {T' : TT} (ee : asideL path (tmpS ++ path) l T s = (e, l', T')) :
    RnC Tryz.prog S 12 [.ptr L 0, v] h1 fun r h' => r = .int .i64 (e : Nat) ∧ At5 h0 p L path l' T' h' := by
  obtain ⟨K, nm, sm, chv, ρ, hT, hL, kl, k0, hlo, hf, hk⟩ := hA
  have hT1 := hT.fr f
  have kl1 : L < h1.nx := Nat.lt_of_lt_of_le kl f.nx
  refine (lasidePC hS hT1 hb hn hc (hL.gr (frGr f K) kl k0) ⟨kl1, k0⟩ hp (v := v) (s := s) ⟨hv.cs, coZ hv hT.top⟩ hs hl).mono ?_
  rw [ee]
  rintro r h' ⟨rfl, hr, hL'⟩
  exact ⟨rfl, At5.next hT1 ⟨kl1, k0⟩ hlo (hf.trans f) hk hr hL'⟩
/-- A tree and what lay before it. -/
def At4 (h0 : AH) (p : Nat) (T : TT) (h : AH) : Prop := ∃ K nm sm chv ρ, Tr K p nm sm chv ρ h T ∧ Fr h0 h ∧ ∀ j, j < h0.nx → K j = 0
theorem At5.at4 {h0 h : AH} {p L : Nat} {path : Pth} {l : Lg} {T : TT} (hA : At5 h0 p L path l T h) : At4 h0 p T h := by
  obtain ⟨K, nm, sm, chv, ρ, hT, hL, kl, k0, hl, hf, hk⟩ := hA
  exact ⟨K, nm, sm, chv, ρ, hT, hf, hk⟩
theorem At4.fr {h0 h h' : AH} {p : Nat} {T : TT} (hA : At4 h0 p T h) (f : Fr h h') : At4 h0 p T h' := by
  obtain ⟨K, nm, sm, chv, ρ, hT, hf, hk⟩ := hA
  exact ⟨K, nm, sm, chv, ρ, hT.fr f, hf.trans f, hk⟩
/-- A log opened: it is there. -/
theorem At4.open (hS : Wl S) {h0 h : AH} {p : Nat} {T : TT} (hA : At4 h0 p T h) {n c : Nat} (hb : Bm n c T) (hn : n ≤ 15000) (hc : c < 1152921504605000000) {path : Pth} (hp : checkS path = 0) (hsz : ∀ i, valS T.now path = some i → (T.fil i).b.length ≤ 1048576) {l : Lg} {s : List (List Nat)} {T' : TT} (ee : openT path (tmpS ++ path) T = (some (l, s), 0, T')) :
    RnC Tryz.prog S 8 [.ptr p 0, .str path] h fun r h' => ∃ L sv, r = .tup [.ptr L 0, sv, .int .i64 0] ∧ At5 h0 p L path l T' h' ∧ Go.Abs.Cs h' sv (s.map AV.str) := by
  obtain ⟨K, nm, sm, chv, ρ, hT, hf, hk⟩ := hA
  refine (openC hS hT hb hn hc hp hsz).mono ?_
  rw [ee]
  rintro r h' ⟨K', nm', sm', chv', ρ', hT', g, ⟨hx, _⟩ | ⟨l2, s2, L, sv, e1, e2, rfl, hL, kl, hnl, k0, hx, hid⟩⟩
  · cases hx
  · cases e1
    obtain ⟨f2, k2⟩ := g.fr hf hk
    exact ⟨L, sv, rfl, ⟨K', nm', sm', chv', ρ', hT', hL, kl, k0, Nat.le_trans hf.nx hnl, f2, k2⟩, hx.1⟩
/-- Another log opened: the first one's object stays. -/
theorem At5.reopen (hS : Wl S) {h0 h : AH} {p L : Nat} {path : Pth} {l0 : Lg} {T : TT} (hA : At5 h0 p L path l0 T h) {n c : Nat} (hb : Bm n c T) (hn : n ≤ 15000) (hc : c < 1152921504605000000) (hp : checkS path = 0) (hsz : ∀ i, valS T.now path = some i → (T.fil i).b.length ≤ 1048576) {l : Lg} {s : List (List Nat)} {T' : TT} (ee : openT path (tmpS ++ path) T = (some (l, s), 0, T')) :
    RnC Tryz.prog S 8 [.ptr p 0, .str path] h fun r h' => ∃ L2 sv, r = .tup [.ptr L2 0, sv, .int .i64 0] ∧ At5 h0 p L path l0 T' h' ∧ Go.Abs.Cs h' sv (s.map AV.str) := by
  obtain ⟨K, nm, sm, chv, ρ, hT, hL0, kl0, k00, hn0, hf, hk⟩ := hA
  refine (openC hS hT hb hn hc hp hsz).mono ?_
  rw [ee]
  rintro r h' ⟨K', nm', sm', chv', ρ', hT', g, ⟨hx, _⟩ | ⟨l2, s2, L2, sv, e1, e2, rfl, hL, kl, hnl, k0, hx, hid⟩⟩
  · cases hx
  · cases e1
    obtain ⟨f2, k2⟩ := g.fr hf hk
    exact ⟨L2, sv, rfl, ⟨K', nm', sm', chv', ρ', hT', hL0.gr g kl0 k00, Nat.lt_of_lt_of_le kl0 g.nx, (g.get _ kl0 k00).2, hn0, f2, k2⟩, hx.1⟩
/-- Texts copied behind one's own. -/
theorem ownApp {g h : AH} {v x : AV} {l m : List Pth} (hb : Co g.nx h v (l.map AV.str)) (hx : Go.Abs.Cs h x (m.map AV.str)) (hf : Fr g h) (hl : l.length + m.length ≤ 1000000) : ∃ v' h', evAppend Tryz.prog h #[22, 22] v x = some (.val v' h') ∧ Fr g h' ∧ Co g.nx h' v' ((l ++ m).map AV.str) ∧ oneA v' = true := by
  have h1 := hx.first
  obtain ⟨v', h', e, f, c, o⟩ := Co.app (P := Tryz.prog) (h0 := g) (h := h) (v := v) (x := x) (l := l.map AV.str) (m := m.map AV.str) Tryz.underlying22 Tryz.underlying22 rfl ai9 (by decide) hb h1.1 h1.2 (by rw [List.all_eq_true]; intro y hy; obtain ⟨z, _, rfl⟩ := List.mem_map.1 hy; rfl) hf (by simp; omega)
  exact ⟨v', h', e, f, by rw [List.map_append]; exact c, o⟩
theorem own0 (g : AH) : Co g.nx (g.new (.cells [] true true)) (.sl g.nx 0 0 1 (some 0)) (([] : List Pth).map AV.str) := ⟨g.nx, some 0, [], true, rfl, AH.get_new_eq rfl, Nat.lt_succ_self _, Nat.le_refl _, rfl, Nat.le_refl _, .inr rfl⟩
theorem At5.old {h0 h : AH} {p L : Nat} {path : Pth} {l : Lg} {T : TT} (hA : At5 h0 p L path l T h) : Fr h0 h := by
  obtain ⟨K, nm, sm, chv, ρ, hT, hL, kl, k0, hlo, hf, hk⟩ := hA
  exact hf
theorem At5.lo {h0 h : AH} {p L : Nat} {path : Pth} {l : Lg} {T : TT} (hA : At5 h0 p L path l T h) : Lo h L p path l := by
  obtain ⟨K, nm, sm, chv, ρ, hT, hL, kl, k0, hlo, hf, hk⟩ := hA
  exact hL
set_option maxHeartbeats 32000000 in
theorem runs4 (hS : Pw S) (hN : ∀ args h, S 4 args h = none) (hL : ∀ h, S 5 [] h = some (.bool true, h)) {h : AH} {va vb : AV} {a b : List Pth} (ha : Go.Abs.Cs h va (a.map AV.str)) (hb : Go.Abs.Cs h vb (b.map AV.str)) (hba : ∀ s ∈ a, ∀ x ∈ s, x < 256) (hbb : ∀ s ∈ b, ∀ x ∈ s, x < 256) :
    RnC Tryz.prog S 4 [va, vb] h fun r _ => r = .bool true := by
  refine RnC.enter' Tryz.f4 _ 158 [.tmp 4] (hN _ _) bd4 Tryz.func4 rfl rfl rfl ?_
  have oa := ha.one.1
  have ob := hb.one.1
  have la : ∀ g, evLen Tryz.prog g #[22] va = some (.int .i64 (a.length : Nat)) := fun g => by have := ha.len Tryz.underlying22 g; rwa [List.length_map] at this
  have lb : ∀ g, evLen Tryz.prog g #[22] vb = some (.int .i64 (b.length : Nat)) := fun g => by have := hb.len Tryz.underlying22 g; rwa [List.length_map] at this
  simp (maxSteps := 1000000) -dsimp (disch := (repeat first | rw [AH.nx_new] | rw [AH.nx_put]); first | done | omega) only [go_sem, Int.reduceEq, Int.reduceNe, Int.reduceLT, Int.reduceLE, Int.reduceAdd, Int.reduceSub, Int.reduceMul, Int.reduceNeg, Int.reduceToNat, Nat.reducePow, reduceCtorEq, Nat.reduceEqDiff, Nat.reduceAdd, Nat.reduceLT, Nat.reduceLeDiff, Nat.reduceMul, Nat.reduceSub, Nat.reduceBEq]
  refine callK_of (RnC.sum (hL _) (Q := fun v h' => v = .bool true ∧ h' = h) ⟨rfl, rfl⟩) ?_
  rintro r g ⟨rfl, rfl⟩
  simp (maxSteps := 1000000) -dsimp (disch := (repeat first | rw [AH.nx_new] | rw [AH.nx_put]); first | done | omega) only [go_sem, Int.reduceEq, Int.reduceNe, Int.reduceLT, Int.reduceLE, Int.reduceAdd, Int.reduceSub, Int.reduceMul, Int.reduceNeg, Int.reduceToNat, Nat.reducePow, reduceCtorEq, Nat.reduceEqDiff, Nat.reduceAdd, Nat.reduceLT, Nat.reduceLeDiff, Nat.reduceMul, Nat.reduceSub, Nat.reduceBEq, oa, ob]
  refine callK_of (lightC hS.toWl (n := 30) (m := 300) ha (by decide) (by decide)) ?_
  rintro r g1 ⟨⟨b1, rfl, hl1⟩, f1⟩
  cases b1
  · simp (maxSteps := 1000000) -dsimp (disch := (repeat first | rw [AH.nx_new] | rw [AH.nx_put]); first | done | omega) only [go_sem, Int.reduceEq, Int.reduceNe, Int.reduceLT, Int.reduceLE, Int.reduceAdd, Int.reduceSub, Int.reduceMul, Int.reduceNeg, Int.reduceToNat, Nat.reducePow, reduceCtorEq, Nat.reduceEqDiff, Nat.reduceAdd, Nat.reduceLT, Nat.reduceLeDiff, Nat.reduceMul, Nat.reduceSub, Nat.reduceBEq, oa, ob]
  simp (maxSteps := 1000000) -dsimp (disch := (repeat first | rw [AH.nx_new] | rw [AH.nx_put]); first | done | omega) only [go_sem, Int.reduceEq, Int.reduceNe, Int.reduceLT, Int.reduceLE, Int.reduceAdd, Int.reduceSub, Int.reduceMul, Int.reduceNeg, Int.reduceToNat, Nat.reducePow, reduceCtorEq, Nat.reduceEqDiff, Nat.reduceAdd, Nat.reduceLT, Nat.reduceLeDiff, Nat.reduceMul, Nat.reduceSub, Nat.reduceBEq, oa, ob]
  refine callK_of (lightC hS.toWl (n := 30) (m := 300) (hb.fr f1) (by decide) (by decide)) ?_
  rintro r g2 ⟨⟨b2, rfl, hl2⟩, f2⟩
  cases b2
  · simp (maxSteps := 1000000) -dsimp (disch := (repeat first | rw [AH.nx_new] | rw [AH.nx_put]); first | done | omega) only [go_sem, Int.reduceEq, Int.reduceNe, Int.reduceLT, Int.reduceLE, Int.reduceAdd, Int.reduceSub, Int.reduceMul, Int.reduceNeg, Int.reduceToNat, Nat.reducePow, reduceCtorEq, Nat.reduceEqDiff, Nat.reduceAdd, Nat.reduceLT, Nat.reduceLeDiff, Nat.reduceMul, Nat.reduceSub, Nat.reduceBEq, oa, ob]
  obtain ⟨na, sa⟩ := hl1 rfl
  obtain ⟨nb, sb⟩ := hl2 rfl
  have fa := frs_sum a
  have fb := frs_sum b
  have ma : ∀ s ∈ a, s.length ≤ 1048576 := fun s hs => by have := sumL_mem hs; omega
  have mb : ∀ s ∈ b, s.length ≤ 1048576 := fun s hs => by have := sumL_mem hs; omega
  simp (maxSteps := 1000000) -dsimp (disch := (repeat first | rw [AH.nx_new] | rw [AH.nx_put]); first | done | omega) only [go_sem, Int.reduceEq, Int.reduceNe, Int.reduceLT, Int.reduceLE, Int.reduceAdd, Int.reduceSub, Int.reduceMul, Int.reduceNeg, Int.reduceToNat, Nat.reducePow, reduceCtorEq, Nat.reduceEqDiff, Nat.reduceAdd, Nat.reduceLT, Nat.reduceLeDiff, Nat.reduceMul, Nat.reduceSub, Nat.reduceBEq, oa, ob]
  refine callK_of (newC hS.toSt (1048576 : Int)) ?_
  rintro r g3 ⟨f3, hr⟩
  rw [if_pos (by omega)] at hr
  obtain ⟨rfl, n3, hT3⟩ := hr
  have hA3 : At4 g (g2.nx + 2) (newT 1048576) g3 := ⟨_, _, _, _, _, hT3, (f1.trans f2).trans f3, fun j hj => by
    have hj2 : j < g2.nx := Nat.lt_of_lt_of_le hj (f1.trans f2).nx
    exact (if_neg (by omega)).trans ((if_neg (by omega)).trans (if_neg (by omega)))⟩
  clear hT3
  generalize g2.nx + 2 = p at hA3
  simp (maxSteps := 1000000) -dsimp (disch := (repeat first | rw [AH.nx_new] | rw [AH.nx_put]); first | done | omega) only [go_sem, Int.reduceEq, Int.reduceNe, Int.reduceLT, Int.reduceLE, Int.reduceAdd, Int.reduceSub, Int.reduceMul, Int.reduceNeg, Int.reduceToNat, Nat.reducePow, reduceCtorEq, Nat.reduceEqDiff, Nat.reduceAdd, Nat.reduceLT, Nat.reduceLeDiff, Nat.reduceMul, Nat.reduceSub, Nat.reduceBEq, oa, ob, logB]
  refine callK_of (At4.open hS.toWl hA3 (Bm.new _) (by decide) (by decide) logOk (fun i hi => by simp [newT, valS] at hi) (wt_new logNe (by decide))) ?_
  rintro r g4 ⟨L, sv4, rfl, hA4, hc4⟩
  have l4 : ∀ g, evLen Tryz.prog g #[22] sv4 = some (.int .i64 ((0 : Nat) : Int)) := fun g => hc4.len Tryz.underlying22 g
  have o4 := hc4.one.1
  simp (maxSteps := 1000000) -dsimp (disch := (repeat first | rw [AH.nx_new] | rw [AH.nx_put]); first | done | omega) only [go_sem, Int.reduceEq, Int.reduceNe, Int.reduceLT, Int.reduceLE, Int.reduceAdd, Int.reduceSub, Int.reduceMul, Int.reduceNeg, Int.reduceToNat, Nat.reducePow, reduceCtorEq, Nat.reduceEqDiff, Nat.reduceAdd, Nat.reduceLT, Nat.reduceLeDiff, Nat.reduceMul, Nat.reduceSub, Nat.reduceBEq, oa, ob, l4, o4]
  refine loopK_of (RnL.rounds (Q := fun ex u => ex = .exit 0 ∧ u.d = [] ∧ u.t.get 0 = some va ∧ u.t.get 1 = some vb ∧ u.t.get 5 = some (.ptr p 0) ∧ u.t.get 7 = some (.ptr L 0) ∧ ∃ c st, c ≤ 3 + a.length ∧ At5 g p L plog ⟨0, (frs (a.take a.length)).length, a.length⟩ (Wt 1048576 plog c false (-1) (frs (a.take a.length)) [] st) u.h)
    (fun m u => u.d = [] ∧ u.t.get 0 = some va ∧ u.t.get 1 = some vb ∧ u.t.get 5 = some (.ptr p 0) ∧ u.t.get 7 = some (.ptr L 0) ∧ ∃ i : Nat, u.t.get 9 = some (.int .i64 (i : Nat)) ∧ i ≤ a.length ∧ m = a.length - i ∧ ∃ c st, c ≤ 3 + i ∧ At5 g p L plog ⟨0, (frs (a.take i)).length, i⟩ (Wt 1048576 plog c false (-1) (frs (a.take i)) [] st) u.h) ?_ a.length ?_) ?_
  · rintro m ⟨t, gx, d⟩ ⟨e2, v0, v1, v5, v7, i, v9, hi, rfl, c, st, hc, hA⟩
    dsimp only at e2 v0 v1 v5 v7 v9 hA
    subst e2
    by_cases c1 : (i : Int) < (a.length : Nat)
    · have hil : i < a.length := by omega
      obtain ⟨s, hsi⟩ : ∃ s, a[i]? = some s := ⟨_, List.getElem?_eq_getElem hil⟩
      have hsm : s ∈ a := List.mem_iff_getElem?.2 ⟨i, hsi⟩
      obtain ⟨idx, ofx, cx, csx, ox', tx, rfl, hgx, hix, hcx⟩ := Tx.get (K := fun _ => 0) ⟨ha.fr hA.old, fun _ _ _ _ _ _ => rfl⟩ hsi
      have hle := frs_take_le' (l := a) i
      simp (maxSteps := 1000000) -dsimp (disch := (repeat first | rw [AH.nx_new] | rw [AH.nx_put]); first | done | omega) only [go_sem, Int.reduceEq, Int.reduceNe, Int.reduceLT, Int.reduceLE, Int.reduceAdd, Int.reduceSub, Int.reduceMul, Int.reduceNeg, Int.reduceToNat, Nat.reducePow, reduceCtorEq, Nat.reduceEqDiff, Nat.reduceAdd, Nat.reduceLT, Nat.reduceLeDiff, Nat.reduceMul, Nat.reduceSub, Nat.reduceBEq, c1, v0, v1, v5, v7, v9, la, hil, hgx, hcx, Nat.mul_one]
      refine callK_of (hA.append hS.toWl wt_bm (by decide) (by omega) logOk (ma s hsm) (hba s hsm) (by dsimp only; omega) (by dsimp only; omega) (by have := wt_app (R := 1048576) (p := plog) (c := c) (st := st) (x := []) (z0 := 0) (n0 := 0) (pre := []) hsi (by simp; omega); simpa only [Nat.zero_add, List.nil_append] using this)) ?_
      rintro r gy ⟨rfl, hA2⟩
      simp (maxSteps := 1000000) -dsimp (disch := (repeat first | rw [AH.nx_new] | rw [AH.nx_put]); first | done | omega) only [go_sem, Int.reduceEq, Int.reduceNe, Int.reduceLT, Int.reduceLE, Int.reduceAdd, Int.reduceSub, Int.reduceMul, Int.reduceNeg, Int.reduceToNat, Nat.reducePow, reduceCtorEq, Nat.reduceEqDiff, Nat.reduceAdd, Nat.reduceLT, Nat.reduceLeDiff, Nat.reduceMul, Nat.reduceSub, Nat.reduceBEq, c1, v0, v1, v5, v7, v9]
      refine callK_of (lcountC hS.toWl hA2.lo) ?_
      rintro r gz ⟨rfl, rfl⟩
      have ec2 : ((i + 1 : Nat) : Int) = (i : Int) + 1 := by omega
      simp (maxSteps := 1000000) -dsimp (disch := (repeat first | rw [AH.nx_new] | rw [AH.nx_put]); first | done | omega) only [go_sem, Int.reduceEq, Int.reduceNe, Int.reduceLT, Int.reduceLE, Int.reduceAdd, Int.reduceSub, Int.reduceMul, Int.reduceNeg, Int.reduceToNat, Nat.reducePow, reduceCtorEq, Nat.reduceEqDiff, Nat.reduceAdd, Nat.reduceLT, Nat.reduceLeDiff, Nat.reduceMul, Nat.reduceSub, Nat.reduceBEq, c1, v0, v1, v5, v7, v9, ec2]
      exact ⟨a.length - (i + 1), by omega, trivial, trivial, trivial, trivial, trivial, i + 1, rfl, by omega, rfl, c + 1, c + 1, by omega, hA2⟩
    · obtain rfl : i = a.length := by omega
      simp (maxSteps := 1000000) -dsimp (disch := (repeat first | rw [AH.nx_new] | rw [AH.nx_put]); first | done | omega) only [go_sem, Int.reduceEq, Int.reduceNe, Int.reduceLT, Int.reduceLE, Int.reduceAdd, Int.reduceSub, Int.reduceMul, Int.reduceNeg, Int.reduceToNat, Nat.reducePow, reduceCtorEq, Nat.reduceEqDiff, Nat.reduceAdd, Nat.reduceLT, Nat.reduceLeDiff, Nat.reduceMul, Nat.reduceSub, Nat.reduceBEq, c1, v0, v1, v5, v7, v9, la]
      exact ⟨trivial, trivial, trivial, trivial, trivial, trivial, c, st, hc, hA⟩
  · simp (maxSteps := 1000000) -dsimp (disch := (repeat first | rw [AH.nx_new] | rw [AH.nx_put]); first | done | omega) only [go_sem, Int.reduceEq, Int.reduceNe, Int.reduceLT, Int.reduceLE, Int.reduceAdd, Int.reduceSub, Int.reduceMul, Int.reduceNeg, Int.reduceToNat, Nat.reducePow, reduceCtorEq, Nat.reduceEqDiff, Nat.reduceAdd, Nat.reduceLT, Nat.reduceLeDiff, Nat.reduceMul, Nat.reduceSub, Nat.reduceBEq]
    exact ⟨trivial, trivial, trivial, trivial, trivial, 0, rfl, Nat.zero_le _, rfl, 3, 2, by omega, hA4⟩
  · rintro ex ⟨t, gx, d⟩ ⟨rfl, rfl, v0, v1, v5, v7, c, st, hc, hA⟩
    dsimp only at v0 v1 v5 v7 hA
    rw [List.take_length] at hA
    simp (maxSteps := 1000000) -dsimp (disch := (repeat first | rw [AH.nx_new] | rw [AH.nx_put]); first | done | omega) only [go_sem, Int.reduceEq, Int.reduceNe, Int.reduceLT, Int.reduceLE, Int.reduceAdd, Int.reduceSub, Int.reduceMul, Int.reduceNeg, Int.reduceToNat, Nat.reducePow, reduceCtorEq, Nat.reduceEqDiff, Nat.reduceAdd, Nat.reduceLT, Nat.reduceLeDiff, Nat.reduceMul, Nat.reduceSub, Nat.reduceBEq, v0, v1, v5, v7]
    refine callK_of (hA.sync hS.toWl logOk (wt_sync _ rfl (by decide))) ?_
    rintro r g5 ⟨rfl, hA5⟩
    simp (maxSteps := 1000000) -dsimp (disch := (repeat first | rw [AH.nx_new] | rw [AH.nx_put]); first | done | omega) only [go_sem, Int.reduceEq, Int.reduceNe, Int.reduceLT, Int.reduceLE, Int.reduceAdd, Int.reduceSub, Int.reduceMul, Int.reduceNeg, Int.reduceToNat, Nat.reducePow, reduceCtorEq, Nat.reduceEqDiff, Nat.reduceAdd, Nat.reduceLT, Nat.reduceLeDiff, Nat.reduceMul, Nat.reduceSub, Nat.reduceBEq, v0, v1, v5, v7]
    refine callK_of (lsizeC hS.toWl hA5.lo) ?_
    rintro r g6 ⟨rfl, rfl⟩
    simp (maxSteps := 1000000) -dsimp (disch := (repeat first | rw [AH.nx_new] | rw [AH.nx_put]); first | done | omega) only [go_sem, Int.reduceEq, Int.reduceNe, Int.reduceLT, Int.reduceLE, Int.reduceAdd, Int.reduceSub, Int.reduceMul, Int.reduceNeg, Int.reduceToNat, Nat.reducePow, reduceCtorEq, Nat.reduceEqDiff, Nat.reduceAdd, Nat.reduceLT, Nat.reduceLeDiff, Nat.reduceMul, Nat.reduceSub, Nat.reduceBEq, v0, v1, v5, v7, logB]
    refine callK_of (At4.open hS.toWl hA5.at4 wt_bm (by decide) (by omega) logOk (fun i hi => by
      simp [Wt, valS] at hi
      subst hi
      show (frs a).length ≤ _
      omega) (wt_open logNe ma)) ?_
    rintro r g7 ⟨L2, sv7, rfl, hA7, hc7⟩
    have o7 := hc7.one.1
    simp (maxSteps := 1000000) -dsimp (disch := (repeat first | rw [AH.nx_new] | rw [AH.nx_put]); first | done | omega) only [go_sem, Int.reduceEq, Int.reduceNe, Int.reduceLT, Int.reduceLE, Int.reduceAdd, Int.reduceSub, Int.reduceMul, Int.reduceNeg, Int.reduceToNat, Nat.reducePow, reduceCtorEq, Nat.reduceEqDiff, Nat.reduceAdd, Nat.reduceLT, Nat.reduceLeDiff, Nat.reduceMul, Nat.reduceSub, Nat.reduceBEq, v0, v1, v5, v7, o7, oa]
    refine callK_of (textsG hS.toWl hc7 (ha.fr hA7.old) (by omega)) ?_
    rintro r g8 ⟨rfl, f8⟩
    have hA8 := hA7.fr f8
    simp (maxSteps := 1000000) -dsimp (disch := (repeat first | rw [AH.nx_new] | rw [AH.nx_put]); first | done | omega) only [go_sem, Int.reduceEq, Int.reduceNe, Int.reduceLT, Int.reduceLE, Int.reduceAdd, Int.reduceSub, Int.reduceMul, Int.reduceNeg, Int.reduceToNat, Nat.reducePow, reduceCtorEq, Nat.reduceEqDiff, Nat.reduceAdd, Nat.reduceLT, Nat.reduceLeDiff, Nat.reduceMul, Nat.reduceSub, Nat.reduceBEq, v0, v1, v5, v7, o7, oa, decide_true]
    refine callK_of (lsizeC hS.toWl hA8.lo) ?_
    rintro r g9 ⟨rfl, rfl⟩
    simp (maxSteps := 1000000) -dsimp (disch := (repeat first | rw [AH.nx_new] | rw [AH.nx_put]); first | done | omega) only [go_sem, Int.reduceEq, Int.reduceNe, Int.reduceLT, Int.reduceLE, Int.reduceAdd, Int.reduceSub, Int.reduceMul, Int.reduceNeg, Int.reduceToNat, Nat.reducePow, reduceCtorEq, Nat.reduceEqDiff, Nat.reduceAdd, Nat.reduceLT, Nat.reduceLeDiff, Nat.reduceMul, Nat.reduceSub, Nat.reduceBEq, v0, v1, v5, v7, o7, oa]
    refine callK_of (lcountC hS.toWl hA8.lo) ?_
    rintro r g10 ⟨rfl, rfl⟩
    simp (maxSteps := 1000000) -dsimp (disch := (repeat first | rw [AH.nx_new] | rw [AH.nx_put]); first | done | omega) only [go_sem, Int.reduceEq, Int.reduceNe, Int.reduceLT, Int.reduceLE, Int.reduceAdd, Int.reduceSub, Int.reduceMul, Int.reduceNeg, Int.reduceToNat, Nat.reducePow, reduceCtorEq, Nat.reduceEqDiff, Nat.reduceAdd, Nat.reduceLT, Nat.reduceLeDiff, Nat.reduceMul, Nat.reduceSub, Nat.reduceBEq, v0, v1, v5, v7, o7, oa, la]
    refine loopK_of (RnL.rounds (Q := fun ex u => ex = .exit 2 ∧ u.d = [] ∧ u.t.get 0 = some va ∧ u.t.get 1 = some vb ∧ u.t.get 5 = some (.ptr p 0) ∧ u.t.get 7 = some (.ptr L2 0) ∧ ∃ c2 st2, c2 ≤ c + b.length ∧ At5 g p L2 plog ⟨0, (frs a).length + (frs (b.take b.length)).length, a.length + b.length⟩ (Wt 1048576 plog c2 false (-1) (frs a ++ frs (b.take b.length)) (frs a) st2) u.h)
      (fun m u => u.d = [] ∧ u.t.get 0 = some va ∧ u.t.get 1 = some vb ∧ u.t.get 5 = some (.ptr p 0) ∧ u.t.get 7 = some (.ptr L2 0) ∧ ∃ i : Nat, u.t.get 11 = some (.int .i64 (i : Nat)) ∧ i ≤ b.length ∧ m = b.length - i ∧ ∃ c2 st2, c2 ≤ c + i ∧ At5 g p L2 plog ⟨0, (frs a).length + (frs (b.take i)).length, a.length + i⟩ (Wt 1048576 plog c2 false (-1) (frs a ++ frs (b.take i)) (frs a) st2) u.h) ?_ b.length ?_) ?_
    · rintro m ⟨t, gx, d⟩ ⟨e2, v0, v1, v5, v7, i, v9, hi, rfl, c2, st2, hc2, hA⟩
      dsimp only at e2 v0 v1 v5 v7 v9 hA
      subst e2
      by_cases c1 : (i : Int) < (b.length : Nat)
      · have hil : i < b.length := by omega
        obtain ⟨s, hsi⟩ : ∃ s, b[i]? = some s := ⟨_, List.getElem?_eq_getElem hil⟩
        have hsm : s ∈ b := List.mem_iff_getElem?.2 ⟨i, hsi⟩
        obtain ⟨idx, ofx, cx, csx, ox', tx, rfl, hgx, hix, hcx⟩ := Tx.get (K := fun _ => 0) ⟨hb.fr hA.old, fun _ _ _ _ _ _ => rfl⟩ hsi
        have hle := frs_take_le' (l := b) i
        simp (maxSteps := 1000000) -dsimp (disch := (repeat first | rw [AH.nx_new] | rw [AH.nx_put]); first | done | omega) only [go_sem, Int.reduceEq, Int.reduceNe, Int.reduceLT, Int.reduceLE, Int.reduceAdd, Int.reduceSub, Int.reduceMul, Int.reduceNeg, Int.reduceToNat, Nat.reducePow, reduceCtorEq, Nat.reduceEqDiff, Nat.reduceAdd, Nat.reduceLT, Nat.reduceLeDiff, Nat.reduceMul, Nat.reduceSub, Nat.reduceBEq, c1, v0, v1, v5, v7, v9, lb, hil, hgx, hcx, Nat.mul_one]
        refine callK_of (hA.append hS.toWl wt_bm (by decide) (by omega) logOk (mb s hsm) (hbb s hsm) (by dsimp only; omega) (by dsimp only; omega) (wt_app (z0 := (frs a).length) (n0 := a.length) (pre := frs a) hsi (by omega))) ?_
        rintro r gy ⟨rfl, hA2⟩
        simp (maxSteps := 1000000) -dsimp (disch := (repeat first | rw [AH.nx_new] | rw [AH.nx_put]); first | done | omega) only [go_sem, Int.reduceEq, Int.reduceNe, Int.reduceLT, Int.reduceLE, Int.reduceAdd, Int.reduceSub, Int.reduceMul, Int.reduceNeg, Int.reduceToNat, Nat.reducePow, reduceCtorEq, Nat.reduceEqDiff, Nat.reduceAdd, Nat.reduceLT, Nat.reduceLeDiff, Nat.reduceMul, Nat.reduceSub, Nat.reduceBEq, c1, v0, v1, v5, v7, v9]
        exact ⟨b.length - (i + 1), by omega, trivial, trivial, trivial, trivial, trivial, i + 1, rfl, by omega, rfl, c2 + 1, c2 + 1, by omega, hA2⟩
      · obtain rfl : i = b.length := by omega
        simp (maxSteps := 1000000) -dsimp (disch := (repeat first | rw [AH.nx_new] | rw [AH.nx_put]); first | done | omega) only [go_sem, Int.reduceEq, Int.reduceNe, Int.reduceLT, Int.reduceLE, Int.reduceAdd, Int.reduceSub, Int.reduceMul, Int.reduceNeg, Int.reduceToNat, Nat.reducePow, reduceCtorEq, Nat.reduceEqDiff, Nat.reduceAdd, Nat.reduceLT, Nat.reduceLeDiff, Nat.reduceMul, Nat.reduceSub, Nat.reduceBEq, c1, v0, v1, v5, v7, v9, lb]
        exact ⟨trivial, trivial, trivial, trivial, trivial, trivial, c2, st2, hc2, hA⟩
    · simp (maxSteps := 1000000) -dsimp (disch := (repeat first | rw [AH.nx_new] | rw [AH.nx_put]); first | done | omega) only [go_sem, Int.reduceEq, Int.reduceNe, Int.reduceLT, Int.reduceLE, Int.reduceAdd, Int.reduceSub, Int.reduceMul, Int.reduceNeg, Int.reduceToNat, Nat.reducePow, reduceCtorEq, Nat.reduceEqDiff, Nat.reduceAdd, Nat.reduceLT, Nat.reduceLeDiff, Nat.reduceMul, Nat.reduceSub, Nat.reduceBEq, v0, v1, v5, v7, o7]
      exact ⟨trivial, trivial, trivial, trivial, trivial, 0, rfl, Nat.zero_le _, rfl, c, st, by omega, by
        have e0 : frs a ++ frs (b.take 0) = frs a := by simp [frs]
        rw [e0]
        exact hA8⟩
    · rintro ex ⟨t, gx, d⟩ ⟨rfl, rfl, v0, v1, v5, v7, c2, st2, hc2, hA⟩
      dsimp only at v0 v1 v5 v7 hA
      rw [List.take_length, ← frs_app] at hA
      have mab : ∀ s ∈ a ++ b, s.length ≤ 1048576 := fun s hs => (List.mem_append.1 hs).elim (ma s) (mb s)
      have fab : (frs (a ++ b)).length = (frs a).length + (frs b).length := by rw [frs_app, List.length_append]
      simp (maxSteps := 1000000) -dsimp (disch := (repeat first | rw [AH.nx_new] | rw [AH.nx_put]); first | done | omega) only [go_sem, Int.reduceEq, Int.reduceNe, Int.reduceLT, Int.reduceLE, Int.reduceAdd, Int.reduceSub, Int.reduceMul, Int.reduceNeg, Int.reduceToNat, Nat.reducePow, reduceCtorEq, Nat.reduceEqDiff, Nat.reduceAdd, Nat.reduceLT, Nat.reduceLeDiff, Nat.reduceMul, Nat.reduceSub, Nat.reduceBEq, v0, v1, v5, v7, logB]
      refine callK_of (hA.reopen hS.toWl wt_bm (by decide) (by omega) logOk (fun i hi => by
        simp [Wt, valS] at hi
        subst hi
        show (frs (a ++ b)).length ≤ _
        omega) (wt_open logNe mab)) ?_
      rintro r h1 ⟨L3, sv8, rfl, hB1, hc8⟩
      have o8 := hc8.one.1
      have ia := ha.fr hB1.old
      obtain ⟨w1, h2, x1, y1, z1, q1⟩ := ownApp (own0 h1) (ia.fr (Fr.new h1 (.cells [] true true))) (Fr.new _ _) (by simp; omega)
      obtain ⟨w2, h3, x2, y2, z2, q2⟩ := ownApp z1 ((hb.fr hB1.old).fr y1) y1 (by simp; omega)
      simp (maxSteps := 1000000) -dsimp (disch := (repeat first | rw [AH.nx_new] | rw [AH.nx_put]); first | done | omega) only [go_sem, Int.reduceEq, Int.reduceNe, Int.reduceLT, Int.reduceLE, Int.reduceAdd, Int.reduceSub, Int.reduceMul, Int.reduceNeg, Int.reduceToNat, Nat.reducePow, reduceCtorEq, Nat.reduceEqDiff, Nat.reduceAdd, Nat.reduceLT, Nat.reduceLeDiff, Nat.reduceMul, Nat.reduceSub, Nat.reduceBEq, v0, v1, v5, v7, o8, oa, ob, x1, q1, x2, q2]
      rw [List.nil_append] at z2
      refine callK_of (textsG hS.toWl (hc8.fr y2) z2.cs (by simp; omega)) ?_
      rintro r h4 ⟨rfl, f4⟩
      have hB4 := hB1.fr (y2.trans f4)
      obtain ⟨w3, h5, x3, y3, z3, q3⟩ := ownApp (own0 h4) ((hb.fr hB4.old).fr (Fr.new h4 (.cells [] true true))) (Fr.new _ _) (by simp; omega)
      simp (maxSteps := 1000000) -dsimp (disch := (repeat first | rw [AH.nx_new] | rw [AH.nx_put]); first | done | omega) only [go_sem, Int.reduceEq, Int.reduceNe, Int.reduceLT, Int.reduceLE, Int.reduceAdd, Int.reduceSub, Int.reduceMul, Int.reduceNeg, Int.reduceToNat, Nat.reducePow, reduceCtorEq, Nat.reduceEqDiff, Nat.reduceAdd, Nat.reduceLT, Nat.reduceLeDiff, Nat.reduceMul, Nat.reduceSub, Nat.reduceBEq, v0, v1, v5, v7, o8, ob, decide_true, x3, q3]
      rw [List.nil_append] at z3
      refine callK_of (hB4.aside hS.toWl y3 wt_bm (by decide) (by omega) logOk z3 (fun x hx => ⟨mb x hx, hbb x hx⟩) (by omega) (wt_aside _ rfl logNe (by omega))) ?_
      rintro r h6 ⟨rfl, hB6⟩
      simp (maxSteps := 1000000) -dsimp (disch := (repeat first | rw [AH.nx_new] | rw [AH.nx_put]); first | done | omega) only [go_sem, Int.reduceEq, Int.reduceNe, Int.reduceLT, Int.reduceLE, Int.reduceAdd, Int.reduceSub, Int.reduceMul, Int.reduceNeg, Int.reduceToNat, Nat.reducePow, reduceCtorEq, Nat.reduceEqDiff, Nat.reduceAdd, Nat.reduceLT, Nat.reduceLeDiff, Nat.reduceMul, Nat.reduceSub, Nat.reduceBEq, v0, v1, v5, v7, o8, ob]
      refine callK_of (lcountC hS.toWl hB6.lo) ?_
      rintro r h7 ⟨rfl, rfl⟩
      simp (maxSteps := 1000000) -dsimp (disch := (repeat first | rw [AH.nx_new] | rw [AH.nx_put]); first | done | omega) only [go_sem, Int.reduceEq, Int.reduceNe, Int.reduceLT, Int.reduceLE, Int.reduceAdd, Int.reduceSub, Int.reduceMul, Int.reduceNeg, Int.reduceToNat, Nat.reducePow, reduceCtorEq, Nat.reduceEqDiff, Nat.reduceAdd, Nat.reduceLT, Nat.reduceLeDiff, Nat.reduceMul, Nat.reduceSub, Nat.reduceBEq, v0, v1, v5, v7, o8, ob, lb, logB]
      refine callK_of (At4.open hS.toWl hB6.at4 wu_bm (by decide) (by omega) logOk (fun i hi => by
        simp [Wu, valS] at hi
        subst hi
        show (frs b).length ≤ _
        omega) (wu_open logNe mb)) ?_
      rintro r h8 ⟨L4, sv9, rfl, hB8, hc9⟩
      have o9 := hc9.one.1
      simp (maxSteps := 1000000) -dsimp (disch := (repeat first | rw [AH.nx_new] | rw [AH.nx_put]); first | done | omega) only [go_sem, Int.reduceEq, Int.reduceNe, Int.reduceLT, Int.reduceLE, Int.reduceAdd, Int.reduceSub, Int.reduceMul, Int.reduceNeg, Int.reduceToNat, Nat.reducePow, reduceCtorEq, Nat.reduceEqDiff, Nat.reduceAdd, Nat.reduceLT, Nat.reduceLeDiff, Nat.reduceMul, Nat.reduceSub, Nat.reduceBEq, v0, v1, v5, v7, o9, ob]
      refine callK_of (textsG hS.toWl hc9 (hb.fr hB8.old) (by omega)) ?_
      rintro r h9 ⟨rfl, f9⟩
      have hB9 := hB8.fr f9
      simp (maxSteps := 1000000) -dsimp (disch := (repeat first | rw [AH.nx_new] | rw [AH.nx_put]); first | done | omega) only [go_sem, Int.reduceEq, Int.reduceNe, Int.reduceLT, Int.reduceLE, Int.reduceAdd, Int.reduceSub, Int.reduceMul, Int.reduceNeg, Int.reduceToNat, Nat.reducePow, reduceCtorEq, Nat.reduceEqDiff, Nat.reduceAdd, Nat.reduceLT, Nat.reduceLeDiff, Nat.reduceMul, Nat.reduceSub, Nat.reduceBEq, v0, v1, v5, v7, o9, ob, decide_true, logB]
      obtain ⟨K9, nm9, sm9, ch9, ρ9, hT9, hL9, kl9, k09, hlo9, hf9, hk9⟩ := hB9
      refine callK_of (pathsC hS hT9 (by simp [Wu])) ?_
      rintro r h10 ⟨hs10, f10⟩
      have o10 := hs10.cs.one.1
      trace_state
      try simp (maxSteps := 1000000) -dsimp (disch := (repeat first | rw [AH.nx_new] | rw [AH.nx_put]); first | done | omega) only [go_sem, Int.reduceEq, Int.reduceNe, Int.reduceLT, Int.reduceLE, Int.reduceAdd, Int.reduceSub, Int.reduceMul, Int.reduceNeg, Int.reduceToNat, Nat.reducePow, reduceCtorEq, Nat.reduceEqDiff, Nat.reduceAdd, Nat.reduceLT, Nat.reduceLeDiff, Nat.reduceMul, Nat.reduceSub, Nat.reduceBEq, o10, logB]
      refine callK_of (textsG hS.toWl (l := [plog]) (m := [plog]) (hs10.cs.fr (Fr.new _ _)) (.inr ⟨h10.nx, 0, _, _, _, _, rfl, AH.get_new_eq rfl, Nat.lt_succ_self _, by simp, fun k hk => (by cases hk; simp), rfl⟩) (by simp)) ?_
      rintro r h11 ⟨rfl, f11⟩
      trace_state
      first | rfl | done | simp
end
end Go.Proofs.YtdpipffikgmgdaaGreatDoor.tre
