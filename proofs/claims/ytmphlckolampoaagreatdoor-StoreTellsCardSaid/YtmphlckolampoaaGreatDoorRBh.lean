/- Pairs: cloned, turned round, sorted. Conditions: those of its summaries. -/
import Derived.Test.YtmphlckolampoaaGreatDoorRBg
namespace Go.Proofs.YtmphlckolampoaaGreatDoor.tbl
open Go Go.Abs Go.Abs.Rec Go.Abs.Stb Go.Proofs
set_option maxRecDepth 100000
set_option linter.unusedVariables false
set_option linter.unusedSimpArgs false
/-- Two change places. -/
theorem nf {X Y Z : PL} {u w : Pr} {l : PL} (hl : l = X ++ u :: Y ++ w :: Z) {p q : Nat} (hp : p = X.length) (hq : q = X.length + 1 + Y.length) :
  ((l.flatMap pc).drop (p * 3)).take 3 = [.str u.1, .str u.2.1, .bool u.2.2] ∧ ((l.flatMap pc).drop (q * 3)).take 3 = [.str w.1, .str w.2.1, .bool w.2.2] ∧ p * 3 + 3 ≤ (l.flatMap pc).length ∧ q * 3 + 3 ≤ (l.flatMap pc).length ∧ p < l.length ∧ q < l.length ∧ (X ++ w :: Y ++ u :: Z).length = l.length ∧
  ((l.flatMap pc).take (p * 3) ++ [.str w.1, .str w.2.1, .bool w.2.2] ++ (l.flatMap pc).drop (p * 3 + 3) = (l.set p w).flatMap pc ∧ ((l.set p w).flatMap pc).take (q * 3) ++ [.str u.1, .str u.2.1, .bool u.2.2] ++ ((l.set p w).flatMap pc).drop (q * 3 + 3) = (X ++ w :: Y ++ u :: Z).flatMap pc ∧ q * 3 + 3 ≤ ((l.set p w).flatMap pc).length) := by
 have hlen : l.length = X.length + Y.length + Z.length + 2 := by rw [hl]; simp; omega
 have g1 : l[p]? = some u := by rw [hl, hp]; simp
 have g2 : l[q]? = some w := by
  have : q = (X ++ u :: Y).length := by rw [hq]; simp; omega
  rw [hl, this]; exact get_mid
 have s1 : (l.set p w).set q u = X ++ w :: Y ++ u :: Z := by rw [hl, hp, hq]; exact swap_mid
 refine ⟨pcAt g1, pcAt g2, pcLe (by omega), pcLe (by omega), by omega, by omega, by rw [hl]; simp, pcSet w (by omega), ?_, pcLe (by rw [List.length_set]; omega)⟩
 rw [← s1]; exact pcSet (l := l.set p w) u (by rw [List.length_set]; omega)
theorem eqNs (h : AH) (id o n z : Nat) (c : Option Nat) : binA Tryz.prog h .eql 22 (.sl id o n z c) .nilsl = some (.bool false) := by kernel_rfl
theorem eqN0 (h : AH) : binA Tryz.prog h .eql 22 .nilsl .nilsl = some (.bool true) := by kernel_rfl
section
variable {S : Sums}
set_option maxHeartbeats 8000000 in
theorem sortC (hS : Ts S) {h : AH} {id : Nat} {v : AV} {D : PL} (hm : Mt id v h D) (hb : D.length ≤ 100000) :
  RnC Tryz.prog S 65 [v, fK] h fun r h' => Mr id v h h' (isort ltK D) := by
 refine RnC.enter' Tryz.f65 _ 9 [] (hS.ns _ _ _ (by simp)) bd65 Tryz.func65 rfl rfl rfl ?_
 obtain ⟨lv, sv, ov⟩ := hm.ps.ln
 have hf : oneA fK = true := rfl
 simp (maxSteps := 1000000) -dsimp (disch := (repeat first | rw [nxn] | rw [nxp]); try omega) only [go_sem, ov, lv, hf]
 refine callK_of (stabC hS hm hb rfl) ?_
 intro w g hr
 try simp (maxSteps := 1000000) -dsimp (disch := (repeat first | rw [nxn] | rw [nxp]); try omega) only [go_sem]
 exact hr
set_option maxHeartbeats 16000000 in
theorem revC (hS : Ts S) {h : AH} {id : Nat} {v : AV} {D : PL} (hm : Mt id v h D) (hD : 0 < D.length) (hb : D.length ≤ 100000) :
  RnC Tryz.prog S 64 [v] h fun r h' => Mr id v h h' D.reverse := by
 refine RnC.enter' Tryz.f64 _ 28 [] (hS.ns _ _ _ (by simp)) bd64 Tryz.func64 rfl rfl rfl ?_
 obtain ⟨lv, sv, ov⟩ := hm.ps.ln
 have e1 : ((D.length : Nat) : Int) - 1 = ((D.length - 1 : Nat) : Int) := by omega
 simp (maxSteps := 1000000) -dsimp (disch := (repeat first | rw [nxn] | rw [nxp]); try omega) only [go_sem, ov, lv, e1]
 refine loopK_of (RnL.rounds (Q := fun ex u => ex = .exit 0 ∧ u.d = [] ∧ Mr id v h u.h D.reverse)
  (fun m u => u.d = [] ∧ u.t.get 0 = some v ∧ ∃ (i : Nat) (P M Q : PL), u.t.get 2 = some (.int .i64 (i : Nat)) ∧ u.t.get 3 = some (.int .i64 ((D.length - 1 - i : Nat) : Int)) ∧ P.length = i ∧ Q.length = i ∧ D = P ++ M ++ Q ∧ Mr id v h u.h (Q.reverse ++ M ++ P.reverse) ∧ i < D.length ∧ m = M.length) ?_ D.length ?_) ?_
 ·rintro m ⟨tt, g, d⟩ ⟨e9, g0, i, P, M, Q, g2, g3, hP, hQ, hD2, hmr, hi, rfl⟩
  dsimp only at e9 g0 g2 g3 hmr
  subst e9
  have hll : D.length = i + M.length + i := by rw [hD2]; simp only [List.length_append]; omega
  by_cases c1 : i < D.length - 1 - i
  ·have c2 : ((i : Nat) : Int) < ((D.length - 1 - i : Nat) : Int) := by omega
   obtain ⟨x, M, rfl⟩ : ∃ x M', M = x :: M' := by
    cases M with
    | nil => simp at hll; omega
    | cons x M => exact ⟨x, M, rfl⟩
   rcases List.eq_nil_or_concat M with rfl | ⟨M, y, rfl⟩
   ·simp at hll; omega
   rw [List.concat_eq_append] at *
   simp only [List.length_cons, List.length_append, List.length_nil] at hll
   have e2 : ((i : Nat) : Int) + 1 = ((i + 1 : Nat) : Int) := by omega
   have e3 : ((D.length - 1 - i : Nat) : Int) - 1 = ((D.length - 1 - (i + 1) : Nat) : Int) := by omega
   have hmr2 : Mr id v h g (Q.reverse ++ x :: M ++ y :: P.reverse) := hmr.eqL (by simp)
   obtain ⟨a1, a2, b1, b2, q1, q2, hl2, s1, s2, b3⟩ := nf (l := Q.reverse ++ x :: M ++ y :: P.reverse) (p := i) (q := D.length - 1 - i) rfl (by rw [List.length_reverse, hQ]) (by rw [List.length_reverse, hQ]; omega)
   generalize hlq : Q.reverse ++ x :: M ++ y :: P.reverse = l at hmr2 a1 a2 b1 b2 q1 q2 hl2 s1 s2 b3
   clear hmr
   have hmr3 := hmr2
   obtain ⟨nx1, ot1, ⟨⟨c', hv', hc'⟩, hg1, hlt1⟩⟩ := hmr2
   have hv2 := hv'
   rw [hv'] at g0
   simp (maxSteps := 1000000) -dsimp (disch := (repeat first | rw [nxn] | rw [nxp]); try omega) only [go_sem, c2, g0, g2, g3]
   refine syDraw.keepN 0 (fun _ => True) (by kernel_rfl) (by kernel_rfl) rfl ?_
   simp (maxSteps := 1000000) -dsimp (disch := (repeat first | rw [nxn] | rw [nxp]); try omega) only [go_sem, g0, g2, g3, q1, q2, hg1, a1, a2, b1, b2, b3, s1, s2, e2, e3]
   exact ⟨M.length, by simp only [List.length_cons, List.length_append, List.length_nil]; omega, trivial, hv2.symm, i + 1, P ++ [x], M, y :: Q, rfl, rfl, by simp [hP], by simp [hQ], by rw [hD2]; simp, (hmr3.put2 hl2 (by omega)).eqL (by simp), by omega, rfl⟩
  ·have c2 : ¬ ((i : Nat) : Int) < ((D.length - 1 - i : Nat) : Int) := by omega
   simp (maxSteps := 1000000) -dsimp (disch := (repeat first | rw [nxn] | rw [nxp]); try omega) only [go_sem, c2, g0, g2, g3]
   refine ⟨trivial, trivial, hmr.eqL ?_⟩
   rw [hD2]
   have : M.reverse = M := by
    match M, (show M.length ≤ 1 by omega) with
    | [], _ => rfl
    | [x], _ => rfl
   simp [this]
 ·simp (maxSteps := 1000000) -dsimp (disch := (repeat first | rw [nxn] | rw [nxp]); try omega) only [go_sem]
  exact ⟨trivial, trivial, 0, [], D, [], rfl, rfl, rfl, rfl, by simp, (Mr.refl hm).eqL (by simp), hD, rfl⟩
 ·rintro ex ⟨tt, g, d⟩ ⟨rfl, rfl, hmr⟩
  dsimp only at hmr
  simp (maxSteps := 1000000) -dsimp (disch := (repeat first | rw [nxn] | rw [nxp]); try omega) only [go_sem]
  exact hmr
set_option maxHeartbeats 8000000 in
/-- Of nothing, nothing. -/
theorem cloneC (hS : Ts S) {h : AH} {v : AV} {l : PL} (hv : Ps h v l) (hl : l.length ≤ 100000) :
  RnC Tryz.prog S 63 [v] h fun r h' => Fr h h' ∧ Ez 3 h.nx h' r (l.flatMap pc) := by
 refine RnC.enter' Tryz.f63 _ 8 [.tmp 2] (hS.ns _ _ _ (by simp)) bd63 Tryz.func63 rfl rfl rfl ?_
 obtain ⟨v', h', ha, hf', hz', ov'⟩ := appP (h0 := h) (h := h.new (.cells [] true true)) (m := l) (ez0 h) (hv.fr (Fr.new h _)) (Fr.new h _) (by simp; omega)
 have ov := hv.ln.2.2
 have sh : v' = .nilsl ∨ ∃ id n c, v' = .sl id 0 n 3 c := by
  rcases hz' with ⟨h1, _⟩ | ⟨id', n', c', tx', h1, _⟩
  ·exact .inl h1
  ·exact .inr ⟨id', n', c', h1⟩
 rcases hv with ⟨rfl, rfl⟩ | ⟨id, off, c, cs, o, tx, rfl, h2, h3, h4, h5, h6⟩
 ·simp (maxSteps := 1000000) -dsimp (disch := (repeat first | rw [nxn] | rw [nxp]); try omega) only [go_sem, b0e, eqN0]
  exact ⟨Fr.refl _, .inl ⟨rfl, rfl⟩⟩
 ·rcases sh with rfl | ⟨i5, n5, c5, rfl⟩
  all_goals
   simp (maxSteps := 1000000) -dsimp (disch := (repeat first | rw [nxn] | rw [nxp]); try omega) only [go_sem, eqNs, ov, ha]
   exact ⟨hf', hz'⟩
end
end Go.Proofs.YtmphlckolampoaaGreatDoor.tbl
