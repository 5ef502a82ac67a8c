/- Pairs sorted in place: runs merged. Conditions: those of its summaries. -/
import Derived.Test.YtmphlckolampoaaGreatDoorRBd
namespace Go.Proofs.YtmphlckolampoaaGreatDoor.tbl
open Go Go.Abs Go.Abs.Rec Go.Abs.Stb Go.Proofs
set_option maxRecDepth 100000
set_option linter.unusedVariables false
set_option linter.unusedSimpArgs false
section
variable {S : Sums}
set_option maxHeartbeats 16000000 in
/-- A run is merged with one behind it. -/
theorem symB (hS : Ts S) {h : AH} {id : Nat} {v : AV} {A L B : PL} {y : Pr} (hm : Mt id v h (A ++ L ++ [y] ++ B)) (hb : (A ++ L ++ [y] ++ B).length ≤ 1000000) (hsl : srt ltK L) (hL : 1 < L.length) {a m b : Nat} (ha : a = A.length) (hm' : m = A.length + L.length) (hb' : b = A.length + L.length + 1) :
  RnC Tryz.prog S 136 [v, .int .i64 (a : Nat), .int .i64 (m : Nat), .int .i64 (b : Nat), fK] h fun r h' => Mr id v h h' (A ++ mg ltK L [y] ++ B) := by
 refine RnC.enter' Tryz.f136 _ 220 [] (hS.ns _ _ _ (by simp)) bd136 Tryz.func136 rfl rfl rfl ?_
 subst ha hm' hb'
 have hlen : (A ++ L ++ [y] ++ B).length = A.length + L.length + 1 + B.length := by simp; omega
 have ov : oneA v = true := by obtain ⟨⟨c, hv, _⟩, _⟩ := hm; rw [hv]; rfl
 have hf : oneA fK = true := rfl
 have hTc := hS.tc
 have e0 : ((A.length + L.length : Nat) : Int) - ((A.length : Nat) : Int) = ((L.length : Nat) : Int) := by omega
 have c0 : ¬ ((L.length : Nat) : Int) = 1 := by omega
 have e00 : ((A.length + L.length + 1 : Nat) : Int) - ((A.length + L.length : Nat) : Int) = 1 := by omega
 simp (maxSteps := 1000000) -dsimp (disch := (repeat first | rw [nxn] | rw [nxp]); try omega) only [go_sem, ov, e0, c0, e00]
 refine loopK_of (RnL.rounds (Q := fun ex u => ex = .exit 4 ∧ u.d = [] ∧ u.t.get 0 = some v ∧ u.t.get 2 = some (.int .i64 ((A.length + L.length : Nat) : Int)) ∧ Mr id v h u.h (A ++ L ++ [y] ++ B) ∧ ∃ i : Nat, i ≤ L.length ∧ u.t.get 14 = some (.int .i64 ((A.length + i : Nat) : Int)) ∧ (∀ u ∈ L.take i, ltK y u = false) ∧ (∀ u ∈ L.drop i, ltK y u = true))
  (fun k u => u.d = [] ∧ u.t.get 0 = some v ∧ u.t.get 2 = some (.int .i64 ((A.length + L.length : Nat) : Int)) ∧ u.t.get 4 = some fK ∧ Mr id v h u.h (A ++ L ++ [y] ++ B) ∧ ∃ i j : Nat, i ≤ j ∧ j ≤ L.length ∧ u.t.get 14 = some (.int .i64 ((A.length + i : Nat) : Int)) ∧ u.t.get 15 = some (.int .i64 ((A.length + j : Nat) : Int)) ∧ (∀ u ∈ L.take i, ltK y u = false) ∧ (∀ u ∈ L.drop j, ltK y u = true) ∧ k = j - i) ?_ L.length ?_) ?_
 ·rintro k ⟨tt, g, d⟩ ⟨e2, g0, g2, g4, hmr, i, j, hij, hj, g14, g15, h1, h2, rfl⟩
  dsimp only at e2 g0 g2 g4 g14 g15 hmr
  subst e2
  by_cases c1 : i < j
  ·have c2 : ((A.length + i : Nat) : Int) < ((A.length + j : Nat) : Int) := by omega
   have e1 : ((A.length + i : Nat) : Int) + ((A.length + j : Nat) : Int) = ((A.length + i + (A.length + j) : Nat) : Int) := by omega
   obtain ⟨q, hq⟩ : ∃ q, q = (i + j) / 2 := ⟨_, rfl⟩
   have e3 : (A.length + i + (A.length + j)) / 2 = A.length + q := by omega
   have hqr : q < L.length := by omega
   obtain ⟨w, hw⟩ : ∃ w, L[q]? = some w := ⟨_, List.getElem?_eq_getElem hqr⟩
   have hle : A.length + i + (A.length + j) ≤ 4000000 := by omega
   have hle2 : A.length + q ≤ 4000000 := by omega
   have cv1 := fun h => cvU h _ hle
   have cv2 := fun h => cvI h _ hle2
   have sh := shU (A.length + i + (A.length + j))
   rw [e3] at sh
   have hmr2 := hmr
   obtain ⟨a1, b1, q1⟩ := atR (l := A ++ L ++ [y] ++ B) (A := A) (R := L) (B := [y] ++ B) (p := A.length + q) (by simp) hw rfl
   obtain ⟨a2, b2, q2⟩ := at2 (l := A ++ L ++ [y] ++ B) (X := A ++ L) (Z := B) (u := y) (p := A.length + L.length) (by simp) (by simp)
   generalize hlq : A ++ L ++ [y] ++ B = l at hmr a1 b1 q1 a2 b2 q2 hlen
   obtain ⟨nx1, ot1, ⟨⟨c', hv', hc'⟩, hg1, hlt1⟩⟩ := hmr
   have hv2 := hv'
   rw [hv'] at g0
   simp (maxSteps := 1000000) -dsimp (disch := (repeat first | rw [nxn] | rw [nxp]); try omega) only [go_sem, c2, g0, g2, g4, g14, g15, e1, cv1, sh, cv2]
   refine syDraw.keepN 0 (fun _ => True) (by kernel_rfl) (by kernel_rfl) rfl ?_
   simp (maxSteps := 1000000) -dsimp (disch := (repeat first | rw [nxn] | rw [nxp]); try omega) only [go_sem, g0, g2, g4, g14, g15, q1, q2, hg1, a1, a2, b1, b2, hf, fK]
   refine callK_of (keyC hTc _ y w) ?_
   rintro z g5 ⟨rfl, f5⟩
   have hmr5 := (hmr2.more (n := g.nx + 12) (by omega)).fr f5
   cases hlx : lessA y.1 w.1
   ·have c6 : ¬ cmpI y.1 w.1 < 0 := by rw [cmpI_neg, hlx]; decide
    have e7 : ((A.length + q : Nat) : Int) + 1 = ((A.length + (q + 1) : Nat) : Int) := by omega
    simp (maxSteps := 1000000) -dsimp (disch := (repeat first | rw [nxn] | rw [nxp]); try omega) only [go_sem, c6, e7, g0, g2, g4, g14, g15]
    exact ⟨j - (q + 1), by omega, trivial, hv2.symm, trivial, trivial, hmr5.eqL hlq, q + 1, j, by omega, by omega, rfl, rfl, below_y hsl hw hlx, h2, rfl⟩
   ·have c6 : cmpI y.1 w.1 < 0 := by rw [cmpI_neg, hlx]
    simp (maxSteps := 1000000) -dsimp (disch := (repeat first | rw [nxn] | rw [nxp]); try omega) only [go_sem, c6, g0, g2, g4, g14, g15]
    exact ⟨q - i, by omega, trivial, hv2.symm, trivial, trivial, hmr5.eqL hlq, i, q, by omega, by omega, rfl, rfl, h1, over_y hsl hw hlx, rfl⟩
  ·have c2 : ¬ ((A.length + i : Nat) : Int) < ((A.length + j : Nat) : Int) := by omega
   obtain rfl : i = j := by omega
   simp (maxSteps := 1000000) -dsimp (disch := (repeat first | rw [nxn] | rw [nxp]); try omega) only [go_sem, c2, g0, g2, g4, g14, g15]
   exact ⟨trivial, trivial, trivial, trivial, hmr, i, hj, rfl, h1, h2⟩
 ·simp (maxSteps := 1000000) -dsimp (disch := (repeat first | rw [nxn] | rw [nxp]); try omega) only [go_sem]
  exact ⟨trivial, trivial, trivial, trivial, Mr.refl hm, 0, L.length, Nat.zero_le _, Nat.le_refl _, rfl, rfl, by simp, by simp, rfl⟩
 ·rintro ex ⟨tt, g, d⟩ ⟨rfl, rfl, g0, g2, hmr, i, hi, g14, h1, h2⟩
  dsimp only at g0 g2 g14 hmr
  have hmg : mg ltK L [y] = L.take i ++ y :: L.drop i := by
   have := mg_one2 (y := y) (L1 := L.take i) (L2 := L.drop i) (by rw [List.take_append_drop]; exact hsl) h1 h2
   rw [List.take_append_drop] at this
   exact this
  simp (maxSteps := 1000000) -dsimp (disch := (repeat first | rw [nxn] | rw [nxp]); try omega) only [go_sem, g0, g2, g14]
  refine loopK_of (RnL.rounds (Q := fun ex u => ex = .exit 6 ∧ u.d = [] ∧ Mr id v h u.h (A ++ mg ltK L [y] ++ B))
   (fun k u => u.d = [] ∧ u.t.get 0 = some v ∧ u.t.get 14 = some (.int .i64 ((A.length + i : Nat) : Int)) ∧ ∃ n : Nat, i ≤ n ∧ n ≤ L.length ∧ u.t.get 17 = some (.int .i64 ((A.length + n : Nat) : Int)) ∧ Mr id v h u.h (A ++ L.take n ++ y :: L.drop n ++ B) ∧ k = n - i) ?_ (L.length - i) ?_) ?_
  ·rintro k ⟨tt2, g', d2⟩ ⟨e2, g0, g14, n, hn, hnl, g17, hmr, rfl⟩
   dsimp only at e2 g0 g14 g17 hmr
   subst e2
   by_cases c1 : i < n
   ·obtain ⟨n, rfl⟩ : ∃ n', n = n' + 1 := ⟨n - 1, by omega⟩
    have c2 : ((A.length + i : Nat) : Int) < ((A.length + (n + 1) : Nat) : Int) := by omega
    obtain ⟨x, hx⟩ : ∃ x, L[n]? = some x := ⟨_, List.getElem?_eq_getElem (by omega)⟩
    have dx : L.drop n = x :: L.drop (n + 1) := by rw [List.drop_eq_getElem_cons (by omega), (List.getElem?_eq_some_iff.1 hx).2]
    have tx : L.take (n + 1) = L.take n ++ [x] := by rw [List.take_add_one, hx]; rfl
    obtain ⟨p, hp⟩ : ∃ p, p = (A ++ L.take n).length := ⟨_, rfl⟩
    have hp2 : A.length + (n + 1) = p + 1 := by rw [hp, List.length_append, List.length_take]; omega
    rw [hp2] at c2 g17
    have e5 : ((p + 1 : Nat) : Int) - 1 = ((p : Nat) : Int) := by omega
    have eL : A ++ L.take (n + 1) ++ y :: L.drop (n + 1) ++ B = (A ++ L.take n) ++ x :: y :: (L.drop (n + 1) ++ B) := by rw [tx]; simp
    have hbl : (A ++ L.take (n + 1) ++ y :: L.drop (n + 1) ++ B).length = (A ++ L ++ [y] ++ B).length := by
     rw [hlen]; simp only [List.length_append, List.length_cons, List.length_take, List.length_drop]; omega
    generalize hlq : A ++ L.take (n + 1) ++ y :: L.drop (n + 1) ++ B = l at hmr hbl eL
    obtain ⟨⟨a1, a2, b1, b2, q1, q2, hll⟩, ⟨s1, s2, b3⟩, _⟩ := nb eL hp
    have hmr2 := hmr
    obtain ⟨nx1, ot1, ⟨⟨c', hv', hc'⟩, hg1, hlt1⟩⟩ := hmr
    have hv2 := hv'
    rw [hv'] at g0
    simp (maxSteps := 1000000) -dsimp (disch := (repeat first | rw [nxn] | rw [nxp]); try omega) only [go_sem, c2, g0, g14, g17]
    refine syDraw.keepN 0 (fun _ => True) (by kernel_rfl) (by kernel_rfl) rfl ?_
    simp (maxSteps := 1000000) -dsimp (disch := (repeat first | rw [nxn] | rw [nxp]); try omega) only [go_sem, g0, g14, g17, e5, q1, q2, hg1, a1, a2, b1, b2, b3, s1, s2]
    exact ⟨n - i, by omega, trivial, hv2.symm, trivial, n, by omega, by omega, by rw [show A.length + n = p by omega], (hmr2.put2 hll (by omega)).eqL (by rw [dx]; simp), rfl⟩
   ·have c2 : ¬ ((A.length + i : Nat) : Int) < ((A.length + n : Nat) : Int) := by omega
    obtain rfl : n = i := by omega
    simp (maxSteps := 1000000) -dsimp (disch := (repeat first | rw [nxn] | rw [nxp]); try omega) only [go_sem, c2, g0, g14, g17]
    exact ⟨trivial, trivial, hmr.eqL (by rw [hmg]; simp)⟩
  ·simp (maxSteps := 1000000) -dsimp (disch := (repeat first | rw [nxn] | rw [nxp]); try omega) only [go_sem]
   exact ⟨trivial, g0, g14, L.length, hi, Nat.le_refl _, rfl, hmr.eqL (by simp), rfl⟩
  ·rintro ex ⟨tt2, g', d2⟩ ⟨rfl, rfl, hmr⟩
   dsimp only at hmr
   simp (maxSteps := 1000000) -dsimp (disch := (repeat first | rw [nxn] | rw [nxp]); try omega) only [go_sem]
   exact hmr
end
end Go.Proofs.YtmphlckolampoaaGreatDoor.tbl
