/- The program's log, opened. Conditions: those of its summaries. -/
import Derived.Test.YtdpipffikgmgdaaGreatDoorWLf
namespace Go.Proofs.YtdpipffikgmgdaaGreatDoor.tre
open Go Go.Abs Go.Abs.Wal Go.Proofs
set_option maxRecDepth 100000
set_option linter.unusedVariables false
set_option linter.unusedSimpArgs false

theorem Bz.slice_to {K : Nat → Nat} {P : Program} {h : AH} {v : AV} {l : List Nat} {t e : TypeId} {hi : Nat} (hz : Bz K h v l) (ht : P.underlying t = some (.slice e)) (he : tsize P e = some 1) (hhi : hi ≤ l.length) :
    ∃ v', (∀ h1, evSlice P h1 t v none (some (.int .i64 (hi : Nat))) none = some v') ∧ Bz K h v' (l.take hi) ∧ sameAV 20 v' v' = true ∧ oneA v' = true := by
  obtain ⟨hb, hk⟩ := hz
  rcases hb with ⟨rfl, rfl⟩ | ⟨id, off, c, cs, o, tx, rfl, h2, h3, h4, h5, h6⟩
  · obtain rfl : hi = 0 := by simpa using hhi
    refine ⟨.nilsl, fun h1 => ?_, ⟨.inl ⟨rfl, rfl⟩, fun _ _ _ _ _ hh => by cases hh⟩, rfl, rfl⟩
    simp [evSlice, ht, he, boundsA, boundA, upTo]
  · refine ⟨.sl id (off + 0 * 1) (hi - 0) 1 (c.map (· - 0)), fun h1 => ?_, ⟨.inr ⟨id, off + 0 * 1, c.map (· - 0), cs, o, tx, ?_, h2, h3, ?_, ?_, ?_⟩, fun _ _ _ _ _ hh => by cases hh; exact hk _ _ _ _ _ rfl⟩, ?_, rfl⟩
    · have hu : upTo ((hi : Nat) : Int) (c.getD l.length) = some hi := by
        rw [upTo_of (by omega) (by cases c with
          | none => simp; omega
          | some c => simp; have := h5 c rfl; omega)]
        simp
      simp [evSlice, ht, he, boundsA, boundA, hu]
    · simp; omega
    · simp; omega
    · intro k hk
      cases c with
      | none => simp at hk
      | some c => simp at hk; have := h5 c rfl; simp; omega
    · have h7 : (byC l).take hi = byC (l.take hi) := byC_take l hi
      rw [← h7, ← h6, List.take_take]
      simp
    · simp [sameAV]
section
variable {S : Sums}
/-- What opening a log leaves. -/
def OpenQ (K : Nat → Nat) (p : Nat) (h : AH) (path : Pth) (O : Option (Lg × List (List Nat)) × Nat × TT) (r : AV) (h' : AH) : Prop :=
  ∃ K' nm sm chv ρ, Tr K' p nm sm chv ρ h' O.2.2 ∧ Gr K h K' h' ∧ ((O.1 = none ∧ O.2.1 ≠ 0 ∧ r = .tup [.nilptr, .nilsl, .int .i64 (O.2.1 : Nat)]) ∨
    ∃ l s L sv, O.1 = some (l, s) ∧ O.2.1 = 0 ∧ r = .tup [.ptr L 0, sv, .int .i64 0] ∧ Lo h' L p path l ∧ L < h'.nx ∧ h.nx ≤ L ∧ K' L = 0 ∧ Tx K' h' sv s ∧ ∀ id off n z c, sv = .sl id off n z c → id ≠ L ∧ h.nx ≤ id)
theorem read_byt {T : TT} (w : Wf T) (b : Bool) (s : Pth) : ∀ x ∈ (readT T b s).1, x < 256 := by
  unfold readT
  dsimp only
  split
  · exact fun x hx => by simp at hx
  · split
    · exact fun x hx => by simp at hx
    · exact (fil_ok (w.op _) _).1
theorem fil_op (T : TT) (b : Bool) (i : Nat) : (opT T b).2.fil i = T.fil i := by
  unfold TT.fil
  rw [(opT_eq T b).2.2.2.2.2]
theorem read_len {T : TT} {b : Bool} {s : Pth} {m : Nat} (h : ∀ i, valS T.now s = some i → (T.fil i).b.length ≤ m) : (readT T b s).1.length ≤ m := by
  unfold readT
  dsimp only
  split
  · exact Nat.zero_le _
  · split
    · exact Nat.zero_le _
    · rename_i i hi
      rw [(opT_eq T b).2.1] at hi
      rw [fil_op]
      exact h i hi
/-- How opening ends. -/
def openEnd (q : Pth) (n : Nat) (s : List (List Nat)) (r : Nat × TT) : Option (Lg × List (List Nat)) × Nat × TT :=
  if r.1 ≠ 0 then (none, r) else if (remT q r.2).1 ≠ 0 then (none, remT q r.2) else (some (⟨0, n, s.length⟩, s), remT q r.2)
theorem csOther {h h' : AH} {v : AV} {l : List AV} {L : Nat} (hb : Go.Abs.Cs h v l) (hn : h.nx ≤ h'.nx) (hg : ∀ j, j < h.nx → j ≠ L → h'.get j = h.get j) (hv : ∀ id off n z c, v = .sl id off n z c → id ≠ L) : Go.Abs.Cs h' v l := by
  rcases hb with h1 | ⟨id, off, c, cs, o, t, h1, h2, h3, h4⟩
  · exact .inl h1
  · exact .inr ⟨id, off, c, cs, o, t, h1, (hg id h3 (hv _ _ _ _ _ h1)).trans h2, Nat.lt_of_lt_of_le h3 hn, h4⟩
theorem bsOther {h h' : AH} {v : AV} {l : List Nat} {L : Nat} (hb : Bs h v l) (hn : h.nx ≤ h'.nx) (hg : ∀ j, j < h.nx → j ≠ L → h'.get j = h.get j) (hv : ∀ id off n z c, v = .sl id off n z c → id ≠ L) : Bs h' v l := by
  rcases hb with h1 | ⟨id, off, c, cs, o, t, h1, h2, h3, h4⟩
  · exact .inl h1
  · exact .inr ⟨id, off, c, cs, o, t, h1, (hg id h3 (hv _ _ _ _ _ h1)).trans h2, Nat.lt_of_lt_of_le h3 hn, h4⟩
set_option maxHeartbeats 16000000 in
theorem openC (hS : Wl S) {K p nm sm chv ρ h T} (hT : Tr K p nm sm chv ρ h T) {n c : Nat} (hb : Bm n c T) (hn : n ≤ 15000) (hc : c < 1152921504605000000) {path : Pth} (hp : checkS path = 0) (hsz : ∀ i, valS T.now path = some i → (T.fil i).b.length ≤ 1048576) :
    RnC Tryz.prog S 8 [.ptr p 0, .str path] h fun r h' => OpenQ K p h path (openT path (tmpS ++ path) T) r h' := by
  refine RnC.enter' Tryz.f8 _ 112 [.tmp 4, .tmp 5, .tmp 6] (hS.nw _ _ _ (by simp)) bd8 Tryz.func8 rfl rfl rfl ?_
  have okp := okP_chk hp
  have okt := okP_tmp hp
  simp (maxSteps := 1000000) -dsimp (disch := (repeat first | rw [AH.nx_new] | rw [AH.nx_put]); first | done | omega) only [go_sem, Int.reduceEq, Int.reduceNe, Int.reduceLT, Int.reduceLE, Int.reduceAdd, Int.reduceSub, Int.reduceMul, Int.reduceNeg, Int.reduceToNat, Nat.reducePow, reduceCtorEq, Nat.reduceEqDiff, Nat.reduceAdd, Nat.reduceLT, Nat.reduceLeDiff, Nat.reduceMul, Nat.reduceSub, Nat.reduceBEq]
  refine callK_of (hT.made hS.toSt) ?_
  rintro r h2 ⟨rfl, rfl⟩
  simp (maxSteps := 1000000) -dsimp (disch := (repeat first | rw [AH.nx_new] | rw [AH.nx_put]); first | done | omega) only [go_sem, Int.reduceEq, Int.reduceNe, Int.reduceLT, Int.reduceLE, Int.reduceAdd, Int.reduceSub, Int.reduceMul, Int.reduceNeg, Int.reduceToNat, Nat.reducePow, reduceCtorEq, Nat.reduceEqDiff, Nat.reduceAdd, Nat.reduceLT, Nat.reduceLeDiff, Nat.reduceMul, Nat.reduceSub, Nat.reduceBEq]
  refine callK_of (checkC hS.toSp) ?_
  rintro r h3 ⟨rfl, f3⟩
  simp (maxSteps := 1000000) -dsimp (disch := (repeat first | rw [AH.nx_new] | rw [AH.nx_put]); first | done | omega) only [go_sem, Int.reduceEq, Int.reduceNe, Int.reduceLT, Int.reduceLE, Int.reduceAdd, Int.reduceSub, Int.reduceMul, Int.reduceNeg, Int.reduceToNat, Nat.reducePow, reduceCtorEq, Nat.reduceEqDiff, Nat.reduceAdd, Nat.reduceLT, Nat.reduceLeDiff, Nat.reduceMul, Nat.reduceSub, Nat.reduceBEq, hp, bldLg]
  refine callK_of (statC hS.toSt (hT.fr (f3.news _)) path) ?_
  rintro r h5 ⟨rfl, f5⟩
  have hL5 : Lo h5 h3.nx p path ⟨0, 0, 0⟩ := (f5.get _ (Nat.lt_succ_self _)).trans (AH.get_new_eq rfl)
  have nL5 : h3.nx < h5.nx := Nat.lt_of_lt_of_le (Nat.lt_succ_self _) f5.nx
  have f25 : Fr h2 h5 := (f3.news _).trans f5
  have n23 := f3.nx
  clear f5
  generalize h3.nx = L at hL5 nL5 n23 ⊢
  clear f3
  have hT5 := hT.fr f25
  have k5 : L < h5.nx ∧ K L = 0 := ⟨nL5, hT.top _ n23⟩
  cases hs : (statT T path).2.2
  · simp (maxSteps := 1000000) -dsimp (disch := (repeat first | rw [AH.nx_new] | rw [AH.nx_put]); first | done | omega) only [go_sem, Int.reduceEq, Int.reduceNe, Int.reduceLT, Int.reduceLE, Int.reduceAdd, Int.reduceSub, Int.reduceMul, Int.reduceNeg, Int.reduceToNat, Nat.reducePow, reduceCtorEq, Nat.reduceEqDiff, Nat.reduceAdd, Nat.reduceLT, Nat.reduceLeDiff, Nat.reduceMul, Nat.reduceSub, Nat.reduceBEq]
    refine callK_of (lasideC hS hT5 hb (by omega) (by omega) hL5 k5 hp (sv := .nilsl) (ns := 0) lenNs rfl (bv := .nilsl) (b := []) ⟨.inl ⟨rfl, rfl⟩, fun _ _ _ _ _ hh => by cases hh⟩ (by simp) (by simp)) ?_
    rintro r h6 ⟨rfl, ⟨K6, nm6, sm6, ch6, ρ6, hT6, g6⟩, hL6⟩
    have gg : Gr K h2 K6 h6 := ((frGr f25 K).x L).trans g6 |>.gr n23
    by_cases ce : (((asideT path (tmpS ++ path) [] T).1 : Nat) : Int) = 0
    · have eO : openT path (tmpS ++ path) T = (some (⟨0, 0, 0⟩, []), asideT path (tmpS ++ path) [] T) := by
        unfold openT
        rw [if_pos hs, if_neg (by omega)]
      rw [eO]
      rw [if_pos (by omega)] at hL6
      simp (maxSteps := 1000000) -dsimp (disch := (repeat first | rw [AH.nx_new] | rw [AH.nx_put]); first | done | omega) only [go_sem, Int.reduceEq, Int.reduceNe, Int.reduceLT, Int.reduceLE, Int.reduceAdd, Int.reduceSub, Int.reduceMul, Int.reduceNeg, Int.reduceToNat, Nat.reducePow, reduceCtorEq, Nat.reduceEqDiff, Nat.reduceAdd, Nat.reduceLT, Nat.reduceLeDiff, Nat.reduceMul, Nat.reduceSub, Nat.reduceBEq, ce]
      exact ⟨K6, nm6, sm6, ch6, ρ6, hT6, gg, .inr ⟨_, _, L, .nilsl, rfl, by show (asideT path (tmpS ++ path) [] T).1 = 0; omega, rfl, hL6, Nat.lt_of_lt_of_le nL5 g6.nx, n23, (g6.get L nL5 k5.2).2, ⟨.inl ⟨rfl, rfl⟩, fun _ _ _ _ _ hh => by cases hh⟩, fun _ _ _ _ _ hh => by cases hh⟩⟩
    · have eO : openT path (tmpS ++ path) T = (none, asideT path (tmpS ++ path) [] T) := by
        unfold openT
        rw [if_pos hs, if_pos (by omega)]
      rw [eO]
      simp (maxSteps := 1000000) -dsimp (disch := (repeat first | rw [AH.nx_new] | rw [AH.nx_put]); first | done | omega) only [go_sem, Int.reduceEq, Int.reduceNe, Int.reduceLT, Int.reduceLE, Int.reduceAdd, Int.reduceSub, Int.reduceMul, Int.reduceNeg, Int.reduceToNat, Nat.reducePow, reduceCtorEq, Nat.reduceEqDiff, Nat.reduceAdd, Nat.reduceLT, Nat.reduceLeDiff, Nat.reduceMul, Nat.reduceSub, Nat.reduceBEq, ce]
      exact ⟨K6, nm6, sm6, ch6, ρ6, hT6, gg, .inl ⟨rfl, by show (asideT path (tmpS ++ path) [] T).1 ≠ 0; omega, rfl⟩⟩
  · have eO : openT path (tmpS ++ path) T =
      if (readT T true path).2.1 ≠ 0 then (none, (readT T true path).2) else
      if (tot (readT T true path).1).2.2 ≠ 0 then (none, (tot (readT T true path).1).2.2, (readT T true path).2.2) else
      openEnd (tmpS ++ path) (tot (readT T true path).1).2.1 (tot (readT T true path).1).1 (if (tot (readT T true path).1).2.1 < (readT T true path).1.length then asideT path (tmpS ++ path) ((readT T true path).1.take (tot (readT T true path).1).2.1) (readT T true path).2.2 else (0, (readT T true path).2.2)) := by
      unfold openT
      rw [if_neg (by rw [hs]; decide)]
      rfl
    rw [eO]
    clear eO
    have rb := read_byt hT.wf true path
    have rl := read_len (b := true) hsz
    have hbr := hb.read true path
    simp (maxSteps := 1000000) -dsimp (disch := (repeat first | rw [AH.nx_new] | rw [AH.nx_put]); first | done | omega) only [go_sem, Int.reduceEq, Int.reduceNe, Int.reduceLT, Int.reduceLE, Int.reduceAdd, Int.reduceSub, Int.reduceMul, Int.reduceNeg, Int.reduceToNat, Nat.reducePow, reduceCtorEq, Nat.reduceEqDiff, Nat.reduceAdd, Nat.reduceLT, Nat.reduceLeDiff, Nat.reduceMul, Nat.reduceSub, Nat.reduceBEq]
    refine callK_of (readC hS.toSt hT5 path) ?_
    rw [okp]
    rintro r h6 ⟨⟨v, rfl, bv, idv⟩, hT6, g6⟩
    generalize readT T true path = R at hT6 bv rb rl hbr ⊢
    obtain ⟨rbs, re, rT⟩ := R
    dsimp only at hT6 bv rb rl hbr ⊢
    have k6 : L < h6.nx ∧ K L = 0 := ⟨Nat.lt_of_lt_of_le nL5 g6.nx, k5.2⟩
    have hL6 := hL5.gr g6 k5.1 k5.2
    have gg6 : Gr K h2 K h6 := (frGr f25 K).trans g6
    by_cases ce : ((re : Nat) : Int) = 0
    · have ce' : ¬ re ≠ 0 := by omega
      rw [if_neg ce']
      obtain ⟨lv, sv', ov⟩ := bsLn bv
      have bz6 : Bz K h6 v rbs := ⟨bv, fun id off n z c hh => hT.top _ (Nat.le_trans f25.nx (idv _ _ _ _ _ hh))⟩
      simp (maxSteps := 1000000) -dsimp (disch := (repeat first | rw [AH.nx_new] | rw [AH.nx_put]); first | done | omega) only [go_sem, Int.reduceEq, Int.reduceNe, Int.reduceLT, Int.reduceLE, Int.reduceAdd, Int.reduceSub, Int.reduceMul, Int.reduceNeg, Int.reduceToNat, Nat.reducePow, reduceCtorEq, Nat.reduceEqDiff, Nat.reduceAdd, Nat.reduceLT, Nat.reduceLeDiff, Nat.reduceMul, Nat.reduceSub, Nat.reduceBEq, ce, ov]
      refine callK_of (scanC hS bv rb rl) ?_
      rintro r h7 ⟨sl, rfl, ss7, f7⟩
      have hT7 := hT6.fr f7
      have tx7 : Tx K h7 sl (tot rbs).1 := Tx.of ss7 (fun j hj => hT6.top j hj)
      have hL7 := hL6.gr (frGr f7 K) k6.1 k6.2
      have k7 : L < h7.nx ∧ K L = 0 := ⟨Nat.lt_of_lt_of_le k6.1 f7.nx, k6.2⟩
      have bz7 := bz6.gr (frGr f7 K)
      have gg7 := gg6.trans (frGr f7 K)
      have idl : ∀ id off n z c, sl = .sl id off n z c → h6.nx ≤ id := fun id off n z c hh => by
        rcases ss7 with ⟨h1, _⟩ | ⟨id', h1, h2', h3', h4'⟩
        · rw [h1] at hh; cases hh
        · rw [h1] at hh; cases hh; exact h4'
      have hwl := scn_whole (rbs.length + 1) rbs
      have hwl' : (tot rbs).2.1 ≤ rbs.length := hwl
      obtain ⟨lsl, ssl, osl⟩ := ssLn' tx7
      generalize tot rbs = TT0 at tx7 lsl hwl' ⊢
      obtain ⟨rs, rw_, rx⟩ := TT0
      dsimp only at tx7 lsl hwl' ⊢
      by_cases cx : ((rx : Nat) : Int) = 0
      · have cx' : ¬ rx ≠ 0 := by omega
        rw [if_neg cx']
        have idL : ∀ id off n z c, sl = .sl id off n z c → id ≠ L ∧ h2.nx ≤ id := fun id off n z c hh => by
          have h1 := idl _ _ _ _ _ hh
          have h2' := g6.nx
          have h3' := f25.nx
          exact ⟨by omega, by omega⟩
        have idV : ∀ id off n z c, v = .sl id off n z c → id ≠ L := fun id off n z c hh => by
          have h1 := idv _ _ _ _ _ hh
          omega
        have l7 := hL7
        unfold Lo at l7
        have lp : ∀ (h9 : AH) o, (h9.put L o).get L = some o := fun h9 o => AH.get_put_eq rfl
        simp (maxSteps := 1000000) -dsimp (disch := (repeat first | rw [AH.nx_new] | rw [AH.nx_put]); first | done | omega) only [go_sem, Int.reduceEq, Int.reduceNe, Int.reduceLT, Int.reduceLE, Int.reduceAdd, Int.reduceSub, Int.reduceMul, Int.reduceNeg, Int.reduceToNat, Nat.reducePow, reduceCtorEq, Nat.reduceEqDiff, Nat.reduceAdd, Nat.reduceLT, Nat.reduceLeDiff, Nat.reduceMul, Nat.reduceSub, Nat.reduceBEq, cx, l7, lp, lsl, osl]
        generalize hg8 : ((h7.put L (.cells [.int .i64 ((0 : Nat) : Int), .ptr p 0, .str path, .int .i64 (rw_ : Nat), .int .i64 ((0 : Nat) : Int)] true false)).put L (.cells [.int .i64 ((0 : Nat) : Int), .ptr p 0, .str path, .int .i64 (rw_ : Nat), .int .i64 (rs.length : Nat)] true false)) = h8
        have o8 : ∀ j, j < h7.nx → j ≠ L → h8.get j = h7.get j := fun j _ hj => by rw [← hg8]; exact (AH.get_put_ne hj).trans (AH.get_put_ne hj)
        have n8 : h7.nx ≤ h8.nx := by rw [← hg8]; exact Nat.le_refl _
        have hL8 : Lo h8 L p path ⟨0, rw_, rs.length⟩ := by rw [← hg8]; exact AH.get_put_eq rfl
        have hT8 : Tr K p nm sm chv ρ h8 rT := by rw [← hg8]; exact (hT7.putL k7.2 _).putL k7.2 _
        have gg8 : Gr K h2 K h8 := by rw [← hg8]; exact (((gg7.x L).put _).put _).gr n23
        have k8 : L < h8.nx ∧ K L = 0 := ⟨Nat.lt_of_lt_of_le k7.1 n8, k7.2⟩
        have tx8 : Tx K h8 sl rs := ⟨csOther tx7.1 n8 o8 fun id off n z c hh => (idL _ _ _ _ _ hh).1, tx7.2⟩
        have bz8 : Bz K h8 v rbs := ⟨bsOther bz7.1 n8 o8 idV, bz7.2⟩
        by_cases cw : ((rw_ : Nat) : Int) < ((rbs.length : Nat) : Int)
        · rw [if_pos (by omega)]
          obtain ⟨v', hsl', bz', _⟩ := bz8.slice_to Tryz.underlying55 tz5 (hi := rw_) hwl'
          simp (maxSteps := 1000000) -dsimp (disch := (repeat first | rw [AH.nx_new] | rw [AH.nx_put]); first | done | omega) only [go_sem, Int.reduceEq, Int.reduceNe, Int.reduceLT, Int.reduceLE, Int.reduceAdd, Int.reduceSub, Int.reduceMul, Int.reduceNeg, Int.reduceToNat, Nat.reducePow, reduceCtorEq, Nat.reduceEqDiff, Nat.reduceAdd, Nat.reduceLT, Nat.reduceLeDiff, Nat.reduceMul, Nat.reduceSub, Nat.reduceBEq, cw, lv, ov, osl, hsl']
          refine callK_of (lasideC hS hT8 hbr (by omega) (by omega) hL8 k8 hp (sv := sl) (ns := rs.length) lsl osl bz' (fun x hx => rb x (List.mem_of_mem_take hx)) (by rw [List.length_take]; omega)) ?_
          rintro r h9 ⟨rfl, ⟨K9, nm9, sm9, ch9, ρ9, hT9, g9⟩, hL9⟩
          have hb9 := (hbr.aside path (tmpS ++ path) (rbs.take rw_))
          have hlt : (rbs.take rw_).length = rw_ := by rw [List.length_take]; omega
          rw [hlt] at hL9
          have k9 : L < h9.nx ∧ K9 L = 0 := ⟨Nat.lt_of_lt_of_le k8.1 g9.nx, (g9.get _ k8.1 k8.2).2⟩
          have gg9 : Gr K h2 K9 h9 := ((gg8.x L).trans g9).gr n23
          have tx9 : Tx K9 h9 sl rs := by
            refine ⟨?_, fun id off n z c hh => ?_⟩
            · rcases tx8.1 with h1 | ⟨id, off, c, cs, o, t, h1, h2', h3, h4⟩
              · exact .inl h1
              · exact .inr ⟨id, off, c, cs, o, t, h1, ((g9.get id h3 (tx8.2 _ _ _ _ _ h1)).1 (idL _ _ _ _ _ h1).1).trans h2', Nat.lt_of_lt_of_le h3 g9.nx, h4⟩
            · rcases tx8.1 with ⟨h1, _⟩ | ⟨id', off', c', cs, o, t, h1, h2', h3, h4⟩
              · rw [h1] at hh; cases hh
              · have hq := h1; rw [hh] at hq; cases hq
                exact (g9.get _ h3 (tx8.2 _ _ _ _ _ h1)).2
          generalize asideT path (tmpS ++ path) (rbs.take rw_) rT = A9 at hT9 hb9 hL9 ⊢
          obtain ⟨e9, T9⟩ := A9
          dsimp only at hT9 hb9 hL9
          have smm : Sm T9 := Bm.sm hb9 (by omega) (by omega)
          by_cases c9 : ((e9 : Nat) : Int) = 0
          · obtain rfl : e9 = 0 := by omega
            rw [if_pos rfl] at hL9
            simp (maxSteps := 1000000) -dsimp (disch := (repeat first | rw [AH.nx_new] | rw [AH.nx_put]); first | done | omega) only [go_sem, Int.reduceEq, Int.reduceNe, Int.reduceLT, Int.reduceLE, Int.reduceAdd, Int.reduceSub, Int.reduceMul, Int.reduceNeg, Int.reduceToNat, Nat.reducePow, reduceCtorEq, Nat.reduceEqDiff, Nat.reduceAdd, Nat.reduceLT, Nat.reduceLeDiff, Nat.reduceMul, Nat.reduceSub, Nat.reduceBEq]
            refine callK_of (tempC hS hp) ?_
            rintro r ha ⟨rfl, fa⟩
            have hTa := hT9.fr fa
            simp (maxSteps := 1000000) -dsimp (disch := (repeat first | rw [AH.nx_new] | rw [AH.nx_put]); first | done | omega) only [go_sem, Int.reduceEq, Int.reduceNe, Int.reduceLT, Int.reduceLE, Int.reduceAdd, Int.reduceSub, Int.reduceMul, Int.reduceNeg, Int.reduceToNat, Nat.reducePow, reduceCtorEq, Nat.reduceEqDiff, Nat.reduceAdd, Nat.reduceLT, Nat.reduceLeDiff, Nat.reduceMul, Nat.reduceSub, Nat.reduceBEq]
            refine callK_of (statC hS.toSt hTa (tmpS ++ path)) ?_
            rintro r hb' ⟨rfl, fb⟩
            have hTb := hTa.fr fb
            have hLb := hL9.gr (frGr (fa.trans fb) K9) k9.1 k9.2
            have kb : L < hb'.nx ∧ K9 L = 0 := ⟨Nat.lt_of_lt_of_le k9.1 (fa.trans fb).nx, k9.2⟩
            have txb := Tx.gr tx9 (frGr (fa.trans fb) K9)
            have ggb := gg9.trans (frGr (fa.trans fb) K9)
            unfold openEnd
            rw [if_neg (fun hh => hh rfl)]
            dsimp only
            cases hst : (statT T9 (tmpS ++ path)).2.2
            · have er : remT (tmpS ++ path) T9 = (0, T9) := by unfold remT; rw [if_neg (by rw [hst]; decide)]
              rw [er, if_neg (fun hh => hh rfl)]
              simp (maxSteps := 1000000) -dsimp (disch := (repeat first | rw [AH.nx_new] | rw [AH.nx_put]); first | done | omega) only [go_sem, Int.reduceEq, Int.reduceNe, Int.reduceLT, Int.reduceLE, Int.reduceAdd, Int.reduceSub, Int.reduceMul, Int.reduceNeg, Int.reduceToNat, Nat.reducePow, reduceCtorEq, Nat.reduceEqDiff, Nat.reduceAdd, Nat.reduceLT, Nat.reduceLeDiff, Nat.reduceMul, Nat.reduceSub, Nat.reduceBEq, osl]
              exact ⟨K9, nm9, sm9, ch9, ρ9, hTb, ggb, .inr ⟨_, _, L, sl, rfl, rfl, rfl, hLb, kb.1, n23, kb.2, txb, idL⟩⟩
            · have er : remT (tmpS ++ path) T9 = rmT T9 true (tmpS ++ path) := by unfold remT; rw [if_pos hst]
              rw [er]
              simp (maxSteps := 1000000) -dsimp (disch := (repeat first | rw [AH.nx_new] | rw [AH.nx_put]); first | done | omega) only [go_sem, Int.reduceEq, Int.reduceNe, Int.reduceLT, Int.reduceLE, Int.reduceAdd, Int.reduceSub, Int.reduceMul, Int.reduceNeg, Int.reduceToNat, Nat.reducePow, reduceCtorEq, Nat.reduceEqDiff, Nat.reduceAdd, Nat.reduceLT, Nat.reduceLeDiff, Nat.reduceMul, Nat.reduceSub, Nat.reduceBEq]
              refine callK_of (rmC hS.toSt hTb smm (tmpS ++ path)) ?_
              rw [okt]
              rintro r hc' ⟨rfl, Kc, nmc, smc, chc, ρc, hTc, gc⟩
              by_cases c0 : (((rmT T9 true (tmpS ++ path)).1 : Nat) : Int) = 0
              · rw [if_neg (by omega)]
                simp (maxSteps := 1000000) -dsimp (disch := (repeat first | rw [AH.nx_new] | rw [AH.nx_put]); first | done | omega) only [go_sem, Int.reduceEq, Int.reduceNe, Int.reduceLT, Int.reduceLE, Int.reduceAdd, Int.reduceSub, Int.reduceMul, Int.reduceNeg, Int.reduceToNat, Nat.reducePow, reduceCtorEq, Nat.reduceEqDiff, Nat.reduceAdd, Nat.reduceLT, Nat.reduceLeDiff, Nat.reduceMul, Nat.reduceSub, Nat.reduceBEq, c0, osl]
                exact ⟨Kc, nmc, smc, chc, ρc, hTc, ggb.trans gc, .inr ⟨_, _, L, sl, rfl, by dsimp only; omega, rfl, hLb.gr gc kb.1 kb.2, Nat.lt_of_lt_of_le kb.1 gc.nx, n23, (gc.get _ kb.1 kb.2).2, Tx.gr txb gc, idL⟩⟩
              · rw [if_pos (by omega)]
                simp (maxSteps := 1000000) -dsimp (disch := (repeat first | rw [AH.nx_new] | rw [AH.nx_put]); first | done | omega) only [go_sem, Int.reduceEq, Int.reduceNe, Int.reduceLT, Int.reduceLE, Int.reduceAdd, Int.reduceSub, Int.reduceMul, Int.reduceNeg, Int.reduceToNat, Nat.reducePow, reduceCtorEq, Nat.reduceEqDiff, Nat.reduceAdd, Nat.reduceLT, Nat.reduceLeDiff, Nat.reduceMul, Nat.reduceSub, Nat.reduceBEq, c0]
                exact ⟨Kc, nmc, smc, chc, ρc, hTc, ggb.trans gc, .inl ⟨rfl, by dsimp only; omega, rfl⟩⟩
          · unfold openEnd
            rw [if_pos (by dsimp only; omega)]
            simp (maxSteps := 1000000) -dsimp (disch := (repeat first | rw [AH.nx_new] | rw [AH.nx_put]); first | done | omega) only [go_sem, Int.reduceEq, Int.reduceNe, Int.reduceLT, Int.reduceLE, Int.reduceAdd, Int.reduceSub, Int.reduceMul, Int.reduceNeg, Int.reduceToNat, Nat.reducePow, reduceCtorEq, Nat.reduceEqDiff, Nat.reduceAdd, Nat.reduceLT, Nat.reduceLeDiff, Nat.reduceMul, Nat.reduceSub, Nat.reduceBEq, c9]
            exact ⟨K9, nm9, sm9, ch9, ρ9, hT9, gg9, .inl ⟨rfl, by dsimp only; omega, rfl⟩⟩
        · rw [if_neg (by omega)]
          have smm : Sm rT := Bm.sm hbr (by omega) (by omega)
          simp (maxSteps := 1000000) -dsimp (disch := (repeat first | rw [AH.nx_new] | rw [AH.nx_put]); first | done | omega) only [go_sem, Int.reduceEq, Int.reduceNe, Int.reduceLT, Int.reduceLE, Int.reduceAdd, Int.reduceSub, Int.reduceMul, Int.reduceNeg, Int.reduceToNat, Nat.reducePow, reduceCtorEq, Nat.reduceEqDiff, Nat.reduceAdd, Nat.reduceLT, Nat.reduceLeDiff, Nat.reduceMul, Nat.reduceSub, Nat.reduceBEq, cw, lv, ov]
          refine callK_of (tempC hS hp) ?_
          rintro r ha ⟨rfl, fa⟩
          have hTa := hT8.fr fa
          simp (maxSteps := 1000000) -dsimp (disch := (repeat first | rw [AH.nx_new] | rw [AH.nx_put]); first | done | omega) only [go_sem, Int.reduceEq, Int.reduceNe, Int.reduceLT, Int.reduceLE, Int.reduceAdd, Int.reduceSub, Int.reduceMul, Int.reduceNeg, Int.reduceToNat, Nat.reducePow, reduceCtorEq, Nat.reduceEqDiff, Nat.reduceAdd, Nat.reduceLT, Nat.reduceLeDiff, Nat.reduceMul, Nat.reduceSub, Nat.reduceBEq]
          refine callK_of (statC hS.toSt hTa (tmpS ++ path)) ?_
          rintro r hb' ⟨rfl, fb⟩
          have hTb := hTa.fr fb
          have hLb := hL8.gr (frGr (fa.trans fb) K) k8.1 k8.2
          have kb : L < hb'.nx ∧ K L = 0 := ⟨Nat.lt_of_lt_of_le k8.1 (fa.trans fb).nx, k8.2⟩
          have txb := Tx.gr tx8 (frGr (fa.trans fb) K)
          have ggb := gg8.trans (frGr (fa.trans fb) K)
          unfold openEnd
          rw [if_neg (fun hh => hh rfl)]
          dsimp only
          cases hst : (statT rT (tmpS ++ path)).2.2
          · have er : remT (tmpS ++ path) rT = (0, rT) := by unfold remT; rw [if_neg (by rw [hst]; decide)]
            rw [er, if_neg (fun hh => hh rfl)]
            simp (maxSteps := 1000000) -dsimp (disch := (repeat first | rw [AH.nx_new] | rw [AH.nx_put]); first | done | omega) only [go_sem, Int.reduceEq, Int.reduceNe, Int.reduceLT, Int.reduceLE, Int.reduceAdd, Int.reduceSub, Int.reduceMul, Int.reduceNeg, Int.reduceToNat, Nat.reducePow, reduceCtorEq, Nat.reduceEqDiff, Nat.reduceAdd, Nat.reduceLT, Nat.reduceLeDiff, Nat.reduceMul, Nat.reduceSub, Nat.reduceBEq, osl]
            exact ⟨K, nm, sm, chv, ρ, hTb, ggb, .inr ⟨_, _, L, sl, rfl, rfl, rfl, hLb, kb.1, n23, kb.2, txb, idL⟩⟩
          · have er : remT (tmpS ++ path) rT = rmT rT true (tmpS ++ path) := by unfold remT; rw [if_pos hst]
            rw [er]
            simp (maxSteps := 1000000) -dsimp (disch := (repeat first | rw [AH.nx_new] | rw [AH.nx_put]); first | done | omega) only [go_sem, Int.reduceEq, Int.reduceNe, Int.reduceLT, Int.reduceLE, Int.reduceAdd, Int.reduceSub, Int.reduceMul, Int.reduceNeg, Int.reduceToNat, Nat.reducePow, reduceCtorEq, Nat.reduceEqDiff, Nat.reduceAdd, Nat.reduceLT, Nat.reduceLeDiff, Nat.reduceMul, Nat.reduceSub, Nat.reduceBEq]
            refine callK_of (rmC hS.toSt hTb smm (tmpS ++ path)) ?_
            rw [okt]
            rintro r hc' ⟨rfl, Kc, nmc, smc, chc, ρc, hTc, gc⟩
            by_cases c0 : (((rmT rT true (tmpS ++ path)).1 : Nat) : Int) = 0
            · rw [if_neg (by omega)]
              simp (maxSteps := 1000000) -dsimp (disch := (repeat first | rw [AH.nx_new] | rw [AH.nx_put]); first | done | omega) only [go_sem, Int.reduceEq, Int.reduceNe, Int.reduceLT, Int.reduceLE, Int.reduceAdd, Int.reduceSub, Int.reduceMul, Int.reduceNeg, Int.reduceToNat, Nat.reducePow, reduceCtorEq, Nat.reduceEqDiff, Nat.reduceAdd, Nat.reduceLT, Nat.reduceLeDiff, Nat.reduceMul, Nat.reduceSub, Nat.reduceBEq, c0, osl]
              exact ⟨Kc, nmc, smc, chc, ρc, hTc, ggb.trans gc, .inr ⟨_, _, L, sl, rfl, by dsimp only; omega, rfl, hLb.gr gc kb.1 kb.2, Nat.lt_of_lt_of_le kb.1 gc.nx, n23, (gc.get _ kb.1 kb.2).2, Tx.gr txb gc, idL⟩⟩
            · rw [if_pos (by omega)]
              simp (maxSteps := 1000000) -dsimp (disch := (repeat first | rw [AH.nx_new] | rw [AH.nx_put]); first | done | omega) only [go_sem, Int.reduceEq, Int.reduceNe, Int.reduceLT, Int.reduceLE, Int.reduceAdd, Int.reduceSub, Int.reduceMul, Int.reduceNeg, Int.reduceToNat, Nat.reducePow, reduceCtorEq, Nat.reduceEqDiff, Nat.reduceAdd, Nat.reduceLT, Nat.reduceLeDiff, Nat.reduceMul, Nat.reduceSub, Nat.reduceBEq, c0]
              exact ⟨Kc, nmc, smc, chc, ρc, hTc, ggb.trans gc, .inl ⟨rfl, by dsimp only; omega, rfl⟩⟩
      · rw [if_pos (by omega)]
        simp (maxSteps := 1000000) -dsimp (disch := (repeat first | rw [AH.nx_new] | rw [AH.nx_put]); first | done | omega) only [go_sem, Int.reduceEq, Int.reduceNe, Int.reduceLT, Int.reduceLE, Int.reduceAdd, Int.reduceSub, Int.reduceMul, Int.reduceNeg, Int.reduceToNat, Nat.reducePow, reduceCtorEq, Nat.reduceEqDiff, Nat.reduceAdd, Nat.reduceLT, Nat.reduceLeDiff, Nat.reduceMul, Nat.reduceSub, Nat.reduceBEq, cx, osl]
        exact ⟨K, nm, sm, chv, ρ, hT7, gg7, .inl ⟨rfl, by show rx ≠ 0; omega, rfl⟩⟩
    · rw [if_pos (by omega)]
      simp (maxSteps := 1000000) -dsimp (disch := (repeat first | rw [AH.nx_new] | rw [AH.nx_put]); first | done | omega) only [go_sem, Int.reduceEq, Int.reduceNe, Int.reduceLT, Int.reduceLE, Int.reduceAdd, Int.reduceSub, Int.reduceMul, Int.reduceNeg, Int.reduceToNat, Nat.reducePow, reduceCtorEq, Nat.reduceEqDiff, Nat.reduceAdd, Nat.reduceLT, Nat.reduceLeDiff, Nat.reduceMul, Nat.reduceSub, Nat.reduceBEq, ce]
      exact ⟨K, nm, sm, chv, ρ, hT6, gg6, .inl ⟨rfl, by show re ≠ 0; omega, rfl⟩⟩
end
end Go.Proofs.YtdpipffikgmgdaaGreatDoor.tre
