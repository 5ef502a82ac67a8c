/- Cut of the document, the walk. Conditions: the digest's constants are summaries; none else. -/
import Derived.Test.YtfhcnoancepgcaaGreatDoorTMj
import Derived.Test.YtfhcnoancepgcaaGreatDoorAb6
namespace Go.Proofs.YtfhcnoancepgcaaGreatDoor.dig
open Go Go.Abs Go.Proofs
set_option maxRecDepth 100000
set_option linter.unusedVariables false
set_option linter.unusedSimpArgs false

theorem minc (a k s : Nat) : ((min a (k + s) : Nat) : Int) = min (a : Int) ((k : Int) + (s : Int)) := by omega
theorem stre_mid (l : List Nat) (s i : Nat) : (l.take (min l.length (i * s + s))).drop (i * s) = stre l s i := by
  unfold stre
  rw [List.drop_take]
  by_cases h : i * s + s ≤ l.length
  · rw [Nat.min_eq_right h, Nat.add_sub_cancel_left]
  · rw [Nat.min_eq_left (by omega), List.take_of_length_le (by simp), List.take_of_length_le (by simp; omega)]
theorem Ds.frx {n0 : Nat} {h h' : AH} {v : AV} {D : List (List Nat)} (hb : Dn n0 h v D) (hk : ∀ j, n0 ≤ j → h'.get j = h.get j) (hn : h'.nx = h.nx) : Ds h' v D :=
  (hb.fr (h' := h') (fun j h1 _ => hk j h1) (by omega)).ds
section
variable {S : Sums}
theorem bld27n : evBuild Tryz.prog 28 [] = some (.agg [.int .i64 0, .int .i64 0, .nilsl]) := by kernel_rfl
theorem bld27s (s ln : Int) : evBuild Tryz.prog 28 [(0, .int .i64 s), (1, .int .i64 ln)] = some (.agg [.int .i64 s, .int .i64 ln, .nilsl]) := by kernel_rfl
set_option maxHeartbeats 8000000 in
theorem cut7 (hS : Nu S) (hN : Nt S) (hd : Dg S) {h : AH} {v : AV} {l : List Nat} {s : Nat} (hb : Bs h v l) (hl : ∀ b ∈ l, b < 256) (hs1 : 1 ≤ s) (hs2 : s ≤ 65536) :
    RnC Tryz.prog S 6 [v, .int .i64 (s : Nat)] h fun r h' => (if l.length ≤ 4194304 ∧ cnt (l.length : Nat) (s : Nat) ≤ 1024 then ∃ dv, r = .tup [.agg [.int .i64 (s : Nat), .int .i64 (l.length : Nat), dv], .int .i64 0] ∧ Ds h' dv (digs l s (cnt (l.length : Nat) (s : Nat)).toNat)
      else r = .tup [.agg [.int .i64 0, .int .i64 0, .nilsl], .int .i64 3]) ∧ Fr h h' := by
  refine RnC.enter' Tryz.f6 _ 53 [.cell 4 28, .tmp 5] (hS _ _ _ (by simp)) bd6 Tryz.func6 rfl rfl rfl ?_
  obtain ⟨lv, ov⟩ := conv_len hb
  have c1 : ¬ ((s : Nat) : Int) < 1 := by omega
  have c2 : ¬ (65536 : Int) < ((s : Nat) : Int) := by omega
  by_cases c3 : (4194304 : Int) < (l.length : Nat)
  · simp (maxSteps := 1000000) -dsimp (disch := (repeat first | rw [nxn] | rw [nxp]); try omega) only [go_sem, c1, c2, c3, lv, bld27n]
    rw [if_neg (by omega)]
    exact ⟨trivial, (Fr.new h _).put _ (by omega)⟩
  · have c3' : l.length ≤ 4194304 := by omega
    simp (maxSteps := 1000000) -dsimp (disch := (repeat first | rw [nxn] | rw [nxp]); try omega) only [go_sem, c1, c2, c3, lv, bld27n]
    refine callK_of (count25 (fun _ _ => hN _ _ _ (by simp)) (by omega) (by omega) (by omega) (by omega)) ?_
    rintro r h2 ⟨rfl, hf2⟩
    have hn2 : h.nx + 1 ≤ h2.nx := hf2.nx
    have g0 : h2.get h.nx = some (.cells [.int .i64 0, .int .i64 0, .nilsl] true false) := (hf2.get _ (by show h.nx < h.nx + 1; omega)).trans (AH.get_new_eq rfl)
    have fr2 : Fr h h2 := (Fr.new h _).trans hf2
    by_cases c4 : (1024 : Int) < cnt (l.length : Nat) (s : Nat)
    · simp (maxSteps := 1000000) -dsimp (disch := (repeat first | rw [nxn] | rw [nxp]); try omega) only [go_sem, c4, g0, lv, bld27n]
      rw [if_neg (by omega)]
      exact ⟨trivial, fr2.put _ (by omega)⟩
    · simp (maxSteps := 1000000) -dsimp (disch := (repeat first | rw [nxn] | rw [nxp]); try omega) only [go_sem, c4, g0, lv, bld27n, bld27s]
      refine loopK_of (RnL.rounds (Q := fun ex t => ex = .exit 0 ∧ Fr h2 t.h ∧ t.d = [] ∧ t.t.get 4 = some (.ptr h.nx 0) ∧ t.t.get 6 = some (.ptr h2.nx 0) ∧ ∃ dv, t.h.get h2.nx = some (.cells [.int .i64 (s : Nat), .int .i64 (l.length : Nat), dv] true false) ∧ h2.nx < t.h.nx ∧ Dn (h2.nx + 1) t.h dv (digs l s (cnt (l.length : Nat) (s : Nat)).toNat))
        (fun m t => Fr h2 t.h ∧ t.d = [] ∧ t.t.get 0 = some v ∧ t.t.get 1 = some (.int .i64 (s : Nat)) ∧ t.t.get 4 = some (.ptr h.nx 0) ∧ t.t.get 6 = some (.ptr h2.nx 0) ∧ ∃ (dv : AV) (i : Nat), t.t.get 7 = some (.int .i64 ((i * s : Nat) : Int)) ∧ t.h.get h2.nx = some (.cells [.int .i64 (s : Nat), .int .i64 (l.length : Nat), dv] true false) ∧ h2.nx < t.h.nx ∧ Dn (h2.nx + 1) t.h dv (digs l s i) ∧ (i : Int) ≤ cnt (l.length : Nat) (s : Nat) ∧ m = (cnt (l.length : Nat) (s : Nat)).toNat - i) ?_ (cnt (l.length : Nat) (s : Nat)).toNat ?_) ?_
      · rintro m ⟨t, h1, d⟩ ⟨f1, e2, t0, t1, t4, t6, dv, i, t7, gd, gn, hdn, hi, rfl⟩
        dsimp only at f1 e2 t0 t1 t4 t6 t7 gd gn hdn
        subst e2
        have hci := cnt_iff (ln := l.length) (s := s) (i := i) hs1
        by_cases c5 : ((i * s : Nat) : Int) < (l.length : Nat)
        · simp (maxSteps := 1000000) -dsimp (disch := (repeat first | rw [nxn] | rw [nxp]); try omega) only [go_sem, c5, lv, t0, t1, t4, t6, t7, gd]
          refine syDraw.keepL (fun id => id = h2.nx) (by kernel_rfl) (by kernel_rfl) ?_
          obtain ⟨v3, s3, b3, sv3, ov3⟩ := hb.fr (fr2.trans f1) |>.slice_mid Tryz.underlying22 tz5 (lo := i * s) (hi := min l.length (i * s + s)) (by omega) (by omega)
          rw [minc, stre_mid] at *
          have sdv : sameAV 20 dv dv = true := by
            rcases hdn with ⟨rfl, _⟩ | ⟨id, cs, rfl, _⟩
            · rfl
            · simp [sameAV]
          simp (maxSteps := 1000000) -dsimp (disch := (repeat first | rw [nxn] | rw [nxp]); try omega) only [go_sem, sdv, s3, lv, t0, t1, t4, t6, t7, gd, true_and, implies_true, sv_int, sv_bool]
          refine callK_of (of26 hd (b3.fr ((Fr.refl h1).more (h1.nx + 16) (by omega))) (fun b hb2 => hl b (List.mem_of_mem_drop (List.mem_of_mem_take hb2))) (by unfold stre; rw [List.length_take, List.length_drop]; omega)) ?_
          rintro r h4 ⟨rfl, hf4⟩
          have hn4 : h1.nx + 16 ≤ h4.nx := hf4.nx
          have hg4 : ∀ j, j < h1.nx + 16 → h4.get j = h1.get j := hf4.get
          have hL : (byC (ofS (stre l s i))).length = 32 := by rw [byC_length]; rfl
          have hz : z32.length = 32 := rfl
          have hz0 : List.drop 32 z32 = [] := rfl
          have gd4 : h4.get h2.nx = some (.cells [.int .i64 (s : Nat), .int .i64 (l.length : Nat), dv] true false) := (hg4 _ (by omega)).trans gd
          have hn1 := f1.nx
          have hdl := digs_len l s i
          obtain ⟨v', h6, ha, hk6, hn6, hd6, a6, n6, rfl⟩ := Dn.app (n0 := h2.nx + 1) (h := h4.put (h1.nx + 12) (.cells (byC (ofS (stre l s i))) true false)) (c := some 1) (hdn.fr (fun j hj1 hj2 => (AH.get_put_ne (by omega)).trans (hg4 j (by omega))) (by rw [AH.nx_put]; omega)) (digs_32 l s i) (ofS_len _) (by rw [hdl]; omega) (AH.get_put_eq rfl) (by rw [AH.nx_put]; omega) (by rw [AH.nx_put]; omega)
          refine ⟨fun id hid => by rw [hid]; exact hg4 _ (by omega), ?_⟩
          have gd6 : h6.get h2.nx = some (.cells [.int .i64 (s : Nat), .int .i64 (l.length : Nat), dv] true false) := (hk6 _ (by omega)).trans ((AH.get_put_ne (by omega)).trans gd4)
          simp (maxSteps := 1000000) -dsimp (disch := (repeat first | rw [nxn] | rw [nxp]); try omega) only [go_sem, sdv, s3, lv, ha, hL, hz, hz0, zc56w, gd4, gd6, t0, t1, t4, t6, t7, gd, true_and, implies_true, sv_int, sv_bool]
          have hcl := hci.2 (by omega)
          refine ⟨fun id hid => by rw [hid, gd6, gd4], (cnt (l.length : Nat) (s : Nat)).toNat - (i + 1), by omega, ?_, .sl a6 0 n6 32 none, i + 1, ?_, rfl, by have : h4.nx ≤ h6.nx := hn6; omega, ?_, by omega, rfl⟩
          · exact ⟨by have : h4.nx ≤ h6.nx := hn6; show h2.nx ≤ h6.nx; omega, fun j hj => (AH.get_put_ne (by omega)).trans ((hk6 j (by omega)).trans ((AH.get_put_ne (by omega)).trans ((hg4 j (by omega)).trans (f1.get j hj))))⟩
          · rw [Nat.add_mul, Nat.one_mul, Int.natCast_add]
          · exact hd6.fr (fun j hj1 hj2 => AH.get_put_ne (by omega)) (Nat.le_refl _)
        · simp (maxSteps := 1000000) -dsimp (disch := (repeat first | rw [nxn] | rw [nxp]); try omega) only [go_sem, c5, lv, t0, t1, t4, t6, t7, gd]
          have hii : i = (cnt (l.length : Nat) (s : Nat)).toNat := by
            by_cases hh : (i : Int) < cnt (l.length : Nat) (s : Nat)
            · have := hci.1 hh; omega
            · omega
          exact ⟨trivial, f1, trivial, trivial, trivial, dv, rfl, gn, hii ▸ hdn⟩
      · simp (maxSteps := 1000000) -dsimp (disch := (repeat first | rw [nxn] | rw [nxp]); try omega) only [go_sem]
        have cb := cnt_b (ln := (l.length : Nat)) (s := (s : Nat)) (by omega) (by omega) (by omega) (by omega)
        exact ⟨(Fr.new h2 _).put _ (Nat.le_refl _), trivial, trivial, trivial, trivial, trivial, .nilsl, 0, by rw [Nat.zero_mul]; rfl, rfl, Nat.lt_succ_self _, .inl ⟨rfl, rfl⟩, cb.1, rfl⟩
      · rintro ex ⟨t, h1, d⟩ ⟨rfl, f1, rfl, t4, t6, dv, gd, gn, hdn⟩
        dsimp only at f1 t4 t6 gd gn hdn
        have x0 : h1.get h.nx = some (.cells [.int .i64 0, .int .i64 0, .nilsl] true false) := (f1.get _ (by omega)).trans g0
        rcases (show dv = .nilsl ∨ ∃ a n, dv = .sl a 0 n 32 none from by
          rcases hdn with ⟨h9, _⟩ | ⟨id, cs, h9, _⟩
          · exact .inl h9
          · exact .inr ⟨_, _, h9⟩) with rfl | ⟨ra, rn, rfl⟩
        · simp (maxSteps := 1000000) -dsimp (disch := (repeat first | rw [nxn] | rw [nxp]); try omega) only [go_sem, t4, t6, gd, x0]
          rw [if_pos ⟨c3', by omega⟩]
          refine ⟨⟨_, rfl, Ds.frx hdn ?_ ?_⟩, (fr2.trans f1).put _ (by omega)⟩
          · exact fun j hj => AH.get_put_ne (by omega)
          · rfl
        · simp (maxSteps := 1000000) -dsimp (disch := (repeat first | rw [nxn] | rw [nxp]); try omega) only [go_sem, t4, t6, gd, x0]
          rw [if_pos ⟨c3', by omega⟩]
          refine ⟨⟨_, rfl, Ds.frx hdn ?_ ?_⟩, (fr2.trans f1).put _ (by omega)⟩
          · exact fun j hj => AH.get_put_ne (by omega)
          · rfl
end
end Go.Proofs.YtfhcnoancepgcaaGreatDoor.dig
