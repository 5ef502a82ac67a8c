/- A record read, by the program. Conditions: those of its summaries. -/
import Derived.Test.YtmphlckolampoaaGreatDoorRCh
namespace Go.Proofs.YtmphlckolampoaaGreatDoor.tbl
open Go Go.Abs Go.Abs.Rec Go.Abs.Stb Go.Proofs
set_option maxRecDepth 100000
set_option linter.unusedVariables false
set_option linter.unusedSimpArgs false
theorem cvSB (h : AH) (s : List Nat) : evConvert Tryz.prog h 9 58 (.str s) = some (.val (.sl h.nx 0 s.length 1 none) (h.new (.cells (byC s) true true))) := by
 simp [evConvert, newCells, Tryz.underlying9, Tryz.underlying58, Tryz.underlying5, byC]
theorem bsCv (h : AH) (s : List Nat) : Bs (h.new (.cells (byC s) true true)) (.sl h.nx 0 s.length 1 none) s :=
 .inr ⟨h.nx, 0, none, byC s, true, true, rfl, AH.get_new_eq rfl, Nat.lt_succ_self _, by rw [byC_length]; omega, fun k hk => (by cases hk), by rw [List.drop_zero, ← byC_length s, List.take_length]⟩
theorem bldP0 : evBuild Tryz.prog 51 [] = some (.agg [.str [], .str [], .bool false]) := by kernel_rfl
theorem pairsF_at {kind n : Nat} {s : Rd} {acc : KL (List Nat × Bool)} (he : s.e = 0) : pairsF kind (n + 1) s acc = pairsF kind n (one kind s).2.2 (acc ++ [(one kind s).2.1]) := by
 rw [pairsF, if_neg (fun hh => hh he)]
theorem pairsF_err {kind n : Nat} {s : Rd} {acc : KL (List Nat × Bool)} (he : s.e ≠ 0) : pairsF kind n s acc = (acc, s) := by
 cases n with
 | zero => rfl
 | succ n => rw [pairsF, if_pos he]
theorem oneA1 {kind : Nat} {s : Rd} (hk : kind = 1) (hx : s.num.1 = 0) : one kind s = (0, (s.num.2.piece.1, [], true), s.num.2.piece.2) := by
 subst hk
 unfold one
 simp [hx]
theorem oneB1 {kind : Nat} {s : Rd} (hk : kind = 1) (hx : s.num.1 ≠ 0) : one kind s = (s.num.1, (s.num.2.piece.1, s.num.2.piece.2.piece.1, false), s.num.2.piece.2.piece.2) := by
 subst hk
 unfold one
 simp [hx]
theorem oneC1 {kind : Nat} {s : Rd} (hk : kind ≠ 1) : one kind s = (1, (s.piece.1, s.piece.2.piece.1, false), s.piece.2.piece.2) := by
 unfold one
 simp [hk]
section
variable {S : Sums}
set_option maxHeartbeats 16000000 in
theorem readC (hS : To S) {h : AH} {s : List Nat} (hs : s.length ≤ 900000) (hby : ∀ b ∈ s, b < 256) :
  RnC Tryz.prog S 33 [.str s] h fun r h' => Fr h h' ∧ ((readP s = none ∧ r = .tup [.nilsl, .bool false, .int .i64 4]) ∨ ∃ l a w, readP s = some (l, a) ∧ r = .tup [w, .bool a, .int .i64 0] ∧ Ps h' w l) := by
 refine RnC.enter' Tryz.f33 _ 62 [.tmp 2, .tmp 3, .tmp 4] (hS.no _ _ _ (by simp)) bd33 Tryz.func33 rfl rfl rfl ?_
 have ls : ∀ g, evLen Tryz.prog g #[9] (.str s) = some (.int .i64 ((s.length : Nat) : Int)) := fun g => by simp [evLen, Tryz.underlying9]
 simp (maxSteps := 1000000) -dsimp (disch := (repeat first | rw [nxn] | rw [nxp]); try omega) only [go_sem, cvSB]
 refine callK_of (newR hS.toTr2 (bsCv h s) hby (by omega)) ?_
 rintro w g ⟨R, p, rfl, hr, hR0', hp0', f1'⟩
 have hR0 : h.nx ≤ R := Nat.le_trans (Nat.le_succ _) hR0'
 have hp0 : h.nx ≤ p := Nat.le_trans (Nat.le_succ _) hp0'
 have f1 : Fr h g := (Fr.new _ _).trans f1'
 have hRn := hr.Rn
 have hpn := hr.pn
 clear f1' hR0' hp0'
 try simp (maxSteps := 1000000) -dsimp (disch := (repeat first | rw [nxn] | rw [nxp]); try omega) only [go_sem]
 refine callK_of (rnumC hS.toTr2 hr) ?_
 rintro w g2 ⟨rfl, hr2, x2⟩
 try simp (maxSteps := 1000000) -dsimp (disch := (repeat first | rw [nxn] | rw [nxp]); try omega) only [go_sem, ls]
 refine callK_of (rcountC hS.toTr2 hr2 (by omega)) ?_
 rintro w g3 ⟨rfl, hr3, x3⟩
 have x13 := x2.trans x3
 have hrd : readP s = (let p := pairsF (Rd.mk s 0).num.1 ((Rd.mk s 0).num.2.count s.length).1 ((Rd.mk s 0).num.2.count s.length).2 []; if p.2.e ≠ 0 ∨ p.2.b ≠ [] ∨ ((Rd.mk s 0).num.1 ≠ 1 ∧ (Rd.mk s 0).num.1 ≠ 2) then none else some (p.1, decide ((Rd.mk s 0).num.1 = 2))) := rfl
 have hcle : ((Rd.mk s 0).num.2.count s.length).1 ≤ s.length := by
  unfold Rd.count
  split
  ·exact Nat.zero_le _
  ·split
   ·exact Nat.zero_le _
   ·split
    ·exact Nat.zero_le _
    ·omega
 rw [hrd]
 clear hrd
 generalize ((Rd.mk s 0).num.2.count s.length).2 = r0 at hr3 ⊢
 generalize ((Rd.mk s 0).num.2.count s.length).1 = c0 at hcle ⊢
 generalize (Rd.mk s 0).num.1 = kind
 try simp (maxSteps := 1000000) -dsimp (disch := (repeat first | rw [nxn] | rw [nxp]); try omega) only [go_sem]
 refine loopK_of (RnL.rounds (Q := fun ex u => ex = .exit 0 ∧ u.d = [] ∧ u.t.get 5 = some (.ptr R 0) ∧ u.t.get 6 = some (.int .u64 (kind : Nat)) ∧ Fr h u.h ∧ RdA R p u.h (pairsF kind c0 r0 []).2 ∧ ∃ w, u.t.get 7 = some w ∧ Ps u.h w (pairsF kind c0 r0 []).1)
  (fun m u => u.d = [] ∧ u.t.get 5 = some (.ptr R 0) ∧ u.t.get 6 = some (.int .u64 (kind : Nat)) ∧ g.nx ≤ u.h.nx ∧ Fx p g u.h ∧ ∃ (n : Nat) (r : Rd) (acc : KL (List Nat × Bool)) (w : AV), u.t.get 8 = some (.int .i64 (n : Nat)) ∧ RdA R p u.h r ∧ u.t.get 7 = some w ∧ Ez 3 g.nx u.h w (acc.flatMap pc) ∧ pairsF kind c0 r0 [] = pairsF kind n r acc ∧ acc.length + n ≤ 900000 ∧ m = n) ?_ c0 ?_) ?_
 ·rintro m ⟨tt, gx, d⟩ ⟨e9, g5, g6, hnx, fx, n, r, acc, w, g8, hrr, g7, hz, hpf, han, rfl⟩
  dsimp only at e9 g5 g6 hnx fx g8 hrr g7 hz
  subst e9
  have fhx : Fr h gx := fx.fr f1 hp0
  have ow := (Ez.one hz).2
  cases m with
  | zero =>
   have c1 : ¬ (0 : Int) < ((0 : Nat) : Int) := by omega
   have c2 : ¬ (0 : Int) < 0 := by omega
   have hpf' : pairsF kind c0 r0 [] = (acc, r) := hpf
   rw [hpf']
   simp (maxSteps := 1000000) -dsimp (disch := (repeat first | rw [nxn] | rw [nxp]); try omega) only [go_sem, g5, g6, g7, g8, c1, c2]
   exact ⟨trivial, trivial, trivial, trivial, fhx, hrr, w, rfl, Ps.of hz⟩
  | succ n =>
   have c1 : (0 : Int) < ((n + 1 : Nat) : Int) := by omega
   have c1' : (0 : Int) < ((n : Nat) : Int) + 1 := by omega
   have cn : ((n + 1 : Nat) : Int) - 1 = ((n : Nat) : Int) := by omega
   simp (maxSteps := 1000000) -dsimp (disch := (repeat first | rw [nxn] | rw [nxp]); try omega) only [go_sem, g5, g6, g7, g8, c1, c1']
   refine callK_of (rerrC hS.toTr2 hrr) ?_
   rintro w1 g1 ⟨rfl, rfl⟩
   by_cases he : r.e = 0
   ·have c2 : ((r.e : Nat) : Int) = 0 := by omega
    rw [pairsF_at he] at hpf
    generalize hg4 : ((g1.new (.cells [.str [], .str [], .bool false] true false)).put g1.nx (.cells [.str [], .str [], .bool false] true false)) = g4'
    have n4 : g4'.nx = g1.nx + 1 := by rw [← hg4]; rfl
    have f4' : Fr g1 g4' := by rw [← hg4]; exact (Fr.new _ _).put _ (Nat.le_refl _)
    have c4' : g4'.get g1.nx = some (.cells [.str [], .str [], .bool false] true false) := by rw [← hg4]; exact AH.get_put_eq rfl
    have hr4 := hrr.fr f4'
    have x4 : Fx p g1 g4' := Fx.of f4'
    have qp : p < g1.nx := by omega
    -- the end of a round
    have fin : ∀ (ge : AH) (N : Nat) (rs : Rd) (k x : List Nat) (b : Bool), ge.nx = N → Fx p g1 ge → RdA R p ge rs → ge.get g1.nx = some (.cells [.str k, .str x, .bool b] true false) → g1.nx < ge.nx →
      ∃ w' h', evAppend Tryz.prog (ge.new (.cells [.str k, .str x, .bool b] true false)) #[22, 22] w (.sl N 0 1 3 (some 1)) = some (.val w' h') ∧ oneA w' = true ∧ g.nx ≤ h'.nx ∧ Fx p g h' ∧ RdA R p h' rs ∧ Ez 3 g.nx h' w' ((acc ++ [(k, (x, b))]).flatMap pc) := fun ge N rs k x b hN xe hre hce hlt => by
     subst hN
     have hze := ezFx hz (by omega) xe
     have fge : Fr { tr := (ge.new (.cells [.str k, .str x, .bool b] true false)).tr, nx := g.nx } (ge.new (.cells [.str k, .str x, .bool b] true false)) := ⟨by show g.nx ≤ ge.nx + 1; omega, fun _ _ => rfl⟩
     obtain ⟨w', h', ha, hf', hz', ow'⟩ := appP (h0 := { tr := (ge.new (.cells [.str k, .str x, .bool b] true false)).tr, nx := g.nx }) (h := ge.new (.cells [.str k, .str x, .bool b] true false)) (v := w) (l := acc) (m := [(k, (x, b))]) (hze.fr (Fr.new _ _)) (ps1 (AH.get_new_eq rfl) (Nat.lt_succ_self _)) fge (by simp; omega)
     have ho : ∀ j, j < g.nx → h'.get j = ge.get j := fun j hj => (hf'.get j hj).trans (AH.get_new_ne (by omega))
     exact ⟨w', h', ha, ow', hf'.nx, ⟨hf'.nx, fun j hj hne => (ho j hj).trans ((xe.2 j (by omega) hne).trans (fx.2 j hj hne))⟩, hre.lo hRn hpn hf'.nx ho, hz'⟩
    by_cases hk : kind = 1
    ·have ck : ((kind : Nat) : Int) = 1 := by omega
     simp (maxSteps := 1000000) -dsimp (disch := (repeat first | rw [nxn] | rw [nxp]); try omega) only [go_sem, c2, bldP0, ck, g5, g6]
     rw [hg4]
     refine callK_of (rnumC hS.toTr2 hr4) ?_
     rintro w5 g5' ⟨rfl, hr5, x5⟩
     have c5 : g5'.get g1.nx = _ := (x5.2 _ (by omega) (by omega)).trans c4'
     by_cases hx0 : r.num.1 = 0
     ·have hone := oneA1 hk hx0
      rw [hone] at hpf
      have c6 : ((r.num.1 : Nat) : Int) = 0 := by omega
      simp (maxSteps := 1000000) -dsimp (disch := (repeat first | rw [nxn] | rw [nxp]); try omega) only [go_sem, c5, c6, g5]
      generalize hg6 : (g5'.put g1.nx (.cells [.str [], .str [], .bool true] true false)) = g6'
      have c6' : g6'.get g1.nx = some (.cells [.str [], .str [], .bool true] true false) := by rw [← hg6]; exact AH.get_put_eq rfl
      have n6 : g6'.nx = g5'.nx := by rw [← hg6]; rfl
      have n5 := x5.1
      have x6 : Fx p g1 g6' := by rw [← hg6]; exact (x4.trans x5).put2 (Nat.le_refl _) _
      have hr6 : RdA R p g6' r.num.2 := hr5.lo (n0 := g1.nx) (by omega) (by omega) (by omega) fun j hj => by rw [← hg6]; exact AH.get_put_ne (by omega)
      refine callK_of (rpieceC hS.toTr2 hr6) ?_
      rintro w7 g7' ⟨rfl, hr7, x7⟩
      have n7 := x7.1
      have c7' : g7'.get g1.nx = _ := (x7.2 _ (by omega) (by omega)).trans c6'
      obtain ⟨w', h', ha, ow', q1, q2, q3, q4⟩ := fin (g7'.put g1.nx (.cells [.str r.num.2.piece.1, .str [], .bool true] true false)) g7'.nx r.num.2.piece.2 r.num.2.piece.1 [] true rfl ((x6.trans x7).put2 (Nat.le_refl _) _) (hr7.lo (n0 := g1.nx) (by omega) (by omega) (by show g1.nx ≤ g7'.nx; omega) fun j hj => AH.get_put_ne (by omega)) (AH.get_put_eq rfl) (by show g1.nx < g7'.nx; omega)
      rcases ezShape q4 with rfl | ⟨ii9, nn9, cc9, rfl⟩
      all_goals
       simp (maxSteps := 1000000) -dsimp (disch := (repeat first | rw [nxn] | rw [nxp]); try omega) only [go_sem, c7', g7, g8, ow, ha, cn, g5, g6]
       exact ⟨n, Nat.lt_succ_self _, trivial, trivial, trivial, q1, q2, n, _, _, _, rfl, q3, rfl, q4, hpf, by simp; omega, rfl⟩
     ·have hone := oneB1 hk hx0
      rw [hone] at hpf
      have c6 : ¬ ((r.num.1 : Nat) : Int) = 0 := by omega
      simp (maxSteps := 1000000) -dsimp (disch := (repeat first | rw [nxn] | rw [nxp]); try omega) only [go_sem, c5, c6, g5]
      generalize hg6 : (g5'.put g1.nx (.cells [.str [], .str [], .bool false] true false)) = g6'
      have c6' : g6'.get g1.nx = some (.cells [.str [], .str [], .bool false] true false) := by rw [← hg6]; exact AH.get_put_eq rfl
      have n6 : g6'.nx = g5'.nx := by rw [← hg6]; rfl
      have n5 := x5.1
      have x6 : Fx p g1 g6' := by rw [← hg6]; exact (x4.trans x5).put2 (Nat.le_refl _) _
      have hr6 : RdA R p g6' r.num.2 := hr5.lo (n0 := g1.nx) (by omega) (by omega) (by omega) fun j hj => by rw [← hg6]; exact AH.get_put_ne (by omega)
      refine callK_of (rpieceC hS.toTr2 hr6) ?_
      rintro w7 g7' ⟨rfl, hr7, x7⟩
      have n7 := x7.1
      have c7' : g7'.get g1.nx = _ := (x7.2 _ (by omega) (by omega)).trans c6'
      simp (maxSteps := 1000000) -dsimp (disch := (repeat first | rw [nxn] | rw [nxp]); try omega) only [go_sem, c7', g5]
      generalize hg8 : (g7'.put g1.nx (.cells [.str r.num.2.piece.1, .str [], .bool false] true false)) = g8'
      have c8' : g8'.get g1.nx = some (.cells [.str r.num.2.piece.1, .str [], .bool false] true false) := by rw [← hg8]; exact AH.get_put_eq rfl
      have n8 : g8'.nx = g7'.nx := by rw [← hg8]; rfl
      have x8 : Fx p g1 g8' := by rw [← hg8]; exact (x6.trans x7).put2 (Nat.le_refl _) _
      have hr8 : RdA R p g8' r.num.2.piece.2 := hr7.lo (n0 := g1.nx) (by omega) (by omega) (by omega) fun j hj => by rw [← hg8]; exact AH.get_put_ne (by omega)
      refine callK_of (rpieceC hS.toTr2 hr8) ?_
      rintro w9 g9' ⟨rfl, hr9, x9⟩
      have n9 := x9.1
      have c9' : g9'.get g1.nx = _ := (x9.2 _ (by omega) (by omega)).trans c8'
      obtain ⟨w', h', ha, ow', q1, q2, q3, q4⟩ := fin (g9'.put g1.nx (.cells [.str r.num.2.piece.1, .str r.num.2.piece.2.piece.1, .bool false] true false)) g9'.nx r.num.2.piece.2.piece.2 r.num.2.piece.1 r.num.2.piece.2.piece.1 false rfl ((x8.trans x9).put2 (Nat.le_refl _) _) (hr9.lo (n0 := g1.nx) (by omega) (by omega) (by show g1.nx ≤ g9'.nx; omega) fun j hj => AH.get_put_ne (by omega)) (AH.get_put_eq rfl) (by show g1.nx < g9'.nx; omega)
      rcases ezShape q4 with rfl | ⟨ii9, nn9, cc9, rfl⟩
      all_goals
       simp (maxSteps := 1000000) -dsimp (disch := (repeat first | rw [nxn] | rw [nxp]); try omega) only [go_sem, c9', g7, g8, ow, ha, cn, g5, g6]
       exact ⟨n, Nat.lt_succ_self _, trivial, trivial, trivial, q1, q2, n, _, _, _, rfl, q3, rfl, q4, hpf, by simp; omega, rfl⟩
    ·have ck : ¬ ((kind : Nat) : Int) = 1 := by omega
     have hone := oneC1 (s := r) hk
     rw [hone] at hpf
     simp (maxSteps := 1000000) -dsimp (disch := (repeat first | rw [nxn] | rw [nxp]); try omega) only [go_sem, c2, bldP0, ck, g5, g6]
     rw [hg4]
     refine callK_of (rpieceC hS.toTr2 hr4) ?_
     rintro w7 g7' ⟨rfl, hr7, x7⟩
     have n7 := x7.1
     have c7' : g7'.get g1.nx = _ := (x7.2 _ (by omega) (by omega)).trans c4'
     simp (maxSteps := 1000000) -dsimp (disch := (repeat first | rw [nxn] | rw [nxp]); try omega) only [go_sem, c7', g5]
     generalize hg8 : (g7'.put g1.nx (.cells [.str r.piece.1, .str [], .bool false] true false)) = g8'
     have c8' : g8'.get g1.nx = some (.cells [.str r.piece.1, .str [], .bool false] true false) := by rw [← hg8]; exact AH.get_put_eq rfl
     have n8 : g8'.nx = g7'.nx := by rw [← hg8]; rfl
     have x8 : Fx p g1 g8' := by rw [← hg8]; exact (x4.trans x7).put2 (Nat.le_refl _) _
     have hr8 : RdA R p g8' r.piece.2 := hr7.lo (n0 := g1.nx) (by omega) (by omega) (by omega) fun j hj => by rw [← hg8]; exact AH.get_put_ne (by omega)
     refine callK_of (rpieceC hS.toTr2 hr8) ?_
     rintro w9 g9' ⟨rfl, hr9, x9⟩
     have n9 := x9.1
     have c9' : g9'.get g1.nx = _ := (x9.2 _ (by omega) (by omega)).trans c8'
     obtain ⟨w', h', ha, ow', q1, q2, q3, q4⟩ := fin (g9'.put g1.nx (.cells [.str r.piece.1, .str r.piece.2.piece.1, .bool false] true false)) g9'.nx r.piece.2.piece.2 r.piece.1 r.piece.2.piece.1 false rfl ((x8.trans x9).put2 (Nat.le_refl _) _) (hr9.lo (n0 := g1.nx) (by omega) (by omega) (by show g1.nx ≤ g9'.nx; omega) fun j hj => AH.get_put_ne (by omega)) (AH.get_put_eq rfl) (by show g1.nx < g9'.nx; omega)
     rcases ezShape q4 with rfl | ⟨ii9, nn9, cc9, rfl⟩
     all_goals
      simp (maxSteps := 1000000) -dsimp (disch := (repeat first | rw [nxn] | rw [nxp]); try omega) only [go_sem, c9', g7, g8, ow, ha, cn, g5, g6]
      exact ⟨n, Nat.lt_succ_self _, trivial, trivial, trivial, q1, q2, n, _, _, _, rfl, q3, rfl, q4, hpf, by simp; omega, rfl⟩
   ·have c2 : ¬ ((r.e : Nat) : Int) = 0 := by omega
    have hpf' : pairsF kind c0 r0 [] = (acc, r) := hpf.trans (pairsF_err he)
    rw [hpf']
    simp (maxSteps := 1000000) -dsimp (disch := (repeat first | rw [nxn] | rw [nxp]); try omega) only [go_sem, g5, g6, g7, g8, c2]
    exact ⟨trivial, trivial, trivial, trivial, fhx, hrr, w, rfl, Ps.of hz⟩
 ·simp (maxSteps := 1000000) -dsimp (disch := (repeat first | rw [nxn] | rw [nxp]); try omega) only [go_sem]
  exact ⟨trivial, trivial, trivial, x13.1, x13, c0, r0, [], .nilsl, rfl, hr3, rfl, .inl ⟨rfl, rfl⟩, rfl, by simp; omega, rfl⟩
 ·rintro ex ⟨tt, gx, d⟩ ⟨rfl, rfl, g5, g6, fh, hrr, w, g7, hw⟩
  dsimp only at g5 g6 fh hrr g7 hw
  generalize pairsF kind c0 r0 [] = q at hrr hw ⊢
  have ow := hw.ln.2.2
  simp (maxSteps := 1000000) -dsimp (disch := (repeat first | rw [nxn] | rw [nxp]); try omega) only [go_sem, g5]
  refine callK_of (rendC hS.toTr2 hrr) ?_
  rintro w1 g1 ⟨⟨k, rfl, hk⟩, rfl⟩
  by_cases h0 : k = 0
  ·have c1 : ((k : Nat) : Int) = 0 := by omega
   obtain ⟨h1, h2⟩ := hk.1 h0
   by_cases hk1 : kind = 1
   ·have ck : ((kind : Nat) : Int) = 1 := by omega
    have ck2 : ¬ ((kind : Nat) : Int) = 2 := by omega
    simp (maxSteps := 1000000) -dsimp (disch := (repeat first | rw [nxn] | rw [nxp]); try omega) only [go_sem, c1, g6, g7, ck, ck2, ow]
    refine ⟨fh, .inr ⟨q.1, false, w, ?_, (by first | trivial | rfl), hw⟩⟩
    simp [h1, h2, hk1]
   ·have ck : ¬ ((kind : Nat) : Int) = 1 := by omega
    by_cases hk2 : kind = 2
    ·have ck2 : ((kind : Nat) : Int) = 2 := by omega
     simp (maxSteps := 1000000) -dsimp (disch := (repeat first | rw [nxn] | rw [nxp]); try omega) only [go_sem, c1, g6, g7, ck, ck2, ow]
     refine ⟨fh, .inr ⟨q.1, true, w, ?_, (by first | trivial | rfl), hw⟩⟩
     simp [h1, h2, hk2]
    ·have ck2 : ¬ ((kind : Nat) : Int) = 2 := by omega
     simp (maxSteps := 1000000) -dsimp (disch := (repeat first | rw [nxn] | rw [nxp]); try omega) only [go_sem, c1, g6, g7, ck, ck2, ow]
     refine ⟨fh, .inl ⟨?_, (by first | trivial | rfl)⟩⟩
     simp [h1, h2, hk1, hk2]
  ·have c1 : ¬ ((k : Nat) : Int) = 0 := by omega
   simp (maxSteps := 1000000) -dsimp (disch := (repeat first | rw [nxn] | rw [nxp]); try omega) only [go_sem, c1, g6, g7, ow]
   refine ⟨fh, .inl ⟨?_, (by first | trivial | rfl)⟩⟩
   have : q.2.e ≠ 0 ∨ q.2.b ≠ [] := by
    by_cases h1 : q.2.e = 0
    ·exact .inr fun h2 => h0 (hk.2 ⟨h1, h2⟩)
    ·exact .inl h1
   rcases this with h1 | h1 <;> simp [h1]
end
end Go.Proofs.YtmphlckolampoaaGreatDoor.tbl
