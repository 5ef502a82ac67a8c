/- What there is behind a record, by the document. Conditions: those of its summaries. -/
import Derived.Test.YtmphlckolampoaaGreatDoorRCo
namespace Go.Proofs.YtmphlckolampoaaGreatDoor.tbl
open Go Go.Abs Go.Abs.Rec Go.Proofs
set_option maxRecDepth 100000
set_option linter.unusedVariables false
set_option linter.unusedSimpArgs false
theorem bldD0 : evBuild Tryz.prog 30 [] = some (.agg [.nilsl]) := by kernel_rfl
theorem pairsD_at {kind n : Nat} {s : Rd} {acc : KL (List Nat × Bool)} (he : s.e = 0) : pairsD kind (n + 1) s acc = if 1 < (one kind s).1 then none else pairsD kind n (one kind s).2.2 (acc ++ [(one kind s).2.1]) := by
 rw [pairsD, if_neg (fun hh => hh he)]
theorem pairsD_err {kind n : Nat} {s : Rd} {acc : KL (List Nat × Bool)} (he : s.e ≠ 0) : pairsD kind n s acc = some (acc, s) := by
 cases n with
 | zero => rfl
 | succ n => rw [pairsD, if_pos he]
theorem pf_done {L : KL (List Nat)} {l : KL (List Nat × Bool)} {i : Nat} {p : Pr} (h : l[i]? = some p) : pf (doneP L (l.take (i + 1))) = if p.2.2 = true then delP (pf (doneP L (l.take i))) p.1 else putP (pf (doneP L (l.take i))) p.1 (p.2.1, false) := by
 rw [done_take h, pf_put, pf_del]
 split <;> rfl
/-- What a record that the document reads may be. -/
structure FitD (s : List Nat) : Prop where
 len : s.length ≤ 900000
 by256 : ∀ b ∈ s, b < 256
 fit : ∀ l r, pairsD (Rd.mk s 0).num.1 ((Rd.mk s 0).num.2.count 1073741824).1 ((Rd.mk s 0).num.2.count 1073741824).2 [] = some (l, r) → l.length ≤ 4096 ∧ (∀ p ∈ l, p.1.length < 16384 ∧ p.2.1.length < 16384) ∧ (∀ p ∈ ofP l, p.1.length < 16384 ∧ p.2.length < 16384) ∧ (recE (lastD l)).length ≤ 1048576 ∧ (∀ b ∈ recE (lastD l), b < 256) ∧ (allE (ofP l)).length ≤ 1048576 ∧ ∀ b ∈ allE (ofP l), b < 256
theorem psNe {h : AH} {v : AV} {l : KL (List Nat × Bool)} {j : Nat} {o : AO} (hb : Ps h v l) (hj : ∀ id o n z c, v = .sl id o n z c → id ≠ j) : Ps (h.put j o) v l := psPut hb hj
theorem psLt {h : AH} {v : AV} {l : KL (List Nat × Bool)} (hb : Ps h v l) {id o n z : Nat} {c : Option Nat} (hv : v = .sl id o n z c) : id < h.nx := by
 rcases hb with ⟨h1, _⟩ | ⟨id', off, c', cs, o', t, h1, h2, h3, h4⟩
 ·rw [h1] at hv; cases hv
 ·rw [h1] at hv; cases hv; exact h3
section
variable {S : Sums}
set_option maxHeartbeats 32000000 in
theorem tellDC (hS : Te S) {h : AH} {v : AV} {L : KL (List Nat)} {s : List Nat} (hv : Ps h v (pf L)) (hLl : L.length ≤ 50000) (hr0 : riseP L) (fit : FitD s) :
  RnC Tryz.prog S 13 [.agg [v], .str s] h fun r h' => (∃ a, r = .tup [.agg [a], .int .i64 ((tellD L s).2 : Nat)] ∧ Ps h' a (pf (tellD L s).1)) ∧ Fr h h' := by
 refine RnC.enter' Tryz.f13 _ 134 [.cell 4 30, .tmp 5] (hS.ne _ _ _ (by simp)) bd13 Tryz.func13 rfl rfl rfl ?_
 have ov := hv.ln.2.2
 have om := ov
 unfold oneA at om
 simp (maxSteps := 1000000) -dsimp (disch := (repeat first | rw [nxn] | rw [nxp]); try omega) only [go_sem, ov, om, cvSB]
 generalize hg : ((h.new (.cells [v] true false)).new (.cells [.nilsl] true false)) = g
 have ng : g.nx = h.nx + 2 := by rw [← hg]; rfl
 have fg : Fr h g := by rw [← hg]; exact (Fr.new _ _).news _
 have c0 : g.get h.nx = some (.cells [v] true false) := by rw [← hg]; exact (AH.get_new_ne (by simp)).trans (AH.get_new_eq rfl)
 have c1 : g.get (h.nx + 1) = some (.cells [.nilsl] true false) := by rw [← hg]; exact AH.get_new_eq rfl
 have hvg := hv.fr fg
 have hvn : ∀ id o n z c, v = .sl id o n z c → id < h.nx := fun id o n z c hh => psLt hv hh
 have eg2 : h.nx + 1 + 1 = g.nx := by omega
 try rw [eg2]
 refine callK_of (newDC hS.toTx (bsCv g s) fit.by256 (by have := fit.len; omega)) ?_
 rintro w g1 ⟨R, rfl, hrb, hR0', f1'⟩
 have hr : RdD R g1 ⟨s, 0⟩ := ⟨s, 0, hrb, rfl⟩
 have hR0 : g.nx ≤ R := Nat.le_trans (Nat.le_succ _) hR0'
 have f1 : Fr g g1 := (Fr.new _ _).trans f1'
 have hRn := hr.rn
 clear hrb f1' hR0'
 try simp (maxSteps := 1000000) -dsimp (disch := (repeat first | rw [nxn] | rw [nxp]); try omega) only [go_sem]
 refine callK_of (dnumC hS.toTx hr) ?_
 rintro w g2 ⟨rfl, hr2, x2⟩
 try simp (maxSteps := 1000000) -dsimp (disch := (repeat first | rw [nxn] | rw [nxp]); try omega) only [go_sem]
 refine callK_of (dcountC hS.toTx (most := 1073741824) hr2 (by decide)) ?_
 rintro w g3 ⟨rfl, hr3, x3⟩
 have x13 := x2.trans x3
 have hfit := fit.fit
 have hcl : ((Rd.mk s 0).num.2.count 1073741824).2.b.length ≤ s.length := by
  have h1 : (Rd.mk s 0).num.2.b.length ≤ s.length := (Rd.mk s 0).num_le.2
  refine Nat.le_trans ?_ h1
  unfold Rd.count
  split
  ·exact Nat.le_refl _
  ·split
   ·exact Nat.le_refl _
   ·split
    ·exact Nat.le_refl _
    ·simp
 have hcb : ((Rd.mk s 0).num.2.count 1073741824).1 ≤ 1073741824 := by
  unfold Rd.count
  split
  ·exact Nat.zero_le _
  ·split
   ·exact Nat.zero_le _
   ·split
    ·exact Nat.zero_le _
    ·rename_i hh; exact Nat.le_of_not_lt hh
 have htd : tellD L s = match pairsD (Rd.mk s 0).num.1 ((Rd.mk s 0).num.2.count 1073741824).1 ((Rd.mk s 0).num.2.count 1073741824).2 [] with
  | none => ([], 4)
  | some (l, r) => if r.e ≠ 0 ∨ r.b ≠ [] ∨ ((Rd.mk s 0).num.1 ≠ 1 ∧ (Rd.mk s 0).num.1 ≠ 2) then ([], 4) else if (Rd.mk s 0).num.1 = 2 then (if allP (ofP l) = (s, 0) then (ofP l, 0) else ([], 4)) else if recP l = (s, 0) then (doneP L l, 0) else ([], 4) := rfl
 rw [htd]
 clear htd
 generalize ((Rd.mk s 0).num.2.count 1073741824).2 = r0 at hr3 hcl hfit ⊢
 generalize ((Rd.mk s 0).num.2.count 1073741824).1 = n0 at hcb hfit ⊢
 generalize (Rd.mk s 0).num.1 = kind at hfit ⊢
 have hslen := fit.len
 -- the way out with an error
 have bad : ∀ gg : AH, Fr g gg → gg.get (h.nx + 1) = some (.cells [.nilsl] true false) ∧ Fr g (gg.put (h.nx + 1) (.cells [.nilsl] true false)) := fun gg f => by
  refine ⟨(f.get _ (by omega)).trans c1, f.nx, fun j hj => ?_⟩
  by_cases hj2 : j = h.nx + 1
  ·subst hj2
   rw [c1]; exact AH.get_put_eq rfl
  ·exact (AH.get_put_ne hj2).trans (f.get j hj)
 try simp (maxSteps := 1000000) -dsimp (disch := (repeat first | rw [nxn] | rw [nxp]); try omega) only [go_sem]
 refine loopK_of (RnL.rounds (Q := fun ex u => u.d = [] ∧ Fr g u.h ∧ u.t.get 2 = some (.ptr h.nx 0) ∧ u.t.get 4 = some (.ptr (h.nx + 1) 0) ∧ ((ex = .ret ∧ pairsD kind n0 r0 [] = none ∧ u.t.get 5 = some (.int .i64 4)) ∨ (ex = .exit 0 ∧ ∃ l r, pairsD kind n0 r0 [] = some (l, r) ∧ u.t.get 1 = some (.str s) ∧ u.t.get 6 = some (.ptr R 0) ∧ u.t.get 7 = some (.int .u64 (kind : Nat)) ∧ RdD R u.h r ∧ ∃ w, u.t.get 9 = some w ∧ Ps u.h w l ∧ ∀ id o n z c, w = .sl id o n z c → g.nx ≤ id)))
  (fun m u => u.d = [] ∧ u.t.get 1 = some (.str s) ∧ u.t.get 2 = some (.ptr h.nx 0) ∧ u.t.get 4 = some (.ptr (h.nx + 1) 0) ∧ u.t.get 6 = some (.ptr R 0) ∧ u.t.get 7 = some (.int .u64 (kind : Nat)) ∧ g1.nx ≤ u.h.nx ∧ Fx R g1 u.h ∧ ∃ (n : Nat) (r : Rd) (acc : KL (List Nat × Bool)) (w : AV), u.t.get 8 = some (.int .i64 (n : Nat)) ∧ RdD R u.h r ∧ u.t.get 9 = some w ∧ Ez 3 g1.nx u.h w (acc.flatMap pc) ∧ pairsD kind n0 r0 [] = pairsD kind n r acc ∧ (r.e = 0 → acc.length + r.b.length ≤ s.length) ∧ n ≤ 1073741824 ∧ m = n) ?_ n0 ?_) ?_
 ·rintro m ⟨tt, gx, d⟩ ⟨e9, t1, t2, t4, g6, g7, hnx, fx, n, r, acc, w, g8, hrr, g9, hz, hpf, han, hn30, rfl⟩
  dsimp only at e9 t1 t2 t4 g6 g7 hnx fx g8 hrr g9 hz
  subst e9
  have fgx : Fr g gx := fx.fr f1 hR0
  have ow := (Ez.one hz).2
  obtain ⟨B0, I0, hrb0, hrs0⟩ := hrr
  obtain ⟨bv0, hRc0, _⟩ := hrb0.hR
  have hrr : RdD R gx r := ⟨B0, I0, hrb0, hrs0⟩
  cases m with
  | zero =>
   have c2 : ¬ (0 : Int) < 0 := by omega
   have hpf' : pairsD kind n0 r0 [] = some (acc, r) := hpf
   rw [hpf']
   simp (maxSteps := 1000000) -dsimp (disch := (repeat first | rw [nxn] | rw [nxp]); try omega) only [go_sem, t1, t2, t4, g6, g7, g8, g9, c2]
   exact ⟨trivial, fgx, trivial, trivial, .inr ⟨trivial, acc, r, rfl, trivial, trivial, trivial, hrr, w, rfl, Ps.of hz, fun id o n z c hh => by have := ezGe hz hh; have := f1.nx; omega⟩⟩
  | succ n =>
   have c1 : (0 : Int) < ((n + 1 : Nat) : Int) := by omega
   have c1' : (0 : Int) < ((n : Nat) : Int) + 1 := by omega
   have cn : ((n + 1 : Nat) : Int) - 1 = ((n : Nat) : Int) := by omega
   by_cases he : r.e = 0
   ·have c2 : ((r.e : Nat) : Int) = 0 := by omega
    have hacc := han he
    have hone1 := one_le kind r
    rw [pairsD_at he] at hpf
    generalize hg4 : ((gx.new (.cells [.str [], .str [], .bool false] true false)).put gx.nx (.cells [.str [], .str [], .bool false] true false)) = g4'
    have n4 : g4'.nx = gx.nx + 1 := by rw [← hg4]; rfl
    have f4' : Fr gx g4' := by rw [← hg4]; exact (Fr.new _ _).put _ (Nat.le_refl _)
    have c4' : g4'.get gx.nx = some (.cells [.str [], .str [], .bool false] true false) := by rw [← hg4]; exact AH.get_put_eq rfl
    have hr4 := hrr.fr f4'
    have x4 : Fx R gx g4' := Fx.of f4'
    have qp : R < gx.nx := by omega
    have fin : ∀ (ge : AH) (N : Nat) (rs : Rd) (k x : List Nat) (b : Bool), ge.nx = N → Fx R gx ge → RdD R ge rs → ge.get gx.nx = some (.cells [.str k, .str x, .bool b] true false) → gx.nx < ge.nx →
      ∃ w' h', evAppend Tryz.prog (ge.new (.cells [.str k, .str x, .bool b] true false)) #[22, 22] w (.sl N 0 1 3 (some 1)) = some (.val w' h') ∧ oneA w' = true ∧ g1.nx ≤ h'.nx ∧ Fx R g1 h' ∧ RdD R h' rs ∧ Ez 3 g1.nx h' w' ((acc ++ [(k, (x, b))]).flatMap pc) := fun ge N rs k x b hN xe hre hce hlt => by
     subst hN
     have hze := ezFx hz (by omega) xe
     have fge : Fr { tr := (ge.new (.cells [.str k, .str x, .bool b] true false)).tr, nx := g1.nx } (ge.new (.cells [.str k, .str x, .bool b] true false)) := ⟨by show g1.nx ≤ ge.nx + 1; omega, fun _ _ => rfl⟩
     obtain ⟨w', h', ha, hf', hz', ow'⟩ := appP (h0 := { tr := (ge.new (.cells [.str k, .str x, .bool b] true false)).tr, nx := g1.nx }) (h := ge.new (.cells [.str k, .str x, .bool b] true false)) (v := w) (l := acc) (m := [(k, (x, b))]) (hze.fr (Fr.new _ _)) (ps1 (AH.get_new_eq rfl) (Nat.lt_succ_self _)) fge (by simp; omega)
     have ho : ∀ j, j < g1.nx → h'.get j = ge.get j := fun j hj => (hf'.get j hj).trans (AH.get_new_ne (by omega))
     exact ⟨w', h', ha, ow', hf'.nx, ⟨hf'.nx, fun j hj hne => (ho j hj).trans ((xe.2 j (by omega) hne).trans (fx.2 j hj hne))⟩, hre.lo hRn hf'.nx ho, hz'⟩
    simp (maxSteps := 1000000) -dsimp (disch := (repeat first | rw [nxn] | rw [nxp]); try omega) only [go_sem, t1, t2, t4, g6, g7, g8, g9, c1, c1', hRc0, c2, bldP0]
    rw [hg4]
    by_cases hk : kind = 1
    ·have ck : ((kind : Nat) : Int) = 1 := by omega
     simp (maxSteps := 1000000) -dsimp (disch := (repeat first | rw [nxn] | rw [nxp]); try omega) only [go_sem, ck, g6, g7]
     refine callK_of (dnumC hS.toTx hr4) ?_
     rintro w5 g5' ⟨rfl, hr5, x5⟩
     have c5 : g5'.get gx.nx = _ := (x5.2 _ (by omega) (by omega)).trans c4'
     by_cases hx0 : r.num.1 = 0
     ·have hone := oneA1 hk hx0
      rw [hone] at hpf hone1
      rw [if_neg (show ¬ (1 : Nat) < 0 by decide)] at hpf
      have c6 : ((r.num.1 : Nat) : Int) = 0 := by omega
      have c61 : ¬ (1 : Int) < 0 := by omega
      simp (maxSteps := 1000000) -dsimp (disch := (repeat first | rw [nxn] | rw [nxp]); try omega) only [go_sem, c5, c6, c61, g6]
      generalize hg6 : (g5'.put gx.nx (.cells [.str [], .str [], .bool true] true false)) = g6'
      have c6' : g6'.get gx.nx = some (.cells [.str [], .str [], .bool true] true false) := by rw [← hg6]; exact AH.get_put_eq rfl
      have n6 : g6'.nx = g5'.nx := by rw [← hg6]; rfl
      have n5 := x5.1
      have x6 : Fx R gx g6' := by rw [← hg6]; exact (x4.trans x5).put2 (Nat.le_refl _) _
      have hr6 : RdD R g6' r.num.2 := hr5.lo (n0 := gx.nx) (by omega) (by omega) fun j hj => by rw [← hg6]; exact AH.get_put_ne (by omega)
      refine callK_of (dpieceC hS.toTx hr6) ?_
      rintro w7 g7' ⟨rfl, hr7, x7⟩
      have n7 := x7.1
      have c7' : g7'.get gx.nx = _ := (x7.2 _ (by omega) (by omega)).trans c6'
      obtain ⟨w', h', ha, ow', q1, q2, q3, q4⟩ := fin (g7'.put gx.nx (.cells [.str r.num.2.piece.1, .str [], .bool true] true false)) g7'.nx r.num.2.piece.2 r.num.2.piece.1 [] true rfl ((x6.trans x7).put2 (Nat.le_refl _) _) (hr7.lo (n0 := gx.nx) (by omega) (by show gx.nx ≤ g7'.nx; omega) fun j hj => AH.get_put_ne (by omega)) (AH.get_put_eq rfl) (by show gx.nx < g7'.nx; omega)
      rcases ezShape q4 with rfl | ⟨ii9, nn9, cc9, rfl⟩
      all_goals
       simp (maxSteps := 1000000) -dsimp (disch := (repeat first | rw [nxn] | rw [nxp]); try omega) only [go_sem, c7', t1, t2, t4, g8, g9, ow, ha, cn, g6, g7]
       exact ⟨n, Nat.lt_succ_self _, trivial, trivial, trivial, trivial, trivial, trivial, q1, q2, n, _, _, _, rfl, q3, rfl, q4, hpf, fun hh => by have := hone1.1 hh; simp only [List.length_append, List.length_singleton] at this ⊢; omega, by omega, rfl⟩
     ·have hone := oneB1 hk hx0
      rw [hone] at hpf hone1
      have c6 : ¬ ((r.num.1 : Nat) : Int) = 0 := by omega
      by_cases hx1 : 1 < r.num.1
      ·rw [if_pos hx1] at hpf
       have c61 : (1 : Int) < ((r.num.1 : Nat) : Int) := by omega
       have n5 := x5.1
       obtain ⟨b1, b2⟩ := bad (g5'.put gx.nx (.cells [.str [], .str [], .bool false] true false)) ⟨by have := fgx.nx; show g.nx ≤ g5'.nx; omega, fun j hj => (AH.get_put_ne (by have := fgx.nx; omega)).trans ((x5.2 j (by have := fgx.nx; omega) (by omega)).trans ((f4'.get j (by have := fgx.nx; omega)).trans (fgx.get j hj)))⟩
       rw [hpf]
       simp (maxSteps := 1000000) -dsimp (disch := (repeat first | rw [nxn] | rw [nxp]); try omega) only [go_sem, c5, c6, c61, g6, t1, t2, t4, b1, bldD0]
       exact ⟨trivial, b2, trivial, trivial, .inl ⟨trivial, trivial, trivial⟩⟩
      ·rw [if_neg hx1] at hpf
       have c61 : ¬ (1 : Int) < ((r.num.1 : Nat) : Int) := by omega
       simp (maxSteps := 1000000) -dsimp (disch := (repeat first | rw [nxn] | rw [nxp]); try omega) only [go_sem, c5, c6, c61, g6]
       generalize hg6 : (g5'.put gx.nx (.cells [.str [], .str [], .bool false] true false)) = g6'
       have c6' : g6'.get gx.nx = some (.cells [.str [], .str [], .bool false] true false) := by rw [← hg6]; exact AH.get_put_eq rfl
       have n6 : g6'.nx = g5'.nx := by rw [← hg6]; rfl
       have n5 := x5.1
       have x6 : Fx R gx g6' := by rw [← hg6]; exact (x4.trans x5).put2 (Nat.le_refl _) _
       have hr6 : RdD R g6' r.num.2 := hr5.lo (n0 := gx.nx) (by omega) (by omega) fun j hj => by rw [← hg6]; exact AH.get_put_ne (by omega)
       refine callK_of (dpieceC hS.toTx hr6) ?_
       rintro w7 g7' ⟨rfl, hr7, x7⟩
       have n7 := x7.1
       have c7' : g7'.get gx.nx = _ := (x7.2 _ (by omega) (by omega)).trans c6'
       simp (maxSteps := 1000000) -dsimp (disch := (repeat first | rw [nxn] | rw [nxp]); try omega) only [go_sem, c7', g6]
       generalize hg8 : (g7'.put gx.nx (.cells [.str r.num.2.piece.1, .str [], .bool false] true false)) = g8'
       have c8' : g8'.get gx.nx = some (.cells [.str r.num.2.piece.1, .str [], .bool false] true false) := by rw [← hg8]; exact AH.get_put_eq rfl
       have n8 : g8'.nx = g7'.nx := by rw [← hg8]; rfl
       have x8 : Fx R gx g8' := by rw [← hg8]; exact (x6.trans x7).put2 (Nat.le_refl _) _
       have hr8 : RdD R g8' r.num.2.piece.2 := hr7.lo (n0 := gx.nx) (by omega) (by omega) fun j hj => by rw [← hg8]; exact AH.get_put_ne (by omega)
       refine callK_of (dpieceC hS.toTx hr8) ?_
       rintro w9 g9' ⟨rfl, hr9, x9⟩
       have n9 := x9.1
       have c9' : g9'.get gx.nx = _ := (x9.2 _ (by omega) (by omega)).trans c8'
       obtain ⟨w', h', ha, ow', q1, q2, q3, q4⟩ := fin (g9'.put gx.nx (.cells [.str r.num.2.piece.1, .str r.num.2.piece.2.piece.1, .bool false] true false)) g9'.nx r.num.2.piece.2.piece.2 r.num.2.piece.1 r.num.2.piece.2.piece.1 false rfl ((x8.trans x9).put2 (Nat.le_refl _) _) (hr9.lo (n0 := gx.nx) (by omega) (by show gx.nx ≤ g9'.nx; omega) fun j hj => AH.get_put_ne (by omega)) (AH.get_put_eq rfl) (by show gx.nx < g9'.nx; omega)
       rcases ezShape q4 with rfl | ⟨ii9, nn9, cc9, rfl⟩
       all_goals
        simp (maxSteps := 1000000) -dsimp (disch := (repeat first | rw [nxn] | rw [nxp]); try omega) only [go_sem, c9', t1, t2, t4, g8, g9, ow, ha, cn, g6, g7]
        exact ⟨n, Nat.lt_succ_self _, trivial, trivial, trivial, trivial, trivial, trivial, q1, q2, n, _, _, _, rfl, q3, rfl, q4, hpf, fun hh => by have := hone1.1 hh; simp only [List.length_append, List.length_singleton] at this ⊢; omega, by omega, rfl⟩
    ·have ck : ¬ ((kind : Nat) : Int) = 1 := by omega
     have hone := oneC1 (s := r) hk
     rw [hone] at hpf hone1
     rw [if_neg (show ¬ (1 : Nat) < 1 by decide)] at hpf
     simp (maxSteps := 1000000) -dsimp (disch := (repeat first | rw [nxn] | rw [nxp]); try omega) only [go_sem, ck, g6, g7]
     refine callK_of (dpieceC hS.toTx hr4) ?_
     rintro w7 g7' ⟨rfl, hr7, x7⟩
     have n7 := x7.1
     have c7' : g7'.get gx.nx = _ := (x7.2 _ (by omega) (by omega)).trans c4'
     simp (maxSteps := 1000000) -dsimp (disch := (repeat first | rw [nxn] | rw [nxp]); try omega) only [go_sem, c7', g6]
     generalize hg8 : (g7'.put gx.nx (.cells [.str r.piece.1, .str [], .bool false] true false)) = g8'
     have c8' : g8'.get gx.nx = some (.cells [.str r.piece.1, .str [], .bool false] true false) := by rw [← hg8]; exact AH.get_put_eq rfl
     have n8 : g8'.nx = g7'.nx := by rw [← hg8]; rfl
     have x8 : Fx R gx g8' := by rw [← hg8]; exact (x4.trans x7).put2 (Nat.le_refl _) _
     have hr8 : RdD R g8' r.piece.2 := hr7.lo (n0 := gx.nx) (by omega) (by omega) fun j hj => by rw [← hg8]; exact AH.get_put_ne (by omega)
     refine callK_of (dpieceC hS.toTx hr8) ?_
     rintro w9 g9' ⟨rfl, hr9, x9⟩
     have n9 := x9.1
     have c9' : g9'.get gx.nx = _ := (x9.2 _ (by omega) (by omega)).trans c8'
     obtain ⟨w', h', ha, ow', q1, q2, q3, q4⟩ := fin (g9'.put gx.nx (.cells [.str r.piece.1, .str r.piece.2.piece.1, .bool false] true false)) g9'.nx r.piece.2.piece.2 r.piece.1 r.piece.2.piece.1 false rfl ((x8.trans x9).put2 (Nat.le_refl _) _) (hr9.lo (n0 := gx.nx) (by omega) (by show gx.nx ≤ g9'.nx; omega) fun j hj => AH.get_put_ne (by omega)) (AH.get_put_eq rfl) (by show gx.nx < g9'.nx; omega)
     rcases ezShape q4 with rfl | ⟨ii9, nn9, cc9, rfl⟩
     all_goals
      simp (maxSteps := 1000000) -dsimp (disch := (repeat first | rw [nxn] | rw [nxp]); try omega) only [go_sem, c9', t1, t2, t4, g8, g9, ow, ha, cn, g6, g7]
      exact ⟨n, Nat.lt_succ_self _, trivial, trivial, trivial, trivial, trivial, trivial, q1, q2, n, _, _, _, rfl, q3, rfl, q4, hpf, fun hh => by have := hone1.1 hh; simp only [List.length_append, List.length_singleton] at this ⊢; omega, by omega, rfl⟩
   ·have c2 : ¬ ((r.e : Nat) : Int) = 0 := by omega
    have hpf' : pairsD kind n0 r0 [] = some (acc, r) := hpf.trans (pairsD_err he)
    rw [hpf']
    simp (maxSteps := 1000000) -dsimp (disch := (repeat first | rw [nxn] | rw [nxp]); try omega) only [go_sem, t1, t2, t4, g6, g7, g8, g9, c1, c1', hRc0, c2]
    exact ⟨trivial, fgx, trivial, trivial, .inr ⟨trivial, acc, r, rfl, trivial, trivial, trivial, hrr, w, rfl, Ps.of hz, fun id o n z c hh => by have := ezGe hz hh; have := f1.nx; omega⟩⟩
 ·simp (maxSteps := 1000000) -dsimp (disch := (repeat first | rw [nxn] | rw [nxp]); try omega) only [go_sem]
  exact ⟨trivial, trivial, trivial, trivial, trivial, trivial, x13.1, x13, n0, r0, [], .nilsl, rfl, hr3, rfl, .inl ⟨rfl, rfl⟩, rfl, fun _ => by simpa using hcl, hcb, rfl⟩
 ·rintro ex ⟨tt, gx, d⟩ ⟨e9, fx, t2, t4, ⟨rfl, hpd, t5⟩ | ⟨rfl, l, r, hpd, t1, g6, g7, hrr, w, g9, hw, hwn⟩⟩
  ·dsimp only at e9 fx t2 t4 t5
   subst e9
   rw [hpd]
   have c1x : gx.get (h.nx + 1) = _ := (fx.get _ (by omega)).trans c1
   simp (maxSteps := 1000000) -dsimp (disch := (repeat first | rw [nxn] | rw [nxp]); try omega) only [go_sem, t4, t5, c1x]
   exact ⟨⟨_, by first | trivial | rfl, .inl ⟨rfl, rfl⟩⟩, fg.trans fx⟩
  ·dsimp only at e9 fx t1 t2 t4 g6 g7 hrr g9 hw
   subst e9
   rw [hpd]
   obtain ⟨fl, fp, fo, fr1, fr2, fa1, fa2⟩ := hfit l r hpd
   obtain ⟨lw, sw, ow⟩ := hw.ln
   have hol := ofP_len l
   simp (maxSteps := 1000000) -dsimp (disch := (repeat first | rw [nxn] | rw [nxp]); try omega) only [go_sem, g6]
   refine callK_of (dendC hS.toTx hrr) ?_
   rintro w1 g1e ⟨⟨k, rfl, hk⟩, fe⟩
   have fge := fx.trans fe
   have nge := fge.nx
   have c1e : g1e.get (h.nx + 1) = _ := (fge.get _ (by omega)).trans c1
   have c0e : g1e.get h.nx = _ := (fge.get _ (by omega)).trans c0
   have badE : ∀ gg : AH, Fr g gg → Ps (gg.put (h.nx + 1) (.cells [.nilsl] true false)) .nilsl (pf []) ∧ Fr h (gg.put (h.nx + 1) (.cells [.nilsl] true false)) := fun gg f => ⟨.inl ⟨rfl, rfl⟩, (fg.trans f).put _ (by omega)⟩
   obtain ⟨z1, z2⟩ := badE g1e fge
   by_cases h0 : k = 0
   ·have ck0 : ((k : Nat) : Int) = 0 := by omega
    obtain ⟨he1, he2⟩ := hk.1 h0
    by_cases hk2 : kind = 2
    ·have d1 : ¬ ((kind : Nat) : Int) < 1 := by omega
     have d2 : ¬ (2 : Int) < ((kind : Nat) : Int) := by omega
     have d3 : ((kind : Nat) : Int) = 2 := by omega
     have hif : (if r.e ≠ 0 ∨ r.b ≠ [] ∨ (kind ≠ 1 ∧ kind ≠ 2) then ([], 4) else if kind = 2 then (if allP (ofP l) = (s, 0) then (ofP l, 0) else ([], 4)) else if recP l = (s, 0) then (doneP L l, 0) else ([], 4)) = if allP (ofP l) = (s, 0) then (ofP l, 0) else (([], 4) : KL (List Nat) × Nat) := by
      rw [if_neg (by simp [he1, he2, hk2]), if_pos hk2]
     dsimp only
     rw [hif]
     simp (maxSteps := 1000000) -dsimp (disch := (repeat first | rw [nxn] | rw [nxp]); try omega) only [go_sem, ck0, d1, d2, d3, g7, g9, ow]
     refine callK_of (ofDC hS.toTd (hw.fr fe) (by omega)) ?_
     rintro w2 g2e ⟨⟨a, rfl, ha, hage⟩, f2e⟩
     rw [ofD_eq] at ha
     have n2e := f2e.nx
     have oa := ha.ln.2.2
     generalize hg3 : ((g2e.new (.cells [.nilsl] true false)).put g2e.nx (.cells [a] true false)) = g3e
     have n3e : g3e.nx = g2e.nx + 1 := by rw [← hg3]; rfl
     have f3e : Fr g2e g3e := by rw [← hg3]; exact (Fr.new _ _).put _ (Nat.le_refl _)
     have c3e : g3e.get g2e.nx = some (.cells [a] true false) := by rw [← hg3]; exact AH.get_put_eq rfl
     have hall := allDC hS (ha.fr f3e) (by omega) fo fa1 fa2
     rcases psShape ha with hsh | ⟨i5, o5, n5', c5, hsh⟩
     all_goals
      subst hsh
      try simp (maxSteps := 1000000) -dsimp (disch := (repeat first | rw [nxn] | rw [nxp]); try omega) only [go_sem]
      rw [hg3]
      try simp (maxSteps := 1000000) -dsimp (disch := (repeat first | rw [nxn] | rw [nxp]); try omega) only [go_sem, c3e]
      refine callK_of hall ?_
      rintro w4 g4e ⟨rfl, f4e⟩
      have n4e := f4e.nx
      have c34 : g4e.get g2e.nx = _ := (f4e.get _ (by omega)).trans c3e
      have fg4 : Fr g g4e := ((fge.trans f2e).trans f3e).trans f4e
      have c14 : g4e.get (h.nx + 1) = _ := (fg4.get _ (by omega)).trans c1
      obtain ⟨y1, y2⟩ := badE g4e fg4
      by_cases hee : (allP (ofP l)).2 = 0
      ·have ce : (((allP (ofP l)).2 : Nat) : Int) = 0 := by omega
       by_cases hss : (allP (ofP l)).1 = s
       ·have hs' : decide ((allP (ofP l)).1 = s) = true := decide_eq_true hss
        rw [if_pos (Prod.ext hss hee)]
        simp (maxSteps := 1000000) -dsimp (disch := (repeat first | rw [nxn] | rw [nxp]); try omega) only [go_sem, ce, neSt, hs', c34, c14, t1, t4]
        exact ⟨⟨_, by first | trivial | rfl, psNe ((ha.fr f3e).fr f4e) fun id o n z c hh => by have := hage _ _ _ _ _ hh; omega⟩, (fg.trans fg4).put _ (by omega)⟩
       ·have hs' : decide ((allP (ofP l)).1 = s) = false := decide_eq_false hss
        rw [if_neg (fun hh => hss (congrArg Prod.fst hh))]
        simp (maxSteps := 1000000) -dsimp (disch := (repeat first | rw [nxn] | rw [nxp]); try omega) only [go_sem, ce, neSt, hs', c34, c14, bldD0, t1, t4]
        exact ⟨⟨_, by first | trivial | rfl, y1⟩, y2⟩
      ·have ce : ¬ (((allP (ofP l)).2 : Nat) : Int) = 0 := by omega
       rw [if_neg (fun hh => hee (congrArg Prod.snd hh))]
       simp (maxSteps := 1000000) -dsimp (disch := (repeat first | rw [nxn] | rw [nxp]); try omega) only [go_sem, ce, c34, c14, bldD0, t1, t4]
       exact ⟨⟨_, by first | trivial | rfl, y1⟩, y2⟩
    ·by_cases hk1 : kind = 1
     ·have d1 : ¬ ((kind : Nat) : Int) < 1 := by omega
      have d2 : ¬ (2 : Int) < ((kind : Nat) : Int) := by omega
      have d3 : ¬ ((kind : Nat) : Int) = 2 := by omega
      have hif : (if r.e ≠ 0 ∨ r.b ≠ [] ∨ (kind ≠ 1 ∧ kind ≠ 2) then ([], 4) else if kind = 2 then (if allP (ofP l) = (s, 0) then (ofP l, 0) else ([], 4)) else if recP l = (s, 0) then (doneP L l, 0) else ([], 4)) = if recP l = (s, 0) then (doneP L l, 0) else (([], 4) : KL (List Nat) × Nat) := by
       rw [if_neg (by simp [he1, he2, hk1]), if_neg hk2]
      dsimp only
      rw [hif]
      simp (maxSteps := 1000000) -dsimp (disch := (repeat first | rw [nxn] | rw [nxp]); try omega) only [go_sem, ck0, d1, d2, d3, g7, g9, ow]
      refine callK_of (recoDC hS (hw.fr fe) fl fp fr1 fr2) ?_
      rintro w4 g4e ⟨rfl, f4e⟩
      have n4e := f4e.nx
      have fg4 : Fr g g4e := fge.trans f4e
      have c14 : g4e.get (h.nx + 1) = _ := (fg4.get _ (by omega)).trans c1
      have c04 : g4e.get h.nx = _ := (fg4.get _ (by omega)).trans c0
      obtain ⟨y1, y2⟩ := badE g4e fg4
      have hw4 := (hw.fr fe).fr f4e
      by_cases hee : (recP l).2 = 0
      ·have ce : (((recP l).2 : Nat) : Int) = 0 := by omega
       by_cases hss : (recP l).1 = s
       ·have hs' : decide ((recP l).1 = s) = true := decide_eq_true hss
        rw [if_pos (Prod.ext hss hee)]
        simp (maxSteps := 1000000) -dsimp (disch := (repeat first | rw [nxn] | rw [nxp]); try omega) only [go_sem, ce, neSt, hs', t1]
        refine loopK_of (RnL.rounds (Q := fun ex u => ex = .exit 2 ∧ u.d = [] ∧ u.t.get 2 = some (.ptr h.nx 0) ∧ u.t.get 4 = some (.ptr (h.nx + 1) 0) ∧ g4e.nx ≤ u.h.nx ∧ (∀ j, j < g4e.nx → j ≠ h.nx → u.h.get j = g4e.get j) ∧ ∃ a, u.h.get h.nx = some (.cells [a] true false) ∧ Ps u.h a (pf (doneP L l)) ∧ ∀ id o n z c, a = .sl id o n z c → id < h.nx ∨ g.nx ≤ id)
         (fun m u => u.d = [] ∧ u.t.get 2 = some (.ptr h.nx 0) ∧ u.t.get 4 = some (.ptr (h.nx + 1) 0) ∧ u.t.get 9 = some w ∧ g4e.nx ≤ u.h.nx ∧ (∀ j, j < g4e.nx → j ≠ h.nx → u.h.get j = g4e.get j) ∧ ∃ (i : Nat) (a : AV), u.t.get 17 = some (.int .i64 (i : Nat)) ∧ u.h.get h.nx = some (.cells [a] true false) ∧ Ps u.h a (pf (doneP L (l.take i))) ∧ (∀ id o n z c, a = .sl id o n z c → id < h.nx ∨ g.nx ≤ id) ∧ i ≤ l.length ∧ m = l.length - i) ?_ l.length ?_) ?_
        ·rintro m ⟨tt3, gy, d3'⟩ ⟨e9, s2, s4, s9, hny, hoy, i, a, s17, hcy, hay, hayn, hi, rfl⟩
         dsimp only at e9 s2 s4 s9 hny hoy s17 hcy hay
         subst e9
         obtain ⟨la, sa, oa⟩ := hay.ln
         by_cases c5 : (i : Int) < (l.length : Nat)
         ·have hil : i < l.length := by omega
          obtain ⟨p, hp⟩ : ∃ p, l[i]? = some p := ⟨_, List.getElem?_eq_getElem hil⟩
          obtain ⟨id, off, c, cs, o, tx, rfl, hgi, hidl, hle, hx, x0, x1, x2⟩ := Ps.at hw4 hp
          have hidn := hwn _ _ _ _ _ rfl
          have hgy : gy.get id = _ := (hoy id hidl (by omega)).trans hgi
          have hst := pf_done (L := L) hp
          obtain ⟨hd1, hd2⟩ := done_rise (l.take i) hr0
          rw [List.length_take] at hd2
          have hlen : (pf (doneP L (l.take i))).length ≤ 100000 := by simp only [pf, List.length_map]; omega
          have qend : ∀ (g5 : AH) (a5 : AV) (fy : Fr gy g5) (M : KL (List Nat × Bool)), Ps g5 a5 M → (∀ id o n z c, a5 = .sl id o n z c → id < h.nx ∨ g.nx ≤ id) → Ps (g5.put h.nx (.cells [a5] true false)) a5 M ∧ g4e.nx ≤ g5.nx ∧ ∀ j, j < g4e.nx → j ≠ h.nx → (g5.put h.nx (.cells [a5] true false)).get j = g4e.get j := fun g5 a5 fy M hp5 hn5 =>
           ⟨psNe hp5 fun id o n z c hh => by rcases hn5 _ _ _ _ _ hh with h7 | h7 <;> omega, Nat.le_trans hny fy.nx, fun j hj hne => (AH.get_put_ne hne).trans ((fy.get j (Nat.lt_of_lt_of_le hj hny)).trans (hoy j hj hne))⟩
          cases hgn : p.2.2
          ·rw [hgn] at hst x2
           rw [if_neg (by decide)] at hst
           simp (maxSteps := 1000000) -dsimp (disch := (repeat first | rw [nxn] | rw [nxp]); try omega) only [go_sem, lw, c5, s2, s4, s9, s17, hil, hgy, x2]
           refine syDraw.keepN 0 (fun _ => True) (by kernel_rfl) (by kernel_rfl) rfl ?_
           have fy : Fr gy { tr := gy.tr, nx := gy.nx + 13 } := (Fr.refl gy).more _ (by omega)
           simp (maxSteps := 1000000) -dsimp (disch := (repeat first | rw [nxn] | rw [nxp]); try omega) only [go_sem, hcy, oa, s2, s4, s9, s17, hil, hgy, x0, x1]
           refine callK_of (putD hS.toTd p.1 p.2.1 (hay.fr fy) hlen) ?_
           rintro w5 g5 ⟨⟨a5, rfl, ha5, hge5⟩, f5⟩
           have f5' := fy.trans f5
           have n5 := f5'.nx
           have hc5 : g5.get h.nx = _ := (f5'.get _ (by omega)).trans hcy
           rw [← hst] at ha5
           have hn5 : ∀ id o n z c, a5 = .sl id o n z c → id < h.nx ∨ g.nx ≤ id := fun id o n z c hh => .inr (by have h7 : gy.nx + 13 ≤ id := hge5 _ _ _ _ _ hh; omega)
           obtain ⟨k1, k2, k3⟩ := qend g5 a5 f5' _ ha5 hn5
           rcases psShape ha5 with hsh | ⟨i5, o5, n5', c5', hsh⟩
           all_goals
            subst hsh
            simp (maxSteps := 1000000) -dsimp (disch := (repeat first | rw [nxn] | rw [nxp]); try omega) only [go_sem, hc5, s2, s4, s9, s17]
            exact ⟨l.length - (i + 1), by omega, trivial, trivial, trivial, trivial, k2, k3, i + 1, _, rfl, rfl, k1, hn5, by omega, rfl⟩
          ·rw [hgn] at hst x2
           rw [if_pos rfl] at hst
           simp (maxSteps := 1000000) -dsimp (disch := (repeat first | rw [nxn] | rw [nxp]); try omega) only [go_sem, lw, c5, s2, s4, s9, s17, hil, hgy, x2]
           refine syDraw.keepN 0 (fun _ => True) (by kernel_rfl) (by kernel_rfl) rfl ?_
           have fy : Fr gy { tr := gy.tr, nx := gy.nx + 8 } := (Fr.refl gy).more _ (by omega)
           simp (maxSteps := 1000000) -dsimp (disch := (repeat first | rw [nxn] | rw [nxp]); try omega) only [go_sem, hcy, oa, s2, s4, s9, s17, hil, hgy, x0, x1]
           refine callK_of (dropD hS.toTd p.1 (hay.fr fy) hlen) ?_
           rintro w5 g5 ⟨⟨a5, rfl, ha5, hge5⟩, f5⟩
           have f5' := fy.trans f5
           have n5 := f5'.nx
           have hc5 : g5.get h.nx = _ := (f5'.get _ (by omega)).trans hcy
           rw [← hst] at ha5
           have hn5 : ∀ id o n z c, a5 = .sl id o n z c → id < h.nx ∨ g.nx ≤ id := fun id o n z c hh => by
            rcases hge5 _ _ _ _ _ hh with h7 | h7
            ·exact hayn _ _ _ _ _ (h7.symm.trans hh)
            ·have h8 : gy.nx + 8 ≤ id := h7
             exact .inr (by omega)
           obtain ⟨k1, k2, k3⟩ := qend g5 a5 f5' _ ha5 hn5
           rcases psShape ha5 with hsh | ⟨i5, o5, n5', c5', hsh⟩
           all_goals
            subst hsh
            simp (maxSteps := 1000000) -dsimp (disch := (repeat first | rw [nxn] | rw [nxp]); try omega) only [go_sem, hc5, s2, s4, s9, s17]
            exact ⟨l.length - (i + 1), by omega, trivial, trivial, trivial, trivial, k2, k3, i + 1, _, rfl, rfl, k1, hn5, by omega, rfl⟩
         ·have : i = l.length := by omega
          subst this
          rw [List.take_length] at hay
          simp (maxSteps := 1000000) -dsimp (disch := (repeat first | rw [nxn] | rw [nxp]); try omega) only [go_sem, lw, c5, s2, s4, s9, s17, ow]
          exact ⟨trivial, trivial, trivial, trivial, hny, hoy, a, hcy, hay, hayn⟩
        ·simp (maxSteps := 1000000) -dsimp (disch := (repeat first | rw [nxn] | rw [nxp]); try omega) only [go_sem, t2, t4, g9]
         exact ⟨trivial, trivial, trivial, trivial, Nat.le_refl _, fun j _ _ => by first | rfl | trivial, 0, v, rfl, c04, (hvg.fr fge).fr f4e, fun id o n z c hh => .inl (hvn _ _ _ _ _ hh), Nat.zero_le _, rfl⟩
        ·rintro ex ⟨tt3, gy, d3'⟩ ⟨rfl, e9, s2, s4, hny, hoy, a, hcy, hay, hayn⟩
         dsimp only at e9 s2 s4 hny hoy hcy hay
         subst e9
         have oa := hay.ln.2.2
         have c1y : gy.get (h.nx + 1) = _ := (hoy _ (by omega) (by omega)).trans c14
         have k1 : Ps (gy.put (h.nx + 1) (.cells [a] true false)) a (pf (doneP L l)) := psNe hay fun id o n z c hh => by rcases hayn _ _ _ _ _ hh with h7 | h7 <;> omega
         have k2 : Fr h (gy.put (h.nx + 1) (.cells [a] true false)) := ⟨by show h.nx ≤ gy.nx; omega, fun j hj => (AH.get_put_ne (by omega)).trans ((hoy j (by omega) (by omega)).trans ((fg4.get j (by omega)).trans (fg.get j hj)))⟩
         rcases psShape hay with hsh | ⟨i5, o5, n5', c5', hsh⟩
         all_goals
          subst hsh
          simp (maxSteps := 1000000) -dsimp (disch := (repeat first | rw [nxn] | rw [nxp]); try omega) only [go_sem, hcy, c1y, s2, s4]
          exact ⟨⟨_, by first | trivial | rfl, k1⟩, k2⟩
       ·have hs' : decide ((recP l).1 = s) = false := decide_eq_false hss
        rw [if_neg (fun hh => hss (congrArg Prod.fst hh))]
        simp (maxSteps := 1000000) -dsimp (disch := (repeat first | rw [nxn] | rw [nxp]); try omega) only [go_sem, ce, neSt, hs', c14, bldD0, t1, t4]
        exact ⟨⟨_, by first | trivial | rfl, y1⟩, y2⟩
      ·have ce : ¬ (((recP l).2 : Nat) : Int) = 0 := by omega
       rw [if_neg (fun hh => hee (congrArg Prod.snd hh))]
       simp (maxSteps := 1000000) -dsimp (disch := (repeat first | rw [nxn] | rw [nxp]); try omega) only [go_sem, ce, c14, bldD0, t1, t4]
       exact ⟨⟨_, by first | trivial | rfl, y1⟩, y2⟩
     ·dsimp only
      rw [if_pos (.inr (.inr ⟨hk1, hk2⟩))]
      by_cases hk0 : kind = 0
      ·have d1 : ((kind : Nat) : Int) < 1 := by omega
       simp (maxSteps := 1000000) -dsimp (disch := (repeat first | rw [nxn] | rw [nxp]); try omega) only [go_sem, ck0, d1, g7, t4, c1e, bldD0]
       exact ⟨⟨_, by first | trivial | rfl, z1⟩, z2⟩
      ·have d1 : ¬ ((kind : Nat) : Int) < 1 := by omega
       have d2 : (2 : Int) < ((kind : Nat) : Int) := by omega
       simp (maxSteps := 1000000) -dsimp (disch := (repeat first | rw [nxn] | rw [nxp]); try omega) only [go_sem, ck0, d1, d2, g7, t4, c1e, bldD0]
       exact ⟨⟨_, by first | trivial | rfl, z1⟩, z2⟩
   ·have ck0 : ¬ ((k : Nat) : Int) = 0 := by omega
    have hne : r.e ≠ 0 ∨ r.b ≠ [] ∨ (kind ≠ 1 ∧ kind ≠ 2) := by
     by_cases h1 : r.e = 0
     ·exact .inr (.inl fun h2 => h0 (hk.2 ⟨h1, h2⟩))
     ·exact .inl h1
    dsimp only
    rw [if_pos hne]
    simp (maxSteps := 1000000) -dsimp (disch := (repeat first | rw [nxn] | rw [nxp]); try omega) only [go_sem, ck0, g7, t4, c1e, bldD0]
    exact ⟨⟨_, by first | trivial | rfl, z1⟩, z2⟩
end
end Go.Proofs.YtmphlckolampoaaGreatDoor.tbl
