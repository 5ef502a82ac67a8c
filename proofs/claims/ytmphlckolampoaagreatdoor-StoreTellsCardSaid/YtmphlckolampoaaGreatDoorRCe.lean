/- What the program's reader reads. Conditions: those of its summaries. -/
import Derived.Test.YtmphlckolampoaaGreatDoorRCd
namespace Go.Proofs.YtmphlckolampoaaGreatDoor.tbl
open Go Go.Abs Go.Abs.Rec Go.Proofs
set_option maxRecDepth 100000
set_option linter.unusedVariables false
set_option linter.unusedSimpArgs false
theorem neRd (h : AH) (a : Nat) : binA Tryz.prog h .neq 127 (.ptr a 0) .nilptr = some (.bool true) := by kernel_rfl
theorem nePl (h : AH) (a : Nat) : binA Tryz.prog h .neq 153 (.ptr a 0) .nilptr = some (.bool true) := by kernel_rfl
theorem eqRd (h : AH) (a : Nat) : binA Tryz.prog h .eql 127 (.ptr a 0) .nilptr = some (.bool false) := by kernel_rfl
theorem eqPl (h : AH) (a : Nat) : binA Tryz.prog h .eql 153 (.ptr a 0) .nilptr = some (.bool false) := by kernel_rfl
/-- A reader in memory. -/
structure RdA (R p : Nat) (h : AH) (s : Rd) : Prop where
 hR : h.get R = some (.cells [.ptr p 0] true false)
 Rn : R < h.nx
 ne : R ≠ p
 pn : p < h.nx
 hp : ∃ bv, h.get p = some (.cells [bv, .int .i64 (s.e : Nat), .bool true] true false) ∧ Bs h bv s.b ∧ Nb p bv
 b : ∀ b ∈ s.b, b < 256
 l : s.b.length ≤ 100000000
theorem RdA.set {R p : Nat} {h h' : AH} {s s' : Rd} (hr : RdA R p h s) (f : Fx p h h') {bv : AV} (hp : h'.get p = some (.cells [bv, .int .i64 (s'.e : Nat), .bool true] true false)) (hb : Bs h bv s'.b) (hn : Nb p bv) (hl : ∀ b ∈ s'.b, b < 256) (hlen : s'.b.length ≤ 100000000) : RdA R p h' s' :=
 ⟨(f.2 R hr.Rn hr.ne).trans hr.hR, Nat.lt_of_lt_of_le hr.Rn f.1, hr.ne, Nat.lt_of_lt_of_le hr.pn f.1, ⟨bv, hp, bsFx hb hn f, hn⟩, hl, hlen⟩
theorem RdA.fr {R p : Nat} {h h' : AH} {s : Rd} (hr : RdA R p h s) (f : Fr h h') : RdA R p h' s := by
 obtain ⟨bv, hp, hb, hn⟩ := hr.hp
 exact ⟨(f.get R hr.Rn).trans hr.hR, Nat.lt_of_lt_of_le hr.Rn f.nx, hr.ne, Nat.lt_of_lt_of_le hr.pn f.nx, ⟨bv, (f.get p hr.pn).trans hp, hb.fr f, hn⟩, hr.b, hr.l⟩
theorem RdA.lo {R p n0 : Nat} {h h' : AH} {s : Rd} (hr : RdA R p h s) (hR : R < n0) (hp : p < n0) (hn : n0 ≤ h'.nx) (ho : ∀ j, j < n0 → h'.get j = h.get j) : RdA R p h' s := by
 obtain ⟨bv, hpv, hb, hnb⟩ := hr.hp
 refine ⟨(ho R hR).trans hr.hR, Nat.lt_of_lt_of_le hR hn, hr.ne, Nat.lt_of_lt_of_le hp hn, ⟨bv, (ho p hp).trans hpv, ?_, hnb⟩, hr.b, hr.l⟩
 rcases hb with h1 | ⟨id, off, c, cs, o, t, h1, h2, h3, h4⟩
 ·exact .inl h1
 ·have := hnb _ _ _ _ _ h1
  exact .inr ⟨id, off, c, cs, o, t, h1, (ho id (by omega)).trans h2, by omega, h4⟩
theorem Fx.put2 {p q : Nat} {h h' : AH} (f : Fx p h h') (hq : h.nx ≤ q) (o : AO) : Fx p h (h'.put q o) := ⟨f.1, fun j hj hne => (AH.get_put_ne (by omega)).trans (f.2 j hj hne)⟩
theorem ezFx {z p n0 : Nat} {h h' : AH} {v : AV} {l : List AV} (hb : Ez z n0 h v l) (hp : p < n0) (f : Fx p h h') : Ez z n0 h' v l := by
 rcases hb with h1 | ⟨id, n, c, tx, h1, h2, h3, h4, h5⟩
 ·exact .inl h1
 ·exact .inr ⟨id, n, c, tx, h1, (f.2 id h3 (by omega)).trans h2, Nat.lt_of_lt_of_le h3 f.1, h4, h5⟩
theorem Fx.draw (p : Nat) (h : AH) (n : Nat) (o : AO) : Fx p h (({ tr := h.tr, nx := h.nx + n } : AH).put p o) := ⟨by show h.nx ≤ h.nx + n; omega, fun j hj hne => (AH.get_put_ne hne).trans rfl⟩
theorem Fx.put (p : Nat) (h : AH) (o : AO) : Fx p h (h.put p o) := ⟨Nat.le_refl _, fun j hj hne => AH.get_put_ne hne⟩
theorem Fx.refl (p : Nat) (h : AH) : Fx p h h := ⟨Nat.le_refl _, fun _ _ _ => rfl⟩
theorem bldPl0 : evBuild Tryz.prog 155 [(0, .nilsl), (2, .bool true)] = some (.agg [.nilsl, .int .i64 0, .bool true]) := by kernel_rfl
theorem bldPl (id o n z : Nat) (c : Option Nat) : evBuild Tryz.prog 155 [(0, .sl id o n z c), (2, .bool true)] = some (.agg [.sl id o n z c, .int .i64 0, .bool true]) := by kernel_rfl
theorem bldRd (a : Nat) : evBuild Tryz.prog 157 [(0, .ptr a 0)] = some (.agg [.ptr a 0]) := by kernel_rfl
section
variable {S : Sums}
set_option maxHeartbeats 4000000 in
theorem rightR (hS : Tr2 S) {R p : Nat} {h : AH} {s : Rd} (hr : RdA R p h s) : RnC Tryz.prog S 106 [.ptr R 0] h fun r h' => r = .bool (decide (s.e = 0)) ∧ h' = h := by
 refine RnC.enter' Tryz.f106 _ 22 [.tmp 2] (hS.nr _ _ _ (by simp)) bd106 Tryz.func106 rfl rfl rfl ?_
 obtain ⟨bv, hp, hb, hn⟩ := hr.hp
 have hR := hr.hR
 by_cases he : s.e = 0
 ·have c1 : ((s.e : Nat) : Int) = 0 := by omega
  simp (maxSteps := 1000000) -dsimp (disch := (repeat first | rw [nxn] | rw [nxp]); try omega) only [go_sem, neRd, nePl, hR, hp, c1]
  simp [he]
 ·have c1 : ¬ ((s.e : Nat) : Int) = 0 := by omega
  simp (maxSteps := 1000000) -dsimp (disch := (repeat first | rw [nxn] | rw [nxp]); try omega) only [go_sem, neRd, nePl, hR, hp, c1]
  simp [he]
set_option maxHeartbeats 4000000 in
theorem failR (hS : Tr2 S) {R p : Nat} {h : AH} {s : Rd} {e : Nat} (hr : RdA R p h s) : RnC Tryz.prog S 108 [.ptr p 0, .int .i64 (e : Nat)] h fun r h' => RdA R p h' ⟨s.b, e⟩ ∧ Fx p h h' := by
 refine RnC.enter' Tryz.f108 _ 8 [] (hS.nr _ _ _ (by simp)) bd108 Tryz.func108 rfl rfl rfl ?_
 obtain ⟨bv, hp, hb, hn⟩ := hr.hp
 simp (maxSteps := 1000000) -dsimp (disch := (repeat first | rw [nxn] | rw [nxp]); try omega) only [go_sem, hp]
 exact ⟨hr.set (Fx.put _ _ _) (AH.get_put_eq rfl) hb hn hr.b hr.l, Fx.put _ _ _⟩
set_option maxHeartbeats 4000000 in
theorem newR (hS : Tr2 S) {h : AH} {v : AV} {l : List Nat} (hv : Bs h v l) (hb : ∀ b ∈ l, b < 256) (hl : l.length ≤ 100000000) : RnC Tryz.prog S 76 [v] h fun r h' => ∃ R p, r = .ptr R 0 ∧ RdA R p h' ⟨l, 0⟩ ∧ h.nx ≤ R ∧ h.nx ≤ p ∧ Fr h h' := by
 refine RnC.enter' Tryz.f76 _ 9 [.tmp 2] (hS.nr _ _ _ (by simp)) bd76 Tryz.func76 rfl rfl rfl ?_
 have ov := (bsOne hv).1
 simp (maxSteps := 1000000) -dsimp (disch := (repeat first | rw [nxn] | rw [nxp]); try omega) only [go_sem, ov]
 refine callK_of (cloB hS.toTw hv (by omega)) ?_
 rintro w g ⟨f1, hw⟩
 have fin : Nb g.nx w → RdA (g.nx + 1) g.nx ((g.new (.cells [w, .int .i64 0, .bool true] true false)).new (.cells [.ptr g.nx 0] true false)) ⟨l, 0⟩ := fun hn =>
  have f2 : Fr g ((g.new (.cells [w, .int .i64 0, .bool true] true false)).new (.cells [.ptr g.nx 0] true false)) := (Fr.new _ _).news _
  ⟨AH.get_new_eq rfl, Nat.lt_succ_self _, by omega, by show g.nx < g.nx + 1 + 1; omega, ⟨w, (AH.get_new_ne (by simp)).trans (AH.get_new_eq rfl), hw.bs.fr f2, hn⟩, hb, hl⟩
 have hnb : Nb g.nx w := by
  rcases hw with ⟨rfl, _⟩ | ⟨id, n, c, tx, rfl, h2, h3, h4, h5⟩
  ·exact fun _ _ _ _ _ hh => by cases hh
  ·exact fun _ _ _ _ _ hh => by cases hh; omega
 have fin' := fin hnb
 rcases hw.shape with rfl | ⟨i5, n5, c5, rfl⟩
 all_goals
  simp (maxSteps := 1000000) -dsimp (disch := (repeat first | rw [nxn] | rw [nxp]); try omega) only [go_sem, bldPl, bldPl0, bldRd]
  exact ⟨_, _, rfl, fin', by have := f1.nx; show h.nx ≤ g.nx + 1; omega, f1.nx, f1.trans ((Fr.new _ _).news _)⟩
set_option maxHeartbeats 8000000 in
theorem rnumC (hS : Tr2 S) {R p : Nat} {h : AH} {s : Rd} (hr : RdA R p h s) : RnC Tryz.prog S 77 [.ptr R 0] h fun r h' => r = .int .u64 (s.num.1 : Nat) ∧ RdA R p h' s.num.2 ∧ Fx p h h' := by
 obtain ⟨bv, hp, hb, hn⟩ := hr.hp
 have hR := hr.hR
 have nr := numR hS hb hr.b (by have := hr.l; omega)
 have ov := (bsOne hb).1
 rcases hrd : rdN s.b with ⟨x, n, e⟩
 rw [hrd] at nr
 dsimp only at nr
 by_cases he : s.e = 0
 ·by_cases hx : e = 0
  ·have hnum : s.num = (x, ⟨s.b.drop n, 0⟩) := by unfold Rd.num; rw [hrd, if_neg (fun hh => hh he), if_neg (fun hh => hh hx)]
   have hle : n ≤ s.b.length := by have := (rdN_len (l := s.b) (by rw [hrd]; exact hx)).2; rw [hrd] at this; exact this
   rw [hnum]
   refine RnC.enter' Tryz.f77 _ 45 [.tmp 2] (hS.nr _ _ _ (by simp)) bd77 Tryz.func77 rfl rfl rfl ?_
   simp (maxSteps := 1000000) -dsimp (disch := (repeat first | rw [nxn] | rw [nxp]); try omega) only [go_sem]
   refine callK_of (rightR hS hr) ?_
   rintro w g ⟨rfl, rfl⟩
   simp (maxSteps := 1000000) -dsimp (disch := (repeat first | rw [nxn] | rw [nxp]); try omega) only [go_sem, he, hR, hp, ov]
   refine callK_of nr ?_
   rintro w g ⟨rfl, rfl⟩
   have c2 : ((e : Nat) : Int) = 0 := by omega
   simp (maxSteps := 1000000) -dsimp (disch := (repeat first | rw [nxn] | rw [nxp]); try omega) only [go_sem, c2]
   refine syDraw.keepN 0 (fun _ => True) (by kernel_rfl) (by kernel_rfl) rfl ?_
   have hp0 := hp
   rw [he] at hp0
   obtain ⟨v', hs', hb', hn'⟩ := bsFrom hb hn hle
   have hl' : (s.b.drop n).length ≤ 100000000 := by have := hr.l; rw [List.length_drop]; omega
   rcases (bsSh hb') with rfl | ⟨i5, o5, n5, z5, c5, rfl⟩
   all_goals
    simp (maxSteps := 1000000) -dsimp (disch := (repeat first | rw [nxn] | rw [nxp]); try omega) only [go_sem, hR, hp0, hs', ov]
    exact ⟨by first | trivial | rfl, hr.set (Fx.draw _ _ _ _) (AH.get_put_eq rfl) hb' hn' (fun b hb2 => hr.b b (List.mem_of_mem_drop hb2)) hl', Fx.draw _ _ _ _⟩
  ·have hnum : s.num = (0, ⟨s.b, e⟩) := by unfold Rd.num; rw [hrd, if_neg (fun hh => hh he), if_pos hx]
   rw [hnum]
   refine RnC.enter' Tryz.f77 _ 45 [.tmp 2] (hS.nr _ _ _ (by simp)) bd77 Tryz.func77 rfl rfl rfl ?_
   simp (maxSteps := 1000000) -dsimp (disch := (repeat first | rw [nxn] | rw [nxp]); try omega) only [go_sem]
   refine callK_of (rightR hS hr) ?_
   rintro w g ⟨rfl, rfl⟩
   simp (maxSteps := 1000000) -dsimp (disch := (repeat first | rw [nxn] | rw [nxp]); try omega) only [go_sem, he, hR, hp, ov]
   refine callK_of nr ?_
   rintro w g ⟨rfl, rfl⟩
   have c2 : ¬ ((e : Nat) : Int) = 0 := by omega
   simp (maxSteps := 1000000) -dsimp (disch := (repeat first | rw [nxn] | rw [nxp]); try omega) only [go_sem, c2, hR]
   refine callK_of (failR hS hr) ?_
   rintro w g2 ⟨k1, k2⟩
   try simp (maxSteps := 1000000) -dsimp (disch := (repeat first | rw [nxn] | rw [nxp]); try omega) only [go_sem]
   exact ⟨by first | trivial | rfl, k1, k2⟩
 ·have hnum : s.num = (0, s) := Rd.num_err he
  rw [hnum]
  refine RnC.enter' Tryz.f77 _ 45 [.tmp 2] (hS.nr _ _ _ (by simp)) bd77 Tryz.func77 rfl rfl rfl ?_
  simp (maxSteps := 1000000) -dsimp (disch := (repeat first | rw [nxn] | rw [nxp]); try omega) only [go_sem]
  refine callK_of (rightR hS hr) ?_
  rintro w g ⟨rfl, rfl⟩
  simp (maxSteps := 1000000) -dsimp (disch := (repeat first | rw [nxn] | rw [nxp]); try omega) only [go_sem, he]
  exact ⟨by first | trivial | rfl, hr, Fx.refl _ _⟩
end
end Go.Proofs.YtmphlckolampoaaGreatDoor.tbl
