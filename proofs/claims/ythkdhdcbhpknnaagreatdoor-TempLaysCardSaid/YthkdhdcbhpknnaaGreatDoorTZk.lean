/- The document's tree: Write, Remove. Conditions: those of its summaries. -/
import Derived.Test.YthkdhdcbhpknnaaGreatDoorTZj
import Derived.Test.YthkdhdcbhpknnaaGreatDoorAb7
namespace Go.Proofs.YthkdhdcbhpknnaaGreatDoor.tre
open Go Go.Abs Go.Abs.Wal Go.Proofs
set_option maxRecDepth 100000
set_option linter.unusedVariables false
set_option linter.unusedSimpArgs false
/-- One change more, wherever it lies. -/
theorem Nts.appG {K : Nat → Nat} {g : AH} {ρ : Nat → Nat} {v : AV} {l : List Nte} {d : List AV} {n : Nte} (hb : Nts K g ρ v l) (hl : l.length ≤ 1048576) (hd : NtA ρ d n) {i1 : Nat} (hi : g.get i1 = some (.cells d true false)) :
  ∃ v' h', evAppend Tryz.prog g #[122, 122] v (.sl i1 0 1 4 (some 1)) = some (.val v' h') ∧ oneA v' = true ∧ g.nx ≤ h'.nx ∧ (∀ j, j < g.nx → K j ≠ 6 → h'.get j = g.get j) ∧ ∃ id cs, v' = .sl id 0 (l ++ [n]).length 4 none ∧ g.nx ≤ id ∧ id < h'.nx ∧ h'.get id = some (.cells cs true false) ∧ NtC ρ cs (l ++ [n]) := by
 have hx : firstA g 4 1 (.sl i1 0 1 4 (some 1)) = some d := by
  rw [firstA_sl hi (Nat.le_refl _) (by rw [hd.len]; decide), List.drop_zero]
  have : (1 * 4) = d.length := by rw [hd.len]
  rw [this, List.take_length]
 have hnx : ∀ g : AH, Fr { tr := g.tr, nx := 0 } g := fun g => ⟨Nat.zero_le _, fun j hj => absurd hj (Nat.not_lt_zero _)⟩
 obtain ⟨cs, hez, hcs, hid⟩ : ∃ cs, Ez 4 0 g v cs ∧ NtC ρ cs l ∧ ∀ id o n c, v = .sl id o n 4 c → K id = 6 := by
  rcases hb with ⟨rfl, rfl⟩ | ⟨id, c, cs, rfl, h2, h3, h4, h5, h6⟩
  ·exact ⟨[], .inl ⟨rfl, rfl⟩, rfl, fun id o n c hh => by cases hh⟩
  ·exact ⟨cs, .inr ⟨id, l.length, c, false, rfl, h2, h3, Nat.zero_le _, h5.len, h6, .inl rfl⟩, h5, fun id' o n c hh => by cases hh; exact h4⟩
 obtain ⟨v', h', happ, _, hez', ov', hn', hk', hv'⟩ := Ez.app (P := Tryz.prog) (z := 4) (h0 := { tr := g.tr, nx := 0 }) (h := g) (x := .sl i1 0 1 4 (some 1)) (k := 1) (m := d) Tryz.underlying122 Tryz.underlying122 rfl aiN (by decide) (by decide) hez rfl hx (by rw [hd.len]) hd.one (hnx _) (by rw [hcs.len, hd.len]; omega)
 refine ⟨v', h', happ, ov', hn', fun j hj hkj => hk' j hj fun id o n c hh hji => hkj (by rw [hji]; exact hid _ _ _ _ hh), ?_⟩
 have hc2 := NtC.app hd hcs
 rcases hv' with ⟨h0, _⟩ | ⟨id, m, rfl, hid2⟩
 ·exact absurd h0 (by decide)
 ·rcases hez' with ⟨h1, _⟩ | ⟨id', m', c', tx, h1, h2, h3, h4, h5, h6, h7⟩
  ·cases h1
  ·cases h1
   have ht0 : tx = false := by
    rcases h7 with h7 | ⟨_, h7⟩
    ·exact h7
    ·cases h7
   subst ht0
   have hm : m = (l ++ [n]).length := by
    have := hc2.len
    rw [this] at h5
    omega
   subst hm
   exact ⟨id, _, rfl, hid2, h3, h2, hc2⟩
theorem ezShape {z n0 : Nat} {h : AH} {v : AV} {l : List AV} (hb : Ez z n0 h v l) : v = .nilsl ∨ ∃ id n c, v = .sl id 0 n z c := by
 rcases hb with ⟨h1, _⟩ | ⟨id, n, c, tx, h1, _⟩
 ·exact .inl h1
 ·exact .inr ⟨id, n, c, h1⟩
section
variable {S : Sums}
set_option maxHeartbeats 16000000 in
theorem writeD (hS : Dt S) {K p lv sv nv ρ h R} (hT : Rt K p lv sv nv ρ h R) (hw : Wf R) (hr : riseE R.now) (hm : Sm R) (s : Pth) {b : AV} {l : List Nat} (hbz : Bz K h b l) (hbl : ∀ x ∈ l, x < 256) (hll : l.length ≤ 67108864) :
  RnC Tryz.prog S 77 [.ptr p 0, .str s, b] h fun r h' => r = .int .i64 ((putT R (okP s) s fun _ => l).1 : Nat) ∧ ResD K p h h' (putT R (okP s) s fun _ => l).2 := by
 refine RnC.enter' Tryz.f77 _ 51 [.tmp 6] (hS.nd _ _ _ (by simp)) bd77 Tryz.func77 rfl rfl rfl ?_
 have hpl : p < h.nx := hT.lt (by rw [hT.kp]; decide)
 have f1 : Fr h (h.new (.cells [.str s] true false)) := Fr.new _ _
 simp (maxSteps := 1000000) -dsimp (disch := (repeat first | rw [nxn] | rw [nxp]); try omega) only [go_sem]
 refine callK_of (opD hS (hT.fr f1) hw (l := [s]) (avOne s (AH.get_new_eq rfl) (Nat.lt_succ_self _)) (by simp)) ?_
 have eall : [s].all okP = okP s := by simp
 rw [eall]
 rintro r h2 ⟨rfl, hT2, hn2, ho2⟩
 have gr2 : Gr K h K h2 := (frGr f1 K).trans ((hT.fr f1).grp hn2 ho2)
 have hbz2 := hbz.gr gr2
 unfold putT
 dsimp only
 have e1 := opT_eq R (okP s)
 have hw2 := hw.op (okP s)
 have hrn : riseE (opT R (okP s)).2.now := by rw [e1.2.1]; exact hr
 have hnl : (opT R (okP s)).2.now.length ≤ 16384 := by rw [e1.2.1]; exact hm.now
 have hcl : (opT R (okP s)).2.clock < 1152921504606846976 := by rw [e1.2.2.2.2.1]; exact hm.clock
 have hrm := e1.1
 by_cases c1 : (((opT R (okP s)).1 : Nat) : Int) = 0
 ·have c1n : ¬ ((opT R (okP s)).1 ≠ 0) := by omega
  rw [if_neg c1n]
  clear e1
  generalize (opT R (okP s)).2 = R2 at hT2 hw2 hrn hnl hcl hrm ⊢
  have hp2 := hT2.pp
  have ov := hT2.now.ez.one.2
  simp (maxSteps := 1000000) -dsimp (disch := (repeat first | rw [nxn] | rw [nxp]); try omega) only [go_sem, c1, hp2, ov]
  refine callK_of (findC hS hT2.now.ez hnl s) ?_
  rintro r h3 ⟨rfl, rfl⟩
  cases hv : valS R2.now s with
  | none =>
   simp (maxSteps := 1000000) -dsimp (disch := (repeat first | rw [nxn] | rw [nxp]); try omega) only [go_sem, nilPd]
   exact ⟨by first | trivial | rfl, K, lv, sv, nv, ρ, hT2, gr2⟩
  | some i =>
   dsimp only
   have hi : i < R2.files.length := (hw2.now.2 s i hv).1
   obtain ⟨bv, sv', q1, q2, q3, q4⟩ := hT2.fl i hi
   have fo := fil_ok hw2 i
   have hri : ρ i < h3.nx := hT2.lt (by rw [q4]; decide)
   have hpi : p < h3.nx := hT2.lt (by rw [hT2.kp]; decide)
   obtain ⟨lb, sb, ob⟩ := bsLn q2.bs
   obtain ⟨lx, sx, ox⟩ := bsLn hbz2.1
   have hu := used_le hw2 hnl
   have hroom := hw2.room
   have l1 := fo.2.2.1
   have f3 : Fr h3 { tr := h3.tr, nx := h3.nx + 16 } := (Fr.refl h3).more _ (by omega)
   have hT3 := hT2.fr f3
   simp (maxSteps := 1000000) -dsimp (disch := (repeat first | rw [nxn] | rw [nxp]); try omega) only [go_sem, nilQd]
   refine syDraw.keep (fun id => id < h3.nx) (by kernel_rfl) (by kernel_rfl) ?_
   simp (maxSteps := 1000000) -dsimp (disch := (repeat first | rw [nxn] | rw [nxp]); try omega) only [go_sem, hp2, q1, lx, ox, sx, hpi, hri, true_and, implies_true, sv_int, sv_bool]
   refine callK_of (usedD hS hT3 hw2 hrn hnl) ?_
   rintro r2 h4 ⟨rfl, rfl⟩
   refine ⟨fun id _ => rfl, ?_⟩
   by_cases c2 : R2.room - ((R2.used : Nat) : Int) + (((R2.fil i).b.length : Nat) : Int) < ((l.length : Nat) : Int)
   ·have c2' : R.room < ((R2.used : Nat) : Int) - (((R2.fil i).b.length : Nat) : Int) + ((l.length : Nat) : Int) := by omega
    rw [if_pos c2']
    simp (maxSteps := 1000000) -dsimp (disch := (repeat first | rw [nxn] | rw [nxp]); try omega) only [go_sem, c2, hp2, q1, lb, ob, lx, ox, sx, sb, hpi, hri, true_and, implies_true, sv_int, sv_bool]
    exact ⟨K, lv, sv, nv, ρ, hT3, gr2.trans (frGr f3 K)⟩
   ·have c2' : ¬ R.room < ((R2.used : Nat) : Int) - (((R2.fil i).b.length : Nat) : Int) + ((l.length : Nat) : Int) := by omega
    rw [if_neg c2']
    generalize hgx : ({ tr := h3.tr, nx := h3.nx + 16 } : AH) = gx at f3 hT3
    have ngx : gx.nx = h3.nx + 16 := by rw [← hgx]
    obtain ⟨v2, h4, ha, hf, hb2⟩ := Bo.app (h0 := gx) (h := gx.new (.cells [] true true)) (v := .sl gx.nx 0 0 1 (some 0)) (l := []) Tryz.underlying22 ai5 ⟨gx.nx, some 0, [], true, rfl, AH.get_new_eq rfl, Nat.lt_succ_self _, Nat.le_refl _, rfl, Nat.le_refl _, .inr rfl⟩ ((hbz2.1.fr f3).fr (Fr.new _ _)) (Fr.new _ _) (by simp; omega)
    rw [ngx] at ha
    have gp : gx.get p = _ := (f3.get _ hpi).trans hp2
    have gi : gx.get (ρ i) = _ := (f3.get _ hri).trans q1
    have hT4 := hT3.fr hf
    have hfn := hf.nx
    have q14 : h4.get (ρ i) = _ := (hf.get _ (by omega)).trans ((f3.get _ hri).trans q1)
    have hbn : Bn gx.nx h4 v2 l := .inr (by simpa using hb2)
    have ov2 := (bsLn hbn.bs).2.2
    simp (maxSteps := 1000000) -dsimp (disch := (repeat first | rw [nxn] | rw [nxp]); try omega) only [go_sem, c2, hp2, q1, lb, ob, lx, ox, sx, sb, hpi, hri, true_and, implies_true, sv_int, sv_bool, hgx, ngx, gp, gi, ha, ov2]
    refine callK_of (tickD hS hT4 hcl) ?_
    rintro r5 h5 ⟨rfl, hT5, hn5, ho5⟩
    have kpi : ρ i ≠ p := fun hh => by rw [hh, hT2.kp] at q4; cases q4
    have q5 : h5.get (ρ i) = _ := (ho5 _ kpi).trans q14
    have kc : ∀ j, K j ≠ 0 → ¬ (gx.nx ≤ j ∧ j < h4.nx) := fun j hj hh => by have := hT2.lt hj; omega
    have hf5 : ∀ o o' j, j ≠ p → j ≠ ρ i → j < h4.nx → ((h5.put (ρ i) o).put (ρ i) o').get j = h4.get j := fun o o' j h1 h2 h3 => (AH.get_put_ne h2).trans ((AH.get_put_ne h2).trans (ho5 j h1))
    rcases hbn.shape with rfl | ⟨ra, rn, rc, rfl⟩
    ·rcases hb2 with ⟨id, c, cs, tx, h9, _⟩
     cases h9
    simp (maxSteps := 1000000) -dsimp (disch := (repeat first | rw [nxn] | rw [nxp]); try omega) only [go_sem, q5]
    refine ⟨trivial, fun j => if gx.nx ≤ j ∧ j < h4.nx then 5 else K j, lv, sv, nv, ρ, hT5.file (i := i) hi (f := ⟨l, (R2.fil i).s, R2.clock + 1⟩) (fun j hj => ⟨if_neg (kc j hj), fun hjr => (AH.get_put_ne hjr).trans (AH.get_put_ne hjr)⟩) ⟨_, sv', AH.get_put_eq rfl, ?_, ?_, ?_⟩ (Nat.le_refl _) (fun j hj => ?_), gr2.trans ⟨by show h3.nx ≤ h5.nx; omega, fun j hj hk => ⟨?_, ?_⟩⟩⟩
    ·have e7 := hbn.by (K := fun j => if gx.nx ≤ j ∧ j < h4.nx then 5 else K j) (fun j hj hjl => if_pos ⟨hj, hjl⟩)
     refine e7.mono (fun j hj => ⟨hj, ?_⟩) (by show h4.nx ≤ h5.nx; omega)
     have hj' : (if gx.nx ≤ j ∧ j < h4.nx then 5 else K j) = 5 := hj
     by_cases hin : gx.nx ≤ j ∧ j < h4.nx
     ·exact hf5 _ _ j (by omega) (by omega) hin.2
     ·rw [if_neg hin] at hj'
      have := hT2.lt (j := j) (by omega)
      exact hf5 _ _ j (fun hh => by rw [hh, hT2.kp] at hj'; omega) (fun hh => by rw [hh, q4] at hj'; omega) (by omega)
    ·refine q3.mono (fun j hj => ?_) (by show h3.nx ≤ h5.nx; omega)
     have := hT2.lt (j := j) (by omega)
     refine ⟨?_, (hf5 _ _ j (fun hh => by rw [hh, hT2.kp] at hj; omega) (fun hh => by rw [hh, q4] at hj; omega) (by omega)).trans ((hf.get j (by omega)).trans (f3.get j this))⟩
     show (if gx.nx ≤ j ∧ j < h4.nx then 5 else K j) = 5
     rw [if_neg (by omega)]; exact hj
    ·show (if gx.nx ≤ ρ i ∧ ρ i < h4.nx then 5 else K (ρ i)) = 4
     rw [if_neg (by omega)]; exact q4
    ·have hj' : h5.nx ≤ j := hj
     show (if gx.nx ≤ j ∧ j < h4.nx then 5 else K j) = 0
     rw [if_neg (by omega)]; exact hT2.top j (by omega)
    ·exact (hf5 _ _ j (fun hh => by rw [hh, hT2.kp] at hk; cases hk) (fun hh => by rw [hh, q4] at hk; cases hk) (by omega)).trans ((hf.get j (by omega)).trans (f3.get j hj))
    ·show (if gx.nx ≤ j ∧ j < h4.nx then 5 else K j) = 0
     rw [if_neg (by omega)]; exact hk
 ·have c1n : (opT R (okP s)).1 ≠ 0 := by omega
  rw [if_pos c1n]
  simp (maxSteps := 1000000) -dsimp (disch := (repeat first | rw [nxn] | rw [nxp]); try omega) only [go_sem, c1]
  exact ⟨by first | trivial | rfl, K, lv, sv, nv, ρ, hT2, gr2⟩
set_option maxHeartbeats 16000000 in
theorem rmD (hS : Dt S) {K p lv sv nv ρ h R} (hT : Rt K p lv sv nv ρ h R) (hw : Wf R) (hr : riseE R.now) (hm : Sm R) (s : Pth) :
  RnC Tryz.prog S 32 [.ptr p 0, .str s] h fun r h' => r = .int .i64 ((Go.Abs.rmL R (okP s) s).1 : Nat) ∧ ResD K p h h' (Go.Abs.rmL R (okP s) s).2 := by
 refine RnC.enter' Tryz.f32 _ 47 [.tmp 4] (hS.nd _ _ _ (by simp)) bd32 Tryz.func32 rfl rfl rfl ?_
 have hpl : p < h.nx := hT.lt (by rw [hT.kp]; decide)
 have f1 : Fr h (h.new (.cells [.str s] true false)) := Fr.new _ _
 simp (maxSteps := 1000000) -dsimp (disch := (repeat first | rw [nxn] | rw [nxp]); try omega) only [go_sem]
 refine callK_of (opD hS (hT.fr f1) hw (l := [s]) (avOne s (AH.get_new_eq rfl) (Nat.lt_succ_self _)) (by simp)) ?_
 have eall : [s].all okP = okP s := by simp
 rw [eall]
 rintro r h2 ⟨rfl, hT2, hn2, ho2⟩
 have gr2 : Gr K h K h2 := (frGr f1 K).trans ((hT.fr f1).grp hn2 ho2)
 unfold Go.Abs.rmL
 dsimp only
 have e1 := opT_eq R (okP s)
 have hw2 := hw.op (okP s)
 have hrn : riseE (opT R (okP s)).2.now := by rw [e1.2.1]; exact hr
 have hnl : (opT R (okP s)).2.now.length ≤ 16384 := by rw [e1.2.1]; exact hm.now
 have hcl : (opT R (okP s)).2.clock < 1152921504606846976 := by rw [e1.2.2.2.2.1]; exact hm.clock
 have hnt : (opT R (okP s)).2.notes.length ≤ 1048576 := by rw [e1.2.2.2.1]; exact hm.notes
 by_cases c1 : (((opT R (okP s)).1 : Nat) : Int) = 0
 ·have c1n : ¬ ((opT R (okP s)).1 ≠ 0) := by omega
  rw [if_neg c1n]
  clear e1
  generalize (opT R (okP s)).2 = R2 at hT2 hw2 hrn hnl hcl hnt ⊢
  have hp2 := hT2.pp
  have ov := hT2.now.ez.one.2
  simp (maxSteps := 1000000) -dsimp (disch := (repeat first | rw [nxn] | rw [nxp]); try omega) only [go_sem, c1, hp2, ov]
  refine callK_of (findC hS hT2.now.ez hnl s) ?_
  rintro r h3 ⟨rfl, rfl⟩
  cases hv : valS R2.now s with
  | none =>
   simp (maxSteps := 1000000) -dsimp (disch := (repeat first | rw [nxn] | rw [nxp]); try omega) only [go_sem, nilPd]
   exact ⟨by first | trivial | rfl, K, lv, sv, nv, ρ, hT2, gr2⟩
  | some i =>
   have hpi : p < h3.nx := hT2.lt (by rw [hT2.kp]; decide)
   have b0 : bytesOf { data := #[] } = [] := rfl
   dsimp only
   simp (maxSteps := 1000000) -dsimp (disch := (repeat first | rw [nxn] | rw [nxp]); try omega) only [go_sem, nilQd, b0, bldN3]
   generalize hg4 : ((h3.new (.cells [.int .i64 0, .str [], .str [], .nilptr] true false)).put h3.nx (.cells [.int .i64 3, .str s, .str [], .ptr (ρ i) 0] true false)) = g4
   have n4 : g4.nx = h3.nx + 1 := by rw [← hg4]; rfl
   have f4 : Fr h3 g4 := by rw [← hg4]; exact (Fr.new _ _).put _ (Nat.le_refl _)
   have c4 : g4.get h3.nx = some (.cells [.int .i64 3, .str s, .str [], .ptr (ρ i) 0] true false) := by rw [← hg4]; exact AH.get_put_eq rfl
   have hT4 := hT2.fr f4
   have hp4 := hT4.pp
   have f5 : Fr g4 { tr := g4.tr, nx := g4.nx + 21 } := (Fr.refl g4).more _ (by omega)
   have hT5 := hT4.fr f5
   have sl := hT2.now.ez.one.1
   have sn : sameAV 20 nv nv = true := by
    rcases hT2.nts with ⟨rfl, _⟩ | ⟨id, c, cs, rfl, _⟩
    ·rfl
    ·simp [sameAV]
   have sg : sameAV 20 (.agg [.int .i64 3, .str s, .str [], .ptr (ρ i) 0]) (.agg [.int .i64 3, .str s, .str [], .ptr (ρ i) 0]) = true := by simp [sameAV, sameL, eqL_eq]
   refine syDraw.keepN 15 (fun j => j = p ∨ j = h3.nx) (by kernel_rfl) (by kernel_rfl) rfl ?_
   simp (maxSteps := 1000000) -dsimp (disch := (repeat first | rw [nxn] | rw [nxp]); try omega) only [go_sem, hp4, c4, ov, sl, sg, true_or, or_true, true_and, implies_true, sv_int, sv_bool]
   refine callK_of (doC hS hT5.now.ez hrn hnl (n := .rm s) ⟨ρ i, rfl⟩) ?_
   rintro r6 h6 ⟨hz6, f6⟩
   have n6 : g4.nx + 21 ≤ h6.nx := f6.nx
   have hT6 := hT5.fr f6
   have hp6 := hT6.pp
   have c6 : h6.get h3.nx = _ := (f6.get _ (show h3.nx < g4.nx + 21 by omega)).trans c4
   have k56 : ∀ j, j = p ∨ j = h3.nx → h6.get j = g4.get j := fun j hj => f6.get j (show j < g4.nx + 21 by rcases hj with rfl | rfl <;> omega)
   refine ⟨k56, ?_⟩
   have or6 := hz6.one.2
   have cr6 := ezCells hz6
   have onv : oneA nv = true := by
    rcases hT2.nts with ⟨rfl, _⟩ | ⟨id, c, cs, rfl, _⟩ <;> rfl
   have nt7 : Nts K (h6.put (g4.nx + 13) (.cells [.int .i64 3, .str s, .str [], .ptr (ρ i) 0] true false)) ρ nv R2.notes := hT6.nts.mono (fun j hj => ⟨hj, AH.get_put_ne (fun hh => by have := hT4.lt (j := j) (by omega); omega)⟩) (Nat.le_refl _)
   obtain ⟨nv', h8, ha8, ov8, hn8, ho8, nid, cs8, rfl, hid8, hidl8, hg8, hnc8⟩ := nt7.appG hnt (n := .rm s) (d := [.int .i64 3, .str s, .str [], .ptr (ρ i) 0]) ⟨ρ i, rfl⟩ (i1 := g4.nx + 13) (AH.get_put_eq rfl)
   have hid8' : h6.nx ≤ nid := hid8
   have hn8' : h6.nx ≤ h8.nx := hn8
   have ho8' : ∀ j, j < h6.nx → K j ≠ 6 → j ≠ g4.nx + 13 → h8.get j = h6.get j := fun j hj hk hne => (ho8 j hj hk).trans (AH.get_put_ne hne)
   have kp : K p = 1 := hT2.kp
   have hp8 := (ho8' p (by omega) (by omega) (by omega)).trans hp6
   have k3 : K h3.nx = 0 := hT2.top _ (Nat.le_refl _)
   have ku : ∀ j, j < h3.nx → j ≠ p → K j ≠ 6 → h8.get j = h3.get j := fun j hj hjp hk => (ho8' j (by omega) hk (by omega)).trans ((f6.get j (show j < g4.nx + 21 by omega)).trans (f4.get j hj))
   have hT9 : ∀ hh : AH, hh.nx = h8.nx → (∀ j, j ≠ p → hh.get j = h8.get j) → hh.get p = some (.cells [.int .i64 R2.room, r6, sv, .sl nid 0 (R2.notes ++ [Nte.rm s]).length 4 none, .int .u64 (R2.clock : Nat), .bool R2.off, .int .i64 R2.fuse] true false) → Rt (fun j => if j = nid then 6 else if g4.nx + 21 ≤ j ∧ j < h6.nx then 5 else K j) p r6 sv (.sl nid 0 (R2.notes ++ [Nte.rm s]).length 4 none) ρ hh (noteL R2 (.rm s)) ∧ Gr K h3 (fun j => if j = nid then 6 else if g4.nx + 21 ≤ j ∧ j < h6.nx then 5 else K j) hh := fun hh hhn hho hhp => by
    have kl : ∀ j, j < h3.nx → (if j = nid then 6 else if g4.nx + 21 ≤ j ∧ j < h6.nx then 5 else K j) = K j := fun j hj => by rw [if_neg (by omega), if_neg (by omega)]
    have ne : ∀ j n, K j = n → n ≠ 1 → j ≠ p := fun j n h1 h2 h3 => by rw [h3] at h1; omega
    refine ⟨hT2.setL (fun j hj => ?_) (by omega) rfl ((kl p hpi).trans kp) (fun j hj => ?_) hhp ?_ (hT2.safe.mono (fun j hj => ?_) (by omega)) (.inr ⟨nid, none, cs8, rfl, (hho _ (by omega)).trans hg8, by omega, if_pos rfl, hnc8, .inl rfl⟩), ⟨by omega, fun j hj hk => ⟨?_, (kl j hj).trans hk⟩⟩⟩
    ·have hl := hT2.lt (j := j) (by omega)
     have hjp : j ≠ p := fun hh => by rw [hh, kp] at hj; omega
     exact ⟨kl j hl, (hho j hjp).trans (ku j hl hjp (by omega))⟩
    ·show (if j = nid then 6 else if g4.nx + 21 ≤ j ∧ j < h6.nx then 5 else K j) = 0
     rw [if_neg (by omega), if_neg (by omega)]
     exact hT2.top j (by omega)
    ·have e7 := Ez.en (K := fun j => if j = nid then 6 else if g4.nx + 21 ≤ j ∧ j < h6.nx then 5 else K j) hz6 (fun j hj hjl => by
      have hj' : g4.nx + 21 ≤ j := hj
      show (if j = nid then 6 else if g4.nx + 21 ≤ j ∧ j < h6.nx then 5 else K j) = 5
      rw [if_neg (by omega), if_pos ⟨hj', hjl⟩])
     refine e7.mono (fun j hj => ⟨hj, ?_⟩) (by omega)
     have hj' : (if j = nid then 6 else if g4.nx + 21 ≤ j ∧ j < h6.nx then 5 else K j) = 5 := hj
     have hjn : j ≠ nid := fun hh => by rw [if_pos hh] at hj'; cases hj'
     rw [if_neg hjn] at hj'
     by_cases hin : g4.nx + 21 ≤ j ∧ j < h6.nx
     ·have k0 := hT2.top j (by omega)
      exact (hho j (by omega)).trans (ho8' j hin.2 (by omega) (by omega))
     ·rw [if_neg hin] at hj'
      have hl := hT2.lt (j := j) (by omega)
      exact (hho j (ne j 5 hj' (by decide))).trans (ho8' j (by omega) (by omega) (by omega))
    ·have hl := hT2.lt (j := j) (by omega)
     exact ⟨(kl j hl).trans hj, (hho j (ne j 5 hj (by decide))).trans (ku j hl (ne j 5 hj (by decide)) (by omega))⟩
    ·exact (hho j (ne j 0 hk (by decide))).trans (ku j hj (ne j 0 hk (by decide)) (by omega))
   have keep8 : ∀ j, j = p ∨ j = h3.nx → h8.get j = h6.get j := fun j hj => by
    rcases hj with rfl | rfl
    ·exact ho8' _ (by omega) (by omega) (by omega)
    ·exact ho8' _ (by omega) (by omega) (by omega)
   rcases ezShape hz6 with rfl | ⟨rid, rn, rc, rfl⟩
   all_goals
    simp (maxSteps := 1000000) -dsimp (disch := (repeat first | rw [nxn] | rw [nxp]); try omega) only [go_sem, hp6, c6, ov, sl, sg, sn, or6, cr6, onv, ov8, ha8, hp8, true_or, or_true, true_and, implies_true, sv_int, sv_bool]
    refine ⟨keep8, ?_⟩
    refine callK_of (tickD hS (hT9 _ (by rfl) (by intro j hj; exact (AH.get_put_ne hj).trans (AH.get_put_ne hj)) (by exact AH.get_put_eq rfl)).1 hcl) ?_
    rintro r9 h9 ⟨rfl, hT10, hn10, ho10⟩
    have hn10' : h9.nx = h8.nx := hn10
    try simp (maxSteps := 1000000) -dsimp (disch := (repeat first | rw [nxn] | rw [nxp]); try omega) only [go_sem]
    refine ⟨_, _, _, _, _, hT10, gr2.trans ⟨by omega, fun j hj hk => ?_⟩⟩
    have hjp : j ≠ p := fun hh => by rw [hh, kp] at hk; cases hk
    refine ⟨(ho10 j hjp).trans ((AH.get_put_ne hjp).trans ((AH.get_put_ne hjp).trans (ku j hj hjp (by omega)))), ?_⟩
    show (if j = nid then 6 else if g4.nx + 21 ≤ j ∧ j < h6.nx then 5 else K j) = 0
    rw [if_neg (by omega), if_neg (by omega)]; exact hk
 ·have c1n : (opT R (okP s)).1 ≠ 0 := by omega
  rw [if_pos c1n]
  simp (maxSteps := 1000000) -dsimp (disch := (repeat first | rw [nxn] | rw [nxp]); try omega) only [go_sem, c1]
  exact ⟨by first | trivial | rfl, K, lv, sv, nv, ρ, hT2, gr2⟩
end
end Go.Proofs.YthkdhdcbhpknnaaGreatDoor.tre
