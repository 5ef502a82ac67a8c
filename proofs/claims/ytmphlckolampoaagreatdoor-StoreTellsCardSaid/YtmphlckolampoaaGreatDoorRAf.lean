/- Pairs in memory: slices, append; the program's Range; the kit's Pairs, LightPairs. Conditions: those of its summaries. -/
import Derived.Test.YtmphlckolampoaaGreatDoorRAe
import Derived.Test.YtmphlckolampoaaGreatDoorAb7
namespace Go.Proofs.YtmphlckolampoaaGreatDoor.tbl
open Go Go.Abs Go.Abs.Rec Go.Proofs
set_option maxRecDepth 100000
set_option linter.unusedVariables false
set_option linter.unusedSimpArgs false
theorem Ps.of {n0 : Nat} {h : AH} {v : AV} {l : KL (List Nat × Bool)} (hb : Ez 3 n0 h v (l.flatMap pc)) : Ps h v l := by
 rcases hb with ⟨rfl, h0⟩ | ⟨id, n, c, tx, rfl, h2, h3, h4, h5, h6, h7⟩
 ·refine .inl ⟨rfl, ?_⟩
  have := congrArg List.length h0
  rw [pc_len] at this
  exact List.length_eq_zero_iff.1 (by simp at this; omega)
 ·rw [pc_len] at h5
  have : n = l.length := by omega
  subst this
  refine .inr ⟨id, 0, c, _, true, tx, rfl, h2, h3, fun k hk => ?_, by rw [pc_len]; omega, by rw [List.drop_zero, ← pc_len, List.take_length]⟩
  rcases h6 with h6 | h6
  ·rw [h6] at hk; cases hk
  ·rw [h6] at hk; cases hk; exact Nat.le_refl _
theorem Ps.first {h : AH} {v : AV} {l : KL (List Nat × Bool)} (hb : Ps h v l) : lenA v = some l.length ∧ firstA h 3 l.length v = some (l.flatMap pc) := by
 rcases hb with ⟨rfl, rfl⟩ | ⟨id, off, c, cs, o, tx, rfl, h2, h3, h4, h5, h6⟩
 ·exact ⟨rfl, rfl⟩
 ·exact ⟨rfl, by rw [firstA_sl h2 (Nat.le_refl _) h5, h6]⟩
theorem Ps.to {h : AH} {v : AV} {l : KL (List Nat × Bool)} {n : Nat} (hb : Ps h v l) (hn : n ≤ l.length) : ∃ v', (∀ h1, evSlice Tryz.prog h1 22 v none (some (.int .i64 (n : Nat))) none = some v') ∧ Ps h v' (l.take n) ∧ oneA v' = true ∧ sameAV 20 v' v' = true := by
 rcases hb with ⟨rfl, rfl⟩ | ⟨id, off, c, cs, o, tx, rfl, h2, h3, h4, h5, h6⟩
 ·obtain rfl : n = 0 := by simpa using hn
  refine ⟨.nilsl, fun h1 => ?_, .inl ⟨rfl, rfl⟩, rfl, rfl⟩
  simp [evSlice, Tryz.underlying22, tz51, boundsA, boundA, upTo]
 ·refine ⟨.sl id (off + 0 * 3) (n - 0) 3 (c.map (· - 0)), fun h1 => ?_, .inr ⟨id, off + 0 * 3, c.map (· - 0), cs, o, tx, ?_, h2, h3, ?_, ?_, ?_⟩, rfl, by simp [sameAV]⟩
  ·have hu : upTo ((n : Nat) : Int) (c.getD l.length) = some n := by
    rw [upTo_of (by omega) (by cases c with
     | none => simp; omega
     | some c => simp; have := h4 c rfl; omega)]
    simp
   simp [evSlice, Tryz.underlying22, tz51, boundsA, boundA, hu]
  ·simp; omega
  ·intro k hk
   cases c with
   | none => simp at hk
   | some c => simp at hk; have := h4 c rfl; simp; omega
  ·simp only [List.length_take]; omega
  ·have e : (l.take n).flatMap pc = (l.flatMap pc).take (n * 3) := by
    clear h6 h5 h4
    induction l generalizing n with
    | nil => simp
    | cons p l ih =>
     cases n with
     | zero => simp
     | succ n =>
      rw [List.take_succ_cons, List.flatMap_cons, List.flatMap_cons, ih (n := n) (by simpa using hn)]
      have : (n + 1) * 3 = (pc p).length + n * 3 := by show _ = 3 + _; omega
      rw [this, List.take_length_add_append]
   rw [e, ← h6, List.take_take]
   simp only [List.length_take]
   congr 1
   omega
theorem Ps.frm {h : AH} {v : AV} {l : KL (List Nat × Bool)} {n : Nat} (hb : Ps h v l) (hn : n ≤ l.length) : ∃ v', (∀ h1, evSlice Tryz.prog h1 22 v (some (.int .i64 (n : Nat))) none none = some v') ∧ Ps h v' (l.drop n) ∧ oneA v' = true ∧ sameAV 20 v' v' = true := by
 rcases hb with ⟨rfl, rfl⟩ | ⟨id, off, c, cs, o, tx, rfl, h2, h3, h4, h5, h6⟩
 ·obtain rfl : n = 0 := by simpa using hn
  refine ⟨.nilsl, fun h1 => ?_, .inl ⟨rfl, rfl⟩, rfl, rfl⟩
  simp [evSlice, Tryz.underlying22, tz51, boundsA, boundA, upTo]
 ·refine ⟨.sl id (off + n * 3) (l.length - n) 3 (c.map (· - n)), fun h1 => ?_, .inr ⟨id, off + n * 3, c.map (· - n), cs, o, tx, ?_, h2, h3, ?_, ?_, ?_⟩, rfl, by simp [sameAV]⟩
  ·have hu : upTo ((n : Nat) : Int) l.length = some n := by rw [upTo_of (by omega) (by omega)]; simp
   simp [evSlice, Tryz.underlying22, tz51, boundsA, boundA, hu]
  ·simp
  ·intro k hk
   cases c with
   | none => simp at hk
   | some c => simp at hk; have := h4 c rfl; simp; omega
  ·simp only [List.length_drop]; omega
  ·have e : (l.drop n).flatMap pc = (l.flatMap pc).drop (n * 3) := by
    clear h6 h5 h4
    induction l generalizing n with
    | nil => simp
    | cons p l ih =>
     cases n with
     | zero => simp
     | succ n =>
      rw [List.drop_succ_cons, List.flatMap_cons, ih (n := n) (by simpa using hn)]
      have : (n + 1) * 3 = (pc p).length + n * 3 := by show _ = 3 + _; omega
      rw [this, List.drop_length_add_append]
   rw [e, ← h6, List.drop_take, List.drop_drop]
   simp only [List.length_drop]
   congr 1
   omega
theorem aiP : appI Tryz.prog 51 = some (3, 40) := by kernel_rfl
theorem pc_all (l : KL (List Nat × Bool)) : (l.flatMap pc).all oneA = true := by
 rw [List.all_eq_true]
 intro x hx
 obtain ⟨p, _, hp⟩ := List.mem_flatMap.1 hx
 simp only [pc, List.mem_cons, List.not_mem_nil, or_false] at hp
 rcases hp with rfl | rfl | rfl <;> rfl
theorem appP {h0 h : AH} {v x : AV} {l m : KL (List Nat × Bool)} (hb : Ez 3 h0.nx h v (l.flatMap pc)) (hx : Ps h x m) (hf : Fr h0 h) (hl : l.length + m.length ≤ 1000000) :
  ∃ v' h', evAppend Tryz.prog h #[22, 22] v x = some (.val v' h') ∧ Fr h0 h' ∧ Ez 3 h0.nx h' v' ((l ++ m).flatMap pc) ∧ oneA v' = true := by
 obtain ⟨q1, q2⟩ := hx.first
 obtain ⟨v', h', ha, hf', hz', ov', _⟩ := Ez.app (P := Tryz.prog) (z := 3) (h0 := h0) (h := h) (v := v) (l := l.flatMap pc) (x := x) (k := m.length) (m := m.flatMap pc) Tryz.underlying22 Tryz.underlying22 rfl aiP (by decide) (by decide) hb q1 q2 (pc_len m) (pc_all m) hf (by rw [pc_len, pc_len]; omega)
 exact ⟨v', h', ha, hf', by rw [List.flatMap_append]; exact hz', ov'⟩
/-- A new slice of none. -/
theorem ez0 (h : AH) : Ez 3 h.nx (h.new (.cells [] true true)) (.sl h.nx 0 0 3 (some 0)) (([] : KL (List Nat × Bool)).flatMap pc) := .inr ⟨h.nx, 0, some 0, true, rfl, AH.get_new_eq rfl, Nat.lt_succ_self _, Nat.le_refl _, rfl, .inr rfl, .inr ⟨rfl, rfl⟩⟩
/-- A slice of one, wherever it lies. -/
theorem ps1 {h : AH} {id : Nat} {p : Pr} (hg : h.get id = some (.cells (pc p) true false)) (hid : id < h.nx) : Ps h (.sl id 0 1 3 (some 1)) [p] :=
 .inr ⟨id, 0, some 1, pc p, true, false, rfl, hg, hid, fun k hk => (by cases hk; exact Nat.le_refl _), by show 3 ≤ 3; exact Nat.le_refl _, by simp [pc]⟩
theorem bldP2 (k x : List Nat) : evBuild Tryz.prog 51 [(0, .str k), (1, .str x)] = some (.agg [.str k, .str x, .bool false]) := by kernel_rfl
theorem neSt (h : AH) (a b : List Nat) : binA Tryz.prog h .neq 9 (.str a) (.str b) = some (.bool (!decide (a = b))) := by
 simp [binA, strA, eqL_eq]
def pf (L : KL (List Nat)) : KL (List Nat × Bool) := L.map fun e => (e.1, (e.2, false))
section
variable {S : Sums}
set_option maxHeartbeats 16000000 in
/-- All pairs of a table. -/
theorem rangeC (hS : Tb S) {K : Nat → Nat} {h : AH} {v : AV} {t : Tp} {n : Nat} (hv : TpA K h v t) (hn : n = t.size) (hsz : t.size ≤ 100000) : RnC Tryz.prog S 31 [.agg [v], .str [], .str [], .int .i64 (n : Nat)] h fun r h' => Ps h' r (pf (ino t)) ∧ Fr h h' := by
 refine RnC.enter' Tryz.f31 _ 16 [.tmp 8] (hS.nt _ _ _ (by simp)) bd31 Tryz.func31 rfl rfl rfl ?_
 have ov := hv.one.1
 have om := ov
 unfold oneA at om
 have d1 : ∀ (o1 o2 o3 o4 : AO), ((((h.new o1).new o2).new o3).new o4).get h.nx = some o1 := fun o1 o2 o3 o4 => (AH.get_new_ne (by simp <;> omega)).trans ((AH.get_new_ne (by simp <;> omega)).trans ((AH.get_new_ne (by simp)).trans (AH.get_new_eq rfl)))
 simp (maxSteps := 1000000) -dsimp (disch := (repeat first | rw [nxn] | rw [nxp]); try omega) only [go_sem, ov, om, d1]
 generalize hg : ((((h.new (.cells [v] true false)).new (.cells [.str []] true false)).new (.cells [.int .i64 (n : Nat)] true false)).new (.cells [.nilsl] true false)) = g
 have ng : g.nx = h.nx + 4 := by rw [← hg]; rfl
 have fg : Fr h g := by rw [← hg]; exact (((Fr.new _ _).news _).news _).news _
 have c1 : g.get (h.nx + 1) = some (.cells [.str []] true false) := by rw [← hg]; exact (AH.get_new_ne (by simp <;> omega)).trans ((AH.get_new_ne (by simp)).trans (AH.get_new_eq rfl))
 have c2 : g.get (h.nx + 2) = some (.cells [.int .i64 (n : Nat)] true false) := by rw [← hg]; exact (AH.get_new_ne (by simp)).trans (AH.get_new_eq rfl)
 have c3 : g.get (h.nx + 3) = some (.cells [.nilsl] true false) := by rw [← hg]; exact AH.get_new_eq rfl
 refine callK_of (eachC hS (K := K) (h0 := h) (fn := 74) (cs := [.ptr (h.nx + 3) 0, .ptr (h.nx + 2) 0, .ptr (h.nx + 1) 0]) bd74 rfl (N := n)
  (J := fun pre hh => g.nx ≤ hh.nx ∧ (∀ j, j < g.nx → j ≠ h.nx + 3 → hh.get j = g.get j) ∧ ∃ w, hh.get (h.nx + 3) = some (.cells [w] true false) ∧ Ez 3 g.nx hh w ((pf pre).flatMap pc))
  (fun pre hh ⟨j1, j2, _⟩ => ⟨by omega, fun j hj _ => (j2 j (by omega) (by omega)).trans (fg.get j hj)⟩) ?_ t hv (pre := []) ⟨Nat.le_refl _, fun _ _ _ => rfl, .nilsl, c3, .inl ⟨rfl, rfl⟩⟩ (by rw [hn]; simp)) ?_
 ·rintro pre hh id k x w z lv rv ⟨j1, j2, ww, j3, j4⟩ hpre hid hidl hk0 olv orv
  refine RnC.enter' Tryz.f74 _ 34 [.tmp 5] (hS.nt _ _ _ (by simp)) bd74 Tryz.func74 rfl rfl rfl ?_
  have d1 : hh.get (h.nx + 1) = _ := (j2 _ (by omega) (by omega)).trans c1
  have d2 : hh.get (h.nx + 2) = _ := (j2 _ (by omega) (by omega)).trans c2
  have hps := Ps.of j4
  obtain ⟨lw, sw, ow⟩ := hps.ln
  have hpl : (pf pre).length = pre.length := by simp [pf]
  have c5 : ¬ ((n : Nat) : Int) ≤ (((pf pre).length : Nat) : Int) := by omega
  have bP := bldP2 k x
  simp (maxSteps := 1000000) -dsimp (disch := (repeat first | rw [nxn] | rw [nxp]); try omega) only [go_sem]
  refine syDraw.keepN 0 (fun _ => True) (by kernel_rfl) (by kernel_rfl) rfl ?_
  simp (maxSteps := 1000000) -dsimp (disch := (repeat first | rw [nxn] | rw [nxp]); try omega) only [go_sem, j3, d1, d2, lw, ow, c5, neSt, b0e]
  refine syDraw.keepN 0 (fun _ => True) (by kernel_rfl) (by kernel_rfl) rfl ?_
  have fgh : Fr { tr := hh.tr, nx := g.nx } hh := ⟨j1, fun j hj => rfl⟩
  have f9 : Fr hh (({ tr := hh.tr, nx := hh.nx + 16 + 13 } : AH).put (hh.nx + 16 + 10) (.cells [.str k, .str x, .bool false] true false)) := ((Fr.refl hh).more _ (by omega)).put _ (by omega)
  obtain ⟨w', h', ha, hf', hz', ow'⟩ := appP (h0 := { tr := (({ tr := hh.tr, nx := hh.nx + 16 + 13 } : AH).put (hh.nx + 16 + 10) (.cells [.str k, .str x, .bool false] true false)).tr, nx := g.nx }) (h := ({ tr := hh.tr, nx := hh.nx + 16 + 13 } : AH).put (hh.nx + 16 + 10) (.cells [.str k, .str x, .bool false] true false)) (l := pf pre) (m := [(k, (x, false))]) (j4.fr f9) (ps1 (AH.get_put_eq rfl) (show hh.nx + 16 + 10 < hh.nx + 16 + 13 by omega)) ⟨by show g.nx ≤ hh.nx + 16 + 13; omega, fun _ _ => rfl⟩ (by simp; omega)
  have eX : ∀ j, j < g.nx → (({ tr := hh.tr, nx := hh.nx + 16 + 13 } : AH).put (hh.nx + 16 + 10) (.cells [.str k, .str x, .bool false] true false)).get j = hh.get j := fun j hj => AH.get_put_ne (by omega)
  have c3h : h'.get (h.nx + 3) = some (.cells [ww] true false) := (hf'.get _ (show h.nx + 3 < g.nx by omega)).trans ((eX _ (by omega)).trans j3)
  have fin : ∀ gg : AH, gg.nx = h'.nx → (∀ j, j ≠ h.nx + 3 → gg.get j = h'.get j) → gg.get (h.nx + 3) = some (.cells [w'] true false) → g.nx ≤ gg.nx ∧ (∀ j, j < g.nx → j ≠ h.nx + 3 → gg.get j = g.get j) ∧ Ez 3 g.nx gg w' ((pf (pre ++ [(k, x)])).flatMap pc) := fun gg hn2 ho2 hc2 => by
   have hfn : g.nx ≤ h'.nx := hf'.nx
   refine ⟨by omega, fun j hj hne => (ho2 j hne).trans ((hf'.get j hj).trans ((eX j hj).trans (j2 j hj hne))), ?_⟩
   have e : pf (pre ++ [(k, x)]) = pf pre ++ [(k, (x, false))] := by simp [pf]
   rw [e]
   rcases hz' with h1 | ⟨id', n', c', tx', h1, h2, h3, h4, h5⟩
   ·exact .inl h1
   ·have h4' : g.nx ≤ id' := h4
    exact .inr ⟨id', n', c', tx', h1, (ho2 id' (by omega)).trans h2, by omega, h4, h5⟩
  have shp : w' = .nilsl ∨ ∃ id n c, w' = .sl id 0 n 3 c := by
   rcases hz' with ⟨h1, _⟩ | ⟨id', n', c', tx', h1, _⟩
   ·exact .inl h1
   ·exact .inr ⟨id', n', c', h1⟩
  obtain ⟨k1, k2, k3⟩ := fin (h'.put (h.nx + 3) (.cells [w'] true false)) rfl (fun j hj => AH.get_put_ne hj) (AH.get_put_eq rfl)
  rcases shp with rfl | ⟨sid, sn, sc, rfl⟩
  all_goals
   simp (maxSteps := 1000000) -dsimp (disch := (repeat first | rw [nxn] | rw [nxp]); try omega) only [go_sem, hid, j3, bP, ow, ha, ow', c3h]
   exact ⟨trivial, k1, k2, _, rfl, k3⟩
 ·rintro w g2 ⟨rfl, j1, j2, ww, j3, j4⟩
  have ow := (Ps.of j4).ln.2.2
  simp (maxSteps := 1000000) -dsimp (disch := (repeat first | rw [nxn] | rw [nxp]); try omega) only [go_sem, j3, ow]
  exact ⟨Ps.of j4, ⟨by omega, fun j hj => (j2 j (by omega) (by omega)).trans (fg.get j hj)⟩⟩
end
end Go.Proofs.YtmphlckolampoaaGreatDoor.tbl
